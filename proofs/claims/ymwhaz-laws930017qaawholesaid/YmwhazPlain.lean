/-
  The plain arithmetic under the two laws: the greatest common divisor, the magnitude, the floor. No Go in sight.
-/
namespace Go.Proofs.Ymwhaz

/-- The greatest common divisor of two numbers that are not negative. -/
def gI (a b : Int) : Int := (Nat.gcd a.toNat b.toNat : Int)

theorem gI_zero (a : Int) (ha : 0 ≤ a) : gI a 0 = a := by
  unfold gI
  rw [show (0 : Int).toNat = 0 from rfl, Nat.gcd_zero_right]
  omega

theorem gI_comm (a b : Int) : gI a b = gI b a := by
  unfold gI
  rw [Nat.gcd_comm]

theorem gI_step (a b : Int) (ha : 0 ≤ a) (hb : 0 ≤ b) : gI b (a % b) = gI a b := by
  obtain ⟨x, rfl⟩ := Int.eq_ofNat_of_zero_le ha
  obtain ⟨y, rfl⟩ := Int.eq_ofNat_of_zero_le hb
  unfold gI
  have e : ((x : Int) % (y : Int)).toNat = x % y := by omega
  rw [e, Int.toNat_natCast, Int.toNat_natCast, Nat.gcd_comm y (x % y), ← Nat.gcd_rec, Nat.gcd_comm]

theorem gI_nonneg (a b : Int) : 0 ≤ gI a b := by
  unfold gI
  omega

theorem gI_le_right (a b : Int) (hb : 1 ≤ b) : gI a b ≤ b := by
  unfold gI
  have h := Nat.gcd_le_right (n := b.toNat) a.toNat (by omega)
  omega

theorem gI_pos_right (a b : Int) (hb : 1 ≤ b) : 1 ≤ gI a b := by
  unfold gI
  have h := Nat.gcd_pos_of_pos_right (n := b.toNat) a.toNat (by omega)
  omega

theorem mod_bounds (a b : Int) (hb : 1 ≤ b) : 0 ≤ a % b ∧ a % b < b :=
  ⟨Int.emod_nonneg _ (by omega), Int.emod_lt_of_pos _ (by omega)⟩

/-- The absolute value. -/
def mg (n : Int) : Int := (n.natAbs : Int)
theorem mg_neg (n : Int) (h : n < 0) : mg n = -n := by unfold mg; omega
theorem mg_pos (n : Int) (h : 0 ≤ n) : mg n = n := by unfold mg; omega
theorem mg_bounds (n : Int) (h0 : -9223372036854775808 ≤ n) (h1 : n ≤ 9223372036854775807) : 0 ≤ mg n ∧ mg n ≤ 9223372036854775808 := by unfold mg; omega

/-- Valid: the denominator is at least 1 and the fraction is in lowest terms. -/
def vB (n d : Int) : Bool := decide (1 ≤ d) && (gI (mg n) d == 1)
theorem vB_true (n d : Int) (h : vB n d = true) : 1 ≤ d ∧ gI (mg n) d = 1 := by
  unfold vB at h
  simpa using h
theorem vB_low (n d : Int) (h : d ≤ 0) : vB n d = false := by
  unfold vB
  have h' : ¬ 1 ≤ d := by omega
  simp [h']
theorem vB_gcd (n d : Int) (h : 1 ≤ d) : vB n d = (gI (mg n) d == 1) := by
  unfold vB
  simp [h]

/-! ### The floor: Go's quotient cuts towards nought -/
theorem floor_neg (n d : Int) (hd : 1 ≤ d) (h : n.tmod d < 0) : n.tdiv d - 1 = n / d := by
  have h1 := Int.mul_tdiv_add_tmod n d
  have h2 := Int.tmod_lt_of_pos n (show 0 < d by omega)
  have h3 : -d < n.tmod d := by
    have := Int.natAbs_tmod n d
    have h4 : n.natAbs % d.natAbs < d.natAbs := Nat.mod_lt _ (by omega)
    omega
  have e : n = (n.tmod d + d) + (n.tdiv d - 1) * d := by
    have : (n.tdiv d - 1) * d = d * n.tdiv d - d := by rw [Int.sub_mul, Int.mul_comm, Int.one_mul]
    omega
  have h5 : n / d = ((n.tmod d + d) + (n.tdiv d - 1) * d) / d := by rw [← e]
  rw [h5, Int.add_mul_ediv_right _ _ (by omega), Int.ediv_eq_zero_of_lt (by omega) (by omega)]
  omega

theorem floor_pos (n d : Int) (hd : 1 ≤ d) (h : 0 ≤ n.tmod d) : n.tdiv d = n / d := by
  have h1 := Int.mul_tdiv_add_tmod n d
  have h2 := Int.tmod_lt_of_pos n (show 0 < d by omega)
  have e : n = n.tmod d + n.tdiv d * d := by rw [Int.mul_comm]; omega
  have h5 : n / d = (n.tmod d + n.tdiv d * d) / d := by rw [← e]
  rw [h5, Int.add_mul_ediv_right _ _ (by omega), Int.ediv_eq_zero_of_lt (by omega) (by omega)]
  omega

theorem floor_ceil (n d : Int) (hd : 1 ≤ d) : -((-n + d - 1) / d) = n / d := by
  have h1 := Int.mul_ediv_add_emod n d
  have h2 := mod_bounds n d hd
  have e : -n + d - 1 = (d - 1 - n % d) + (-(n / d)) * d := by
    have : (-(n / d)) * d = -(d * (n / d)) := by rw [Int.neg_mul, Int.mul_comm]
    omega
  rw [e, Int.add_mul_ediv_right _ _ (by omega), Int.ediv_eq_zero_of_lt (by omega) (by omega)]
  omega

theorem floor_bounds (n d : Int) (hd : 1 ≤ d) (h0 : -9223372036854775808 ≤ n) (h1 : n ≤ 9223372036854775807) : -9223372036854775808 ≤ n / d ∧ n / d ≤ 9223372036854775807 := by
  constructor
  · have h : (-9223372036854775808 : Int) * d ≤ n := by omega
    exact (Int.le_ediv_iff_mul_le (by omega)).mpr h
  · by_cases hn : 0 ≤ n
    · have := Int.ediv_le_self (a := n) d hn
      omega
    · have := Int.ediv_neg_of_neg_of_pos (a := n) (b := d) (by omega) (by omega)
      omega

end Go.Proofs.Ymwhaz
