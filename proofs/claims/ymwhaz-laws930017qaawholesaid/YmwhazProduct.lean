/-
  THE WALK OF product (function 12).
-/
import Derived.Test.YmwhazMul
import Derived.Test.YmwhazPack
namespace Go.Proofs.Ymwhaz
open Go.RowKit

theorem quo_bounds (a g : Int) (ha : 0 ≤ a) (hg : 1 ≤ g) : 0 ≤ a / g ∧ a / g ≤ a :=
  ⟨Int.ediv_nonneg ha (by omega), Int.ediv_le_self _ ha⟩

/-- The upper word says whether the product fits a word; if it does, the lower word is the product. -/
theorem mhi_zero (x y : Int) (hx : 0 ≤ x) (hy : 0 ≤ y) (h : mhi x y = 0) : mlo x y = x * y ∧ x * y < 18446744073709551616 := by
  have h0 := Int.mul_nonneg hx hy
  unfold mhi at h
  unfold mlo
  generalize x * y = p at h0 h ⊢
  omega
theorem mhi_ne (x y : Int) (hx : 0 ≤ x) (hy : 0 ≤ y) (h : ¬ mhi x y = 0) : 18446744073709551616 ≤ x * y := by
  have h0 := Int.mul_nonneg hx hy
  unfold mhi at h
  generalize x * y = p at h0 h ⊢
  omega
theorem mlo_bounds (x y : Int) : 0 ≤ mlo x y ∧ mlo x y < 18446744073709551616 := by
  unfold mlo
  generalize x * y = p
  omega

set_option maxHeartbeats 400000 in
/-- rational.product. -/
theorem product12 (neg : Bool) (a b c d : Int) (ha0 : 0 ≤ a) (ha1 : a < 18446744073709551616) (hb0 : 1 ≤ b) (hb1 : b < 18446744073709551616) (hc0 : 0 ≤ c) (hc1 : c < 18446744073709551616) (hd0 : 1 ≤ d) (hd1 : d < 18446744073709551616) (w : World) :
    Calls Yazv.prog 12 #[.bool neg, .int .u64 a, .int .u64 b, .int .u64 c, .int .u64 d] w fun e w' => e = rat (pkN neg (a / gI a d * (c / gI c b)) (b / gI c b * (d / gI a d))) (pkD neg (a / gI a d * (c / gI c b)) (b / gI c b * (d / gI a d))) (pkOk neg (a / gI a d * (c / gI c b)) (b / gI c b * (d / gI a d))) ∧ Ext w w' := by
  have g1 := gI_pos_right a d hd0
  have g2 := gI_pos_right c b hb0
  obtain ⟨q1, q2⟩ := quo_bounds a (gI a d) ha0 g1
  obtain ⟨q3, q4⟩ := quo_bounds d (gI a d) (by omega) g1
  obtain ⟨q5, q6⟩ := quo_bounds c (gI c b) hc0 g2
  obtain ⟨q7, q8⟩ := quo_bounds b (gI c b) (by omega) g2
  have z1 : (gI a d == 0) = false := by rw [beq_eq_false_iff_ne]; omega
  have z2 : (gI c b == 0) = false := by rw [beq_eq_false_iff_ne]; omega
  go_enter Yazv.func12, Yazv.ntmps12
  go_wp2_with fail
  refine (gcd17 a d (by omega) (by omega) (by omega) (by omega) _).mono ?_
  rintro e w' ⟨rfl, k1, rfl⟩
  go_wp2_with fail
  refine (gcd17 c b (by omega) (by omega) (by omega) (by omega) _).mono ?_
  rintro e w' ⟨rfl, k2, rfl⟩
  go_wp2_with fail
  go_big_quiet ((go_at_call 16; exact (mul16 (a / gI a d) (c / gI c b) (by omega) (by omega) (by omega) (by omega) _).mono (fun _ _ ⟨he, hm⟩ => ⟨he, _, hm⟩)))
  go_wp2_with fail
  go_big_quiet ((go_at_call 16; exact (mul16 (b / gI c b) (d / gI a d) (by omega) (by omega) (by omega) (by omega) _).mono (fun _ _ ⟨he, hm⟩ => ⟨he, _, hm⟩)))
  by_cases m1 : mhi (a / gI a d) (c / gI c b) = 0
  · by_cases m2 : mhi (b / gI c b) (d / gI a d) = 0
    · obtain ⟨e1, f1⟩ := mhi_zero _ _ q1 q5 m1
      obtain ⟨e2, f2⟩ := mhi_zero _ _ q7 q3 m2
      have HE1 : Hid (mlo (a / gI a d) (c / gI c b) = a / gI a d * (c / gI c b)) := e1
      have HE2 : Hid (mlo (b / gI c b) (d / gI a d) = b / gI c b * (d / gI a d)) := e2
      obtain ⟨l1, l2⟩ := mlo_bounds (a / gI a d) (c / gI c b)
      obtain ⟨l3, l4⟩ := mlo_bounds (b / gI c b) (d / gI a d)
      clear e1 e2 f1 f2
      go_wp2_with fail
      refine (pack18 neg (mlo (a / gI a d) (c / gI c b)) (mlo (b / gI c b) (d / gI a d)) l1 l2 l3 l4 _).mono ?_
      rintro e w1 ⟨he, hx⟩
      unfold rat at he
      subst he
      have hc := hx.cell
      have hf := hx.frz
      go_wp2
      refine bodyPost_ret (v := .tuple #[.agg #[.int .i64 (pkN neg (mlo (a / gI a d) (c / gI c b)) (mlo (b / gI c b) (d / gI a d))), .int .i64 (pkD neg (mlo (a / gI a d) (c / gI c b)) (mlo (b / gI c b) (d / gI a d)))], .bool (pkOk neg (mlo (a / gI a d) (c / gI c b)) (mlo (b / gI c b) (d / gI a d)))]) (by simp [results, Yazv.results12, go_sem, hc]) rfl ⟨by rw [← HE1.out, ← HE2.out]; rfl, ?_⟩
      exact (((((Ext.refl _).alloc _ _).drewN _).trans hx).setCell (by simp) _).setCell (by simp) _
    · have hbig := mhi_ne _ _ q7 q3 m2
      have m2' : (mhi (b / gI c b) (d / gI a d) != 0) = true := by simpa using m2
      have HO : Hid (pkOk neg (a / gI a d * (c / gI c b)) (b / gI c b * (d / gI a d)) = false) := pkOk_den neg _ _ (by omega)
      obtain ⟨e1, e2⟩ := pk_no neg _ _ HO.out
      have HN : Hid (pkN neg (a / gI a d * (c / gI c b)) (b / gI c b * (d / gI a d)) = 0) := e1
      have HD : Hid (pkD neg (a / gI a d * (c / gI c b)) (b / gI c b * (d / gI a d)) = 0) := e2
      clear e1 e2
      go_wp2_with fail
      refine bodyPost_ret (v := .tuple #[.agg #[.int .i64 0, .int .i64 0], .bool false]) (by simp [results, Yazv.results12, go_sem]) rfl ⟨(rat_congr HN.out HD.out HO.out).symm, ?_⟩
      exact ((((Ext.refl _).alloc _ _).drewN _).setCell (by simp) _).setCell (by simp) _
  · have hbig := mhi_ne _ _ q1 q5 m1
    have m1' : (mhi (a / gI a d) (c / gI c b) != 0) = true := by simpa using m1
    have HO : Hid (pkOk neg (a / gI a d * (c / gI c b)) (b / gI c b * (d / gI a d)) = false) := pkOk_high neg _ _ (by omega)
    obtain ⟨e1, e2⟩ := pk_no neg _ _ HO.out
    have HN : Hid (pkN neg (a / gI a d * (c / gI c b)) (b / gI c b * (d / gI a d)) = 0) := e1
    have HD : Hid (pkD neg (a / gI a d * (c / gI c b)) (b / gI c b * (d / gI a d)) = 0) := e2
    clear e1 e2
    go_wp2_with fail
    refine bodyPost_ret (v := .tuple #[.agg #[.int .i64 0, .int .i64 0], .bool false]) (by simp [results, Yazv.results12, go_sem]) rfl ⟨(rat_congr HN.out HD.out HO.out).symm, ?_⟩
    exact ((((Ext.refl _).alloc _ _).drewN _).setCell (by simp) _).setCell (by simp) _

end Go.Proofs.Ymwhaz
