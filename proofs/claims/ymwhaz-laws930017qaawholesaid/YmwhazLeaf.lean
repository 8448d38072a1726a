/-
  THE WALKS OF THE LEAVES: the three texts of Euclid's algorithm (functions 10, 15, 17) and the two texts of the magnitude (11, 14).
-/
import Derived.Test.YmwhazRows
import Derived.Test.YmwhazPlain
import Derived.WalkKit
import Derived.WalkSpells
import Derived.WalkLawsBesides
import Derived.Deep.QuietTactic
import Derived.BigQuiet
namespace Go.Proofs.Ymwhaz
open Go.RowKit

theorem wrap_neg (n : Int) (h0 : -9223372036854775808 ≤ n) (h : n < 0) : IntKind.u64.wrap (-IntKind.u64.wrap n) = -n := by
  rw [IntKind.wrap_u64, IntKind.wrap_u64]
  omega
theorem ret_bool_int {k : IntKind} {x y : Bool} {a b : Int} (hx : x = y) (h : a = b) : Ending.returned (.tuple #[.bool x, .int k a]) = .returned (.tuple #[.bool y, .int k b]) := by rw [hx, h]
theorem ret_int {k : IntKind} {a b : Int} (h : a = b) : Ending.returned (.int k a) = .returned (.int k b) := by rw [h]

set_option maxHeartbeats 400000 in
/-- rational.gcd. -/
theorem gcd17 (a0 b0 : Int) (ha0 : 0 ≤ a0) (ha1 : a0 < 18446744073709551616) (hb0 : 0 ≤ b0) (hb1 : b0 < 18446744073709551616) (w : World) :
    Calls Yazv.prog 17 #[.int .u64 a0, .int .u64 b0] w fun e w' => e = .returned (.int .u64 (gI a0 b0)) ∧ ∃ n, w' = w.drewN n := by
  go_enter Yazv.func17, Yazv.ntmps17
  go_wp2
  go_loopw [0, 1] (fun va vb wr => ∃ a b : Int, va = .int .u64 a ∧ vb = .int .u64 b ∧ 0 ≤ a ∧ a < 18446744073709551616 ∧ 0 ≤ b ∧ b < 18446744073709551616 ∧ Hid (gI a b = gI a0 b0) ∧ ∃ n, wr = w.drewN n) (fun _ vb _ => (intOf vb).toNat)
  case atStart => exact ⟨a0, b0, rfl, rfl, ha0, ha1, hb0, hb1, rfl, 0, rfl⟩
  case round =>
    obtain ⟨a, b, rfl, rfl, h1, h2, h3, h4, hg, n, rfl⟩ := hrel
    by_cases hb : 1 ≤ b
    · have hm := mod_bounds a b hb
      obtain ⟨hm1, hm2⟩ := hm
      go_wp2
      go_quiet (fail)
      go_wp2
      go_roundw
      case rel => exact ⟨b, a % b, rfl, rfl, h3, h4, hm1, by omega, (gI_step a b h1 h3).trans hg.out, _, World.drewN_drewN _ _ _⟩
      case measure => simp [intOf]; omega
    · have hb' : b = 0 := by omega
      subst hb'
      have hg' := hg.out
      rw [gI_zero a h1] at hg'
      have HG : Hid (a = gI a0 b0) := hg'
      clear hg' hg
      go_wp2
      go_ret
      exact ⟨ret_int HG.out, n, rfl⟩

set_option maxHeartbeats 400000 in
/-- rational.zzs930017qabgcd. -/
theorem gcd10 (a0 b0 : Int) (ha0 : 0 ≤ a0) (ha1 : a0 < 18446744073709551616) (hb0 : 0 ≤ b0) (hb1 : b0 < 18446744073709551616) (w : World) :
    Calls Yazv.prog 10 #[.int .u64 a0, .int .u64 b0] w fun e w' => e = .returned (.int .u64 (gI a0 b0)) ∧ ∃ n, w' = w.drewN n := by
  go_enter Yazv.func10, Yazv.ntmps10
  go_wp2
  go_loopw [0, 1] (fun va vb wr => ∃ a b : Int, va = .int .u64 a ∧ vb = .int .u64 b ∧ 0 ≤ a ∧ a < 18446744073709551616 ∧ 0 ≤ b ∧ b < 18446744073709551616 ∧ Hid (gI a b = gI a0 b0) ∧ ∃ n, wr = w.drewN n) (fun _ vb _ => (intOf vb).toNat)
  case atStart => exact ⟨a0, b0, rfl, rfl, ha0, ha1, hb0, hb1, rfl, 0, rfl⟩
  case round =>
    obtain ⟨a, b, rfl, rfl, h1, h2, h3, h4, hg, n, rfl⟩ := hrel
    by_cases hb : 1 ≤ b
    · have hm := mod_bounds a b hb
      obtain ⟨hm1, hm2⟩ := hm
      go_wp2
      go_quiet (fail)
      go_wp2
      go_roundw
      case rel => exact ⟨b, a % b, rfl, rfl, h3, h4, hm1, by omega, (gI_step a b h1 h3).trans hg.out, _, World.drewN_drewN _ _ _⟩
      case measure => simp [intOf]; omega
    · have hb' : b = 0 := by omega
      subst hb'
      have hg' := hg.out
      rw [gI_zero a h1] at hg'
      have HG : Hid (a = gI a0 b0) := hg'
      clear hg' hg
      go_wp2
      go_ret
      exact ⟨ret_int HG.out, n, rfl⟩

set_option maxHeartbeats 400000 in
/-- rational.zzs930017qaagcd: it draws nothing. -/
theorem gcd15 (a0 b0 : Int) (ha0 : 0 ≤ a0) (ha1 : a0 < 18446744073709551616) (hb0 : 0 ≤ b0) (hb1 : b0 < 18446744073709551616) (w : World) :
    Calls Yazv.prog 15 #[.int .u64 a0, .int .u64 b0] w fun e w' => e = .returned (.int .u64 (gI a0 b0)) ∧ w' = w := by
  go_enter Yazv.func15, Yazv.ntmps15
  go_wp2
  go_loop [0, 1, 5] (fun va vb _ => ∃ a b : Int, va = .int .u64 a ∧ vb = .int .u64 b ∧ 0 ≤ a ∧ a < 18446744073709551616 ∧ 0 ≤ b ∧ b < 18446744073709551616 ∧ Hid (gI a b = gI a0 b0)) (fun _ vb _ => (intOf vb).toNat)
  case atStart => exact ⟨a0, b0, rfl, rfl, ha0, ha1, hb0, hb1, rfl⟩
  case round =>
    obtain ⟨a, b, rfl, rfl, h1, h2, h3, h4, hg⟩ := hrel
    by_cases hb : 1 ≤ b
    · have hm := mod_bounds a b hb
      obtain ⟨hm1, hm2⟩ := hm
      go_wp2
      go_round
      case rel => exact ⟨b, a % b, rfl, rfl, h3, h4, hm1, by omega, (gI_step a b h1 h3).trans hg.out⟩
      case measure => simp [intOf]; omega
    · have hb' : b = 0 := by omega
      subst hb'
      have hg' := hg.out
      rw [gI_zero a h1] at hg'
      have HG : Hid (a = gI a0 b0) := hg'
      clear hg' hg
      go_wp2
      go_ret
      exact ⟨ret_int HG.out, rfl⟩

/-- rational.magnitude. -/
theorem mag11 (n : Int) (h0 : -9223372036854775808 ≤ n) (h1 : n ≤ 9223372036854775807) (w : World) :
    Calls Yazv.prog 11 #[.int .i64 n] w fun e w' => e = .returned (.tuple #[.bool (decide (n < 0)), .int .u64 (mg n)]) ∧ w' = w := by
  by_cases h : n < 0
  · have HE : Hid (mg n = -n) := mg_neg n h
    have HD : Hid (decide (n < 0) = true) := decide_eq_true h
    go_enter Yazv.func11, Yazv.ntmps11
    go_wp2
    go_ret2
    exact ⟨ret_bool_int HD.out.symm (by rw [HE.out]; omega), rfl⟩
  · have HE : Hid (mg n = n) := mg_pos n (by omega)
    have HD : Hid (decide (n < 0) = false) := decide_eq_false h
    go_enter Yazv.func11, Yazv.ntmps11
    go_wp2
    go_ret2
    exact ⟨ret_bool_int HD.out.symm HE.out.symm, rfl⟩

/-- rational.zzs930017qaamag. -/
theorem mag14 (n : Int) (h0 : -9223372036854775808 ≤ n) (h1 : n ≤ 9223372036854775807) (w : World) :
    Calls Yazv.prog 14 #[.int .i64 n] w fun e w' => e = .returned (.tuple #[.bool (decide (n < 0)), .int .u64 (mg n)]) ∧ w' = w := by
  by_cases h : n < 0
  · have HE : Hid (mg n = -n) := mg_neg n h
    have HD : Hid (decide (n < 0) = true) := decide_eq_true h
    go_enter Yazv.func14, Yazv.ntmps14
    go_wp2
    go_ret2
    exact ⟨ret_bool_int HD.out.symm (by rw [HE.out]; exact wrap_neg n h0 h), rfl⟩
  · have HE : Hid (mg n = n) := mg_pos n (by omega)
    have HD : Hid (decide (n < 0) = false) := decide_eq_false h
    go_enter Yazv.func14, Yazv.ntmps14
    go_wp2
    go_ret2
    exact ⟨ret_bool_int HD.out.symm HE.out.symm, rfl⟩

end Go.Proofs.Ymwhaz
