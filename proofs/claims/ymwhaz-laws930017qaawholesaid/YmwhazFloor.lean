/-
  THE WALKS OF Valid (function 9), Floor (5) AND THE LAW's OWN MODEL OF IT (6).
-/
import Derived.Test.YmwhazLeaf
import Derived.Test.YmwhazWorld
namespace Go.Proofs.Ymwhaz
open Go.RowKit

/-- What Floor answers. -/
def flr (n d : Int) : Int := if vB n d then n / d else 0

set_option maxHeartbeats 400000 in
/-- Rat.Valid. -/
theorem valid9 (n d : Int) (hn0 : -9223372036854775808 ≤ n) (hn1 : n ≤ 9223372036854775807) (hd1 : d ≤ 9223372036854775807) (w : World) :
    Calls Yazv.prog 9 #[.agg #[.int .i64 n, .int .i64 d]] w fun e w' => e = .returned (.bool (vB n d)) ∧ Ext w w' := by
  by_cases h : d ≤ 0
  · have HV : Hid (vB n d = false) := vB_low n d h
    go_enter Yazv.func9, Yazv.ntmps9
    go_wp2
    go_ret
    exact ⟨by rw [HV.out]; rfl, (Ext.refl _).alloc _ _⟩
  · have h' : 1 ≤ d := by omega
    have HV : Hid (vB n d = (gI (mg n) d == 1)) := vB_gcd n d h'
    obtain ⟨m0, m1⟩ := mg_bounds n hn0 hn1
    go_enter Yazv.func9, Yazv.ntmps9
    go_wp2_with (first
      | (go_at_call 11; refine (mag11 n hn0 hn1 _).mono ?_; rintro e w' ⟨rfl, rfl⟩)
      | (go_at_call 17; refine (gcd17 (mg n) d m0 (by omega) (by omega) (by omega) _).mono ?_; rintro e w' ⟨rfl, k, rfl⟩))
    go_ret
    exact ⟨by rw [HV.out]; rfl, ((Ext.refl _).alloc _ _).drewN _⟩

theorem ret_int_bool {k : IntKind} {x y : Bool} {a b : Int} (h : a = b) (hx : x = y) : Ending.returned (.tuple #[.int k a, .bool x]) = .returned (.tuple #[.int k b, .bool y]) := by rw [hx, h]
theorem flr_no (n d : Int) (h : vB n d = false) : flr n d = 0 := by unfold flr; simp [h]
theorem flr_yes (n d : Int) (h : vB n d = true) : flr n d = n / d := by unfold flr; simp [h]

theorem wrap_floor (n d : Int) (hd : 1 ≤ d) (h0 : -9223372036854775808 ≤ n) (h1 : n ≤ 9223372036854775807) (h : n.tmod d < 0) : wrap64 (n.tdiv d - 1) = n / d := by
  rw [floor_neg n d hd h]
  exact IntWalk.wrap64_in _ (floor_bounds n d hd h0 h1)

set_option maxHeartbeats 400000 in
/-- Rat.Floor. -/
theorem floor5 (n d : Int) (hn0 : -9223372036854775808 ≤ n) (hn1 : n ≤ 9223372036854775807) (hd1 : d ≤ 9223372036854775807) (w : World) :
    Calls Yazv.prog 5 #[.agg #[.int .i64 n, .int .i64 d]] w fun e w' => e = .returned (.tuple #[.int .i64 (flr n d), .bool (vB n d)]) ∧ Ext w w' := by
  by_cases hv : vB n d = true
  · have hd := (vB_true n d hv).1
    have HF : Hid (flr n d = n / d) := flr_yes n d hv
    go_enter Yazv.func5, Yazv.ntmps5
    go_wp2_with (go_at_call 9; refine (valid9 n d hn0 hn1 hd1 _).mono ?_; rintro e w1 ⟨rfl, hx⟩; have hc := hx.cell; have hf := hx.frz)
    · have ht : n.tmod d < 0 := by assumption
      go_ret2
      exact ⟨ret_int_bool ((wrap_floor n d hd hn0 hn1 ht).trans HF.out.symm) hv.symm, ((Ext.refl _).alloc _ _).trans hx⟩
    · have ht : 0 ≤ n.tmod d := by assumption
      go_ret2
      exact ⟨ret_int_bool ((floor_pos n d hd ht).trans HF.out.symm) hv.symm, ((Ext.refl _).alloc _ _).trans hx⟩
  · have hv' : vB n d = false := by simpa using hv
    have HF : Hid (flr n d = 0) := flr_no n d hv'
    clear hv
    go_enter Yazv.func5, Yazv.ntmps5
    go_wp2_with (go_at_call 9; refine (valid9 n d hn0 hn1 hd1 _).mono ?_; rintro e w1 ⟨rfl, hx⟩)
    go_ret2
    exact ⟨ret_int_bool HF.out.symm hv'.symm, ((Ext.refl _).alloc _ _).trans hx⟩

theorem wrap_ceil (n d : Int) (hd : 1 ≤ d) (h0 : -9223372036854775808 ≤ n) (h1 : n ≤ 9223372036854775807) : wrap64 (IntKind.u64.wrap (-((-n + d - 1) / d))) = n / d := by
  obtain ⟨b0, b1⟩ := floor_bounds n d hd h0 h1
  rw [floor_ceil n d hd]
  generalize n / d = q at b0 b1 ⊢
  rw [IntKind.wrap_u64]
  unfold wrap64
  omega

set_option maxHeartbeats 400000 in
/-- The law's own model of Floor. -/
theorem model6 (n d : Int) (hn0 : -9223372036854775808 ≤ n) (hn1 : n ≤ 9223372036854775807) (hd1 : d ≤ 9223372036854775807) (w : World) :
    Calls Yazv.prog 6 #[.int .i64 n, .int .i64 d] w fun e w' => e = .returned (.tuple #[.int .i64 (flr n d), .bool (vB n d)]) ∧ ∃ k, w' = w.drewN k := by
  by_cases hd : d ≤ 0
  · have HV : Hid (vB n d = false) := vB_low n d hd
    have HF : Hid (flr n d = 0) := flr_no n d HV.out
    go_enter Yazv.func6, Yazv.ntmps6
    go_wp2
    go_ret2
    exact ⟨ret_int_bool HF.out.symm HV.out.symm, 0, rfl⟩
  · have hd' : 1 ≤ d := by omega
    clear hd
    by_cases hn : n < 0
    · have hw := wrap_neg n hn0 hn
      by_cases hg : gI (-n) d = 1
      · have HV : Hid (vB n d = true) := by show vB n d = true; rw [vB_gcd n d hd', mg_neg n hn, hg]; rfl
        have HF : Hid (flr n d = n / d) := flr_yes n d HV.out
        have hb : (gI (-n) d == 1) = true := by rw [hg]; rfl
        clear hg
        go_enter Yazv.func6, Yazv.ntmps6
        go_wp2_with (go_at_call 10; refine (gcd10 (-n) d (by omega) (by omega) (by omega) (by omega) _).mono ?_; rintro e w' ⟨rfl, k, rfl⟩)
        go_ret2
        exact ⟨ret_int_bool ((wrap_ceil n d hd' hn0 hn1).trans HF.out.symm) HV.out.symm, k, rfl⟩
      · have HV : Hid (vB n d = false) := by show vB n d = false; rw [vB_gcd n d hd', mg_neg n hn]; simpa using hg
        have HF : Hid (flr n d = 0) := flr_no n d HV.out
        have hb : (gI (-n) d == 1) = false := by simpa using hg
        clear hg
        go_enter Yazv.func6, Yazv.ntmps6
        go_wp2_with (go_at_call 10; refine (gcd10 (-n) d (by omega) (by omega) (by omega) (by omega) _).mono ?_; rintro e w' ⟨rfl, k, rfl⟩)
        go_ret2
        exact ⟨ret_int_bool HF.out.symm HV.out.symm, k, rfl⟩
    · have hn' : 0 ≤ n := by omega
      clear hn
      by_cases hg : gI n d = 1
      · have HV : Hid (vB n d = true) := by show vB n d = true; rw [vB_gcd n d hd', mg_pos n hn', hg]; rfl
        have HF : Hid (flr n d = n / d) := flr_yes n d HV.out
        have hb : (gI n d == 1) = true := by rw [hg]; rfl
        clear hg
        go_enter Yazv.func6, Yazv.ntmps6
        go_wp2_with (go_at_call 10; refine (gcd10 n d (by omega) (by omega) (by omega) (by omega) _).mono ?_; rintro e w' ⟨rfl, k, rfl⟩)
        go_ret2
        exact ⟨ret_int_bool ((IntWalk.wrap64_in _ (floor_bounds n d hd' hn0 hn1)).trans HF.out.symm) HV.out.symm, k, rfl⟩
      · have HV : Hid (vB n d = false) := by show vB n d = false; rw [vB_gcd n d hd', mg_pos n hn']; simpa using hg
        have HF : Hid (flr n d = 0) := flr_no n d HV.out
        have hb : (gI n d == 1) = false := by simpa using hg
        clear hg
        go_enter Yazv.func6, Yazv.ntmps6
        go_wp2_with (go_at_call 10; refine (gcd10 n d (by omega) (by omega) (by omega) (by omega) _).mono ?_; rintro e w' ⟨rfl, k, rfl⟩)
        go_ret2
        exact ⟨ret_int_bool HF.out.symm HV.out.symm, k, rfl⟩

end Go.Proofs.Ymwhaz
