/-
  THE PROOF OF 'Rows.LawS930017QAAWholeSaid' ('example.com/own/rational.LawS930017QAAWhole'): the frame was written by program (proof-skeleton.mjs).
  The walk is ours; all else is the tool's frame at this function's number and types.
-/
import Derived.Test.YmwhazRows
import Derived.Test.YmwhazModel
import Derived.WalkKit
import Derived.ProofKit
import Derived.OpenShut
import Derived.ShutString
namespace Go.Proofs.Ymwhaz.lawS930017QAAWhole
open Go.ChangeShapes Go.WideShapes Go.ChangeAt Go.RowKit
open Go.ChangeMaps (open_string shut_string)
set_option linter.unusedVariables false      -- a walk need not use every 'w<i>' (that an integer argument fits its kind)

theorem own : ownKnob Yazv.prog.godebug = none := by kernel_rfl

/-- Div and the law's own model answer one and the same Rat and flag. -/
theorem both (xn xd yn yd : Int) (xn0 : -9223372036854775808 ≤ xn) (xn1 : xn ≤ 9223372036854775807) (xd1 : xd ≤ 9223372036854775807) (yn0 : -9223372036854775808 ≤ yn) (yn1 : yn ≤ 9223372036854775807) (yd1 : yd ≤ 9223372036854775807) :
    ∃ (n d : Int) (ok : Bool), (∀ w, Calls Yazv.prog 7 #[.agg #[.int .i64 xn, .int .i64 xd], .agg #[.int .i64 yn, .int .i64 yd]] w fun e w' => e = rat n d ok ∧ Ext w w')
      ∧ (∀ w, Calls Yazv.prog 8 #[.int .i64 xn, .int .i64 xd, .int .i64 yn, .int .i64 yd] w fun e w' => e = rat n d ok ∧ Ext w w') := by
  cases hx : vB xn xd
  · exact ⟨0, 0, false, fun w => div7_x xn xd yn yd xn0 xn1 xd1 hx w, fun w => model8_x xn xd yn yd xn0 xn1 xd1 hx w⟩
  · cases hy : vB yn yd
    · exact ⟨0, 0, false, fun w => div7_y xn xd yn yd xn0 xn1 xd1 yn0 yn1 yd1 hx hy w, fun w => model8_y xn xd yn yd xn0 xn1 xd1 yn0 yn1 yd1 hx hy w⟩
    · by_cases hz : yn = 0
      · subst hz
        exact ⟨0, 0, false, fun w => div7_0 xn xd yd xn0 xn1 xd1 yd1 hx hy w, fun w => model8_0 xn xd yd xn0 xn1 xd1 yd1 hx hy w⟩
      · exact ⟨_, _, _, fun w => div7_yes xn xd yn yd xn0 xn1 xd1 yn0 yn1 yd1 hx hy hz w, fun w => model8_yes xn xd yn yd xn0 xn1 xd1 yn0 yn1 yd1 hx hy hz w⟩

/-! ### STEP 1: THE WALK: the Go text returns true. 'Grown w w'': the world has at most new blocks (Derived/RowKit3.lean). Part the cases AHEAD of 'go_enter' where a test parts the walk; take each callee by a contract of your own. -/
set_option maxHeartbeats 800000 in
theorem walk (a0 : Int) (a1 : Int) (a2 : Int) (a3 : Int) (w0 : (Lit.int .i64 a0).wf = true) (w1 : (Lit.int .i64 a1).wf = true) (w2 : (Lit.int .i64 a2).wf = true) (w3 : (Lit.int .i64 a3).wf = true) (w : World) :
    Calls Yazv.prog 4 #[.int .i64 a0, .int .i64 a1, .int .i64 a2, .int .i64 a3] w fun e w' => e = .returned (.bool true) ∧ Grown w w' := by
  obtain ⟨l0, u0⟩ := bounds_i64 w0
  obtain ⟨l1, u1⟩ := bounds_i64 w1
  obtain ⟨l2, u2⟩ := bounds_i64 w2
  obtain ⟨l3, u3⟩ := bounds_i64 w3
  obtain ⟨n, d, ok, h7, h8⟩ := both a0 a1 a2 a3 l0 u0 u1 l2 u2 u3
  have H7 : Hid (∀ w, Calls Yazv.prog 7 #[.agg #[.int .i64 a0, .int .i64 a1], .agg #[.int .i64 a2, .int .i64 a3]] w fun e w' => e = rat n d ok ∧ Ext w w') := h7
  have H8 : Hid (∀ w, Calls Yazv.prog 8 #[.int .i64 a0, .int .i64 a1, .int .i64 a2, .int .i64 a3] w fun e w' => e = rat n d ok ∧ Ext w w') := h8
  clear h7 h8 w0 w1 w2 w3 l0 u0 l1 u1 l2 u2 l3 u3
  go_enter Yazv.func4, Yazv.ntmps4
  go_wp2_with fail
  refine (H7.out _).mono ?_
  rintro e x1 ⟨he, hx1⟩
  unfold rat at he
  subst he
  go_wp2_with fail
  refine (H8.out _).mono ?_
  rintro e x2 ⟨he, hx2⟩
  unfold rat at he
  subst he
  have hs1 : w.heap.size + 1 < x1.heap.size := by have := hx1.size; simp at this; omega
  have hs2 : x1.heap.size < x2.heap.size := by have := hx2.size; simp at this; omega
  have hs3 : w.heap.size < x1.heap.size := by omega
  have hs4 : w.heap.size < x2.heap.size := by omega
  have hs5 : w.heap.size + 1 < x2.heap.size := by omega
  have c00 : x2.cell? ⟨w.heap.size, 0, none⟩ = some (.int .i64 a0) := (hx2.cell _ _ (by simp; omega)).trans ((World.cell?_alloc_past _ _ _ hs3).trans ((hx1.cell _ _ (by simp; omega)).trans (by go_simp)))
  have c01 : x2.cell? ⟨w.heap.size, 1, none⟩ = some (.int .i64 a1) := (hx2.cell _ _ (by simp; omega)).trans ((World.cell?_alloc_past _ _ _ hs3).trans ((hx1.cell _ _ (by simp; omega)).trans (by go_simp)))
  have c10 : x2.cell? ⟨w.heap.size + 1, 0, none⟩ = some (.int .i64 a2) := (hx2.cell _ _ (by simp; omega)).trans ((World.cell?_alloc_past _ _ _ hs1).trans ((hx1.cell _ _ (by simp)).trans (by go_simp)))
  have c11 : x2.cell? ⟨w.heap.size + 1, 1, none⟩ = some (.int .i64 a3) := (hx2.cell _ _ (by simp; omega)).trans ((World.cell?_alloc_past _ _ _ hs1).trans ((hx1.cell _ _ (by simp)).trans (by go_simp)))
  have r0 : x2.cell? ⟨x1.heap.size, 0, none⟩ = some (.int .i64 n) := (hx2.cell _ _ (by simp)).trans (by go_simp)
  have r1 : x2.cell? ⟨x1.heap.size, 1, none⟩ = some (.int .i64 d) := (hx2.cell _ _ (by simp)).trans (by go_simp)
  go_wp2
  go_ret
  exact ⟨rfl, (((((((Ext.refl _).alloc _ _).alloc _ _).trans hx1).alloc _ _).trans hx2).alloc _ _).grown⟩

/-! ### THE ROW's STEP: WRITTEN OUT: LEAVE IT -/
set_option maxRecDepth 100000 in
theorem lifted (os : Os) (started : os.Started) (H : Type) (enc : TypeId × Value → H) :
    ReturnsInHanded {} Yazv.checked os 4 .any (Rows.lawS930017QAAWholeSpec.pre6 enc Yazv.prog Yazv.f4 Rows.lawS930017QAAWholeRow.domain false) (Rows.lawS930017QAAWholeSpec.post enc Yazv.prog Yazv.f4 false true false false) := by
  refine returnsInHanded_of_change (C := Yazv.checked) own started (by kernel_rfl) Yazv.func4
    (ChangeSpec.witness6 (enc := enc) (C := Yazv.checked) false ⟨#[], #[.int .i64 0, .int .i64 0, .int .i64 0, .int .i64 0], []⟩ 8 (by kernel_rfl) (by kernel_rfl) (by kernel_rfl) (by kernel_rfl)) ?_
  intro W base args ds gs before hval0 hW hcnd _
  have hval : ∀ (j : Nat) t v, Yazv.f4.params[j]? = some t → args[j]? = some v → Value.okWide Yazv.prog W .any base t v := hval0
  have hW' := hW
  obtain ⟨p, q, hA0, hV, rfl, hfz, hnd⟩ := hW
  have hA : DataW.TrodAll enc Yazv.prog W 0 (fun _ => true) true Yazv.f4.params.toList args.toList ds p := hA0
  rw [Yazv.params4] at hA hval
  obtain ⟨v0, vs0, d0, ds0, p0, q0, hargs, rfl, rfl, h0, r0⟩ := trodAll_cons hA
  obtain ⟨v1, vs1, d1, ds1, p1, q1, rfl, rfl, rfl, h1, r1⟩ := trodAll_cons r0
  obtain ⟨v2, vs2, d2, ds2, p2, q2, rfl, rfl, rfl, h2, r2⟩ := trodAll_cons r1
  obtain ⟨v3, vs3, d3, ds3, p3, q3, rfl, rfl, rfl, h3, r3⟩ := trodAll_cons r2
  obtain ⟨rfl, rfl, rfl⟩ := trodAll_nil r3
  obtain rfl : args = #[v0, v1, v2, v3] := by cases args; simp_all
  obtain ⟨rfl, rfl⟩ := trodVars_none hV
  obtain ⟨a0, rfl, rfl, rfl, w0⟩ := open_int Yazv.underlying2 (hval 0 2 v0 rfl rfl) h0
  obtain ⟨a1, rfl, rfl, rfl, w1⟩ := open_int Yazv.underlying2 (hval 1 2 v1 rfl rfl) h1
  obtain ⟨a2, rfl, rfl, rfl, w2⟩ := open_int Yazv.underlying2 (hval 2 2 v2 rfl rfl) h2
  obtain ⟨a3, rfl, rfl, rfl, w3⟩ := open_int Yazv.underlying2 (hval 3 2 v3 rfl rfl) h3
  clear hA0 hval0
  simp only [List.append_nil] at hW'
  refine (walk a0 a1 a2 a3 w0 w1 w2 w3 W).mono fun e W' ⟨he, hg⟩ => ?_
  subst he
  exact ⟨_, rfl, post_of_same (pa := []) (pv := []) hW' (fun _ _ _ => (trodAll_cons_mk (shut_bool Yazv.underlying4 _) trodAll_mk0)) (fun sp _ => (trodAll_cons_mk (shut_int Yazv.underlying2 w0) (trodAll_cons_mk (shut_int Yazv.underlying2 w1) (trodAll_cons_mk (shut_int Yazv.underlying2 w2) (trodAll_cons_mk (shut_int Yazv.underlying2 w3) trodAll_mk0))))) (fun _ _ => rfl) rfl
    (hg.frame _) hg.2.1 (ok_one (by kernel_rfl) rfl (okWide_bool_mk Yazv.underlying4 _))⟩

theorem over : Rows.lawS930017QAAWholeRow.holds Yazv.pinned (OpenSpec.ofChange Rows.lawS930017QAAWholeSpec) :=
  OpenClaim.holds_of_wide 4 Yazv.f4 rfl rfl rfl rfl rfl rfl rfl ⟨rfl, rfl, rfl, rfl, rfl⟩ rfl rfl rfl rfl rfl (by kernel_rfl) Yazv.func4 (by kernel_rfl)
    (of_decide_eq_true (by kernel_rfl)) (by unfold Func.isWrapper; first | (rw [if_pos (by decide +kernel)]; kernel_rfl) | (rw [if_neg (by decide +kernel)]; exact ⟨rfl, rfl⟩))
    (fun os started H enc _ => lifted os started H enc)

/-- ████ THE STATEMENT ████ -/
theorem proved : Rows.LawS930017QAAWholeSaid :=
  over
#print axioms proved
end Go.Proofs.Ymwhaz.lawS930017QAAWhole
