/-
  THE WALKS OF pack (function 18) AND OF THE MODEL's OWN Valid (13).
-/
import Derived.Test.YmwhazLeaf
import Derived.Test.YmwhazWorld
namespace Go.Proofs.Ymwhaz
open Go.RowKit

/-- Does the fraction num/den (or -num/den) fit, and what is it. -/
def pkOk (neg : Bool) (num den : Int) : Bool := decide (den < 9223372036854775808) && (decide (num < 9223372036854775808) || (neg && (num == 9223372036854775808)))
def pkN (neg : Bool) (num den : Int) : Int := if pkOk neg num den then (if neg then -num else num) else 0
def pkD (neg : Bool) (num den : Int) : Int := if pkOk neg num den then den else 0

theorem pk_no (neg : Bool) (num den : Int) (h : pkOk neg num den = false) : pkN neg num den = 0 ∧ pkD neg num den = 0 := by
  unfold pkN pkD; simp [h]
theorem pk_neg (num den : Int) (h : pkOk true num den = true) : pkN true num den = -num ∧ pkD true num den = den := by
  unfold pkN pkD; simp [h]
theorem pk_pos (num den : Int) (h : pkOk false num den = true) : pkN false num den = num ∧ pkD false num den = den := by
  unfold pkN pkD; simp [h]
theorem pkOk_den (neg : Bool) (num den : Int) (h : 9223372036854775808 ≤ den) : pkOk neg num den = false := by
  unfold pkOk
  rw [decide_eq_false (by omega)]
  rfl
theorem pkOk_low (neg : Bool) (num den : Int) (h : den < 9223372036854775808) (h' : num < 9223372036854775808) : pkOk neg num den = true := by
  unfold pkOk
  rw [decide_eq_true h, decide_eq_true h']
  rfl
theorem pkOk_least (num den : Int) (h : den < 9223372036854775808) (h' : num = 9223372036854775808) : pkOk true num den = true := by
  unfold pkOk
  rw [decide_eq_true h]
  simp [h']
theorem pkOk_pos_high (num den : Int) (h' : 9223372036854775808 ≤ num) : pkOk false num den = false := by
  unfold pkOk
  rw [decide_eq_false (show ¬ num < 9223372036854775808 by omega)]
  simp
theorem pkOk_high (neg : Bool) (num den : Int) (h' : 9223372036854775808 < num) : pkOk neg num den = false := by
  unfold pkOk
  rw [decide_eq_false (show ¬ num < 9223372036854775808 by omega)]
  have : (num == 9223372036854775808) = false := by
    rw [beq_eq_false_iff_ne]
    omega
  simp [this]

/-- A Rat and a flag, as a call hands them back. -/
def rat (n d : Int) (ok : Bool) : Ending := .returned (.tuple #[.agg #[.int .i64 n, .int .i64 d], .bool ok])
theorem rat_congr {n n' d d' : Int} {ok ok' : Bool} (h1 : n = n') (h2 : d = d') (h3 : ok = ok') : rat n d ok = rat n' d' ok' := by rw [h1, h2, h3]

set_option maxHeartbeats 400000 in
/-- rational.pack. -/
theorem pack18 (neg : Bool) (num den : Int) (hn0 : 0 ≤ num) (hn1 : num < 18446744073709551616) (hd0 : 0 ≤ den) (hd1 : den < 18446744073709551616) (w : World) :
    Calls Yazv.prog 18 #[.bool neg, .int .u64 num, .int .u64 den] w fun e w' => e = rat (pkN neg num den) (pkD neg num den) (pkOk neg num den) ∧ Ext w w' := by
  by_cases h1 : 9223372036854775808 ≤ den
  · have HO : Hid (pkOk neg num den = false) := pkOk_den neg num den h1
    obtain ⟨e1, e2⟩ := pk_no neg num den HO.out
    have HN : Hid (pkN neg num den = 0) := e1
    have HD : Hid (pkD neg num den = 0) := e2
    clear e1 e2
    go_enter Yazv.func18, Yazv.ntmps18
    go_wp2
    refine bodyPost_ret (v := .tuple #[.agg #[.int .i64 0, .int .i64 0], .bool false]) (by simp [results, Yazv.results18, go_sem]) rfl ⟨(rat_congr HN.out HD.out HO.out).symm, ?_⟩
    exact (Ext.refl _).alloc _ _
  · have h1' : den < 9223372036854775808 := by omega
    clear h1
    by_cases h2 : num < 9223372036854775808
    · have HO : Hid (pkOk neg num den = true) := pkOk_low neg num den h1' h2
      have hb : (num == 9223372036854775808) = false := by rw [beq_eq_false_iff_ne]; omega
      cases neg
      · obtain ⟨e1, e2⟩ := pk_pos num den HO.out
        have HN : Hid (pkN false num den = num) := e1
        have HD : Hid (pkD false num den = den) := e2
        clear e1 e2
        go_enter Yazv.func18, Yazv.ntmps18
        go_wp2
        refine bodyPost_ret (v := .tuple #[.agg #[.int .i64 num, .int .i64 den], .bool true]) (by simp [results, Yazv.results18, go_sem]) rfl ⟨(rat_congr HN.out HD.out HO.out).symm, ?_⟩
        exact (Ext.refl _).alloc _ _
      · obtain ⟨e1, e2⟩ := pk_neg num den HO.out
        have HN : Hid (pkN true num den = -num) := e1
        have HD : Hid (pkD true num den = den) := e2
        clear e1 e2
        go_enter Yazv.func18, Yazv.ntmps18
        go_wp2
        refine bodyPost_ret (v := .tuple #[.agg #[.int .i64 (-num), .int .i64 den], .bool true]) (by simp [results, Yazv.results18, go_sem]) rfl ⟨(rat_congr HN.out HD.out HO.out).symm, ?_⟩
        exact (Ext.refl _).alloc _ _
    · have h2' : 9223372036854775808 ≤ num := by omega
      clear h2
      cases neg
      · have HO : Hid (pkOk false num den = false) := pkOk_pos_high num den h2'
        obtain ⟨e1, e2⟩ := pk_no false num den HO.out
        have HN : Hid (pkN false num den = 0) := e1
        have HD : Hid (pkD false num den = 0) := e2
        clear e1 e2
        go_enter Yazv.func18, Yazv.ntmps18
        go_wp2
        refine bodyPost_ret (v := .tuple #[.agg #[.int .i64 0, .int .i64 0], .bool false]) (by simp [results, Yazv.results18, go_sem]) rfl ⟨(rat_congr HN.out HD.out HO.out).symm, ?_⟩
        exact (Ext.refl _).alloc _ _
      · by_cases h3 : 9223372036854775808 < num
        · have HO : Hid (pkOk true num den = false) := pkOk_high true num den h3
          have hb : (num == 9223372036854775808) = false := by rw [beq_eq_false_iff_ne]; omega
          obtain ⟨e1, e2⟩ := pk_no true num den HO.out
          have HN : Hid (pkN true num den = 0) := e1
          have HD : Hid (pkD true num den = 0) := e2
          clear e1 e2
          go_enter Yazv.func18, Yazv.ntmps18
          go_wp2
          refine bodyPost_ret (v := .tuple #[.agg #[.int .i64 0, .int .i64 0], .bool false]) (by simp [results, Yazv.results18, go_sem]) rfl ⟨(rat_congr HN.out HD.out HO.out).symm, ?_⟩
          exact (Ext.refl _).alloc _ _
        · have h4 : num = 9223372036854775808 := by omega
          have HO : Hid (pkOk true num den = true) := pkOk_least num den h1' h4
          obtain ⟨e1, e2⟩ := pk_neg num den HO.out
          have HN : Hid (pkN true num den = -9223372036854775808) := e1.trans (by omega)
          have HD : Hid (pkD true num den = den) := e2
          have hb : (num == 9223372036854775808) = true := by rw [h4]; rfl
          clear e1 e2 h4
          go_enter Yazv.func18, Yazv.ntmps18
          go_wp2
          refine bodyPost_ret (v := .tuple #[.agg #[.int .i64 (-9223372036854775808), .int .i64 den], .bool true]) (by simp [results, Yazv.results18, go_sem]) rfl ⟨(rat_congr HN.out HD.out HO.out).symm, ?_⟩
          exact (Ext.refl _).alloc _ _

set_option maxHeartbeats 400000 in
/-- The model's own Valid. -/
theorem valid13 (n d : Int) (hn0 : -9223372036854775808 ≤ n) (hn1 : n ≤ 9223372036854775807) (hd1 : d ≤ 9223372036854775807) (w : World) :
    Calls Yazv.prog 13 #[.int .i64 n, .int .i64 d] w fun e w' => e = .returned (.bool (vB n d)) ∧ w' = w := by
  by_cases h : d ≤ 0
  · have HV : Hid (vB n d = false) := vB_low n d h
    go_enter Yazv.func13, Yazv.ntmps13
    go_wp2
    go_ret
    exact ⟨by rw [HV.out]; rfl, rfl⟩
  · have h' : 1 ≤ d := by omega
    have HV : Hid (vB n d = (gI (mg n) d == 1)) := vB_gcd n d h'
    obtain ⟨m0, m1⟩ := mg_bounds n hn0 hn1
    go_enter Yazv.func13, Yazv.ntmps13
    go_wp2_with (first
      | (go_at_call 14; refine (mag14 n hn0 hn1 _).mono ?_; rintro e w' ⟨rfl, rfl⟩)
      | (go_at_call 15; refine (gcd15 (mg n) d m0 (by omega) (by omega) (by omega) _).mono ?_; rintro e w' ⟨rfl, rfl⟩))
    go_ret
    exact ⟨by rw [HV.out]; rfl, rfl⟩

end Go.Proofs.Ymwhaz
