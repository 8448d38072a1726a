/-
  THE WALK OF THE LAW's OWN MODEL OF Div (function 8).
-/
import Derived.Test.YmwhazDiv
namespace Go.Proofs.Ymwhaz
open Go.RowKit

theorem pk_neg' (s : Bool) (hs : s = true) (num den : Int) (h : pkOk s num den = true) : pkN s num den = -num ∧ pkD s num den = den := by
  subst hs
  exact pk_neg num den h
theorem pk_pos' (s : Bool) (hs : s = false) (num den : Int) (h : pkOk s num den = true) : pkN s num den = num ∧ pkD s num den = den := by
  subst hs
  exact pk_pos num den h

set_option maxHeartbeats 400000 in
/-- The model, x not valid. -/
theorem model8_x (xn xd yn yd : Int) (xn0 : -9223372036854775808 ≤ xn) (xn1 : xn ≤ 9223372036854775807) (xd1 : xd ≤ 9223372036854775807) (hx : vB xn xd = false) (w : World) :
    Calls Yazv.prog 8 #[.int .i64 xn, .int .i64 xd, .int .i64 yn, .int .i64 yd] w fun e w' => e = rat 0 0 false ∧ Ext w w' := by
  go_enter Yazv.func8, Yazv.ntmps8
  go_wp2_with fail
  refine (valid13 xn xd xn0 xn1 xd1 _).mono ?_
  rintro e w1 ⟨rfl, rfl⟩
  go_wp2_with fail
  refine bodyPost_ret (v := .tuple #[.agg #[.int .i64 0, .int .i64 0], .bool false]) (by simp [results, Yazv.results8, go_sem]) rfl ⟨rfl, ?_⟩
  exact (Ext.refl _).alloc _ _

set_option maxHeartbeats 400000 in
/-- The model, y not valid. -/
theorem model8_y (xn xd yn yd : Int) (xn0 : -9223372036854775808 ≤ xn) (xn1 : xn ≤ 9223372036854775807) (xd1 : xd ≤ 9223372036854775807) (yn0 : -9223372036854775808 ≤ yn) (yn1 : yn ≤ 9223372036854775807) (yd1 : yd ≤ 9223372036854775807) (hx : vB xn xd = true) (hy : vB yn yd = false) (w : World) :
    Calls Yazv.prog 8 #[.int .i64 xn, .int .i64 xd, .int .i64 yn, .int .i64 yd] w fun e w' => e = rat 0 0 false ∧ Ext w w' := by
  go_enter Yazv.func8, Yazv.ntmps8
  go_wp2_with fail
  refine (valid13 xn xd xn0 xn1 xd1 _).mono ?_
  rintro e w1 ⟨rfl, rfl⟩
  go_wp2_with fail
  refine (valid13 yn yd yn0 yn1 yd1 _).mono ?_
  rintro e w1 ⟨rfl, rfl⟩
  go_wp2_with fail
  refine bodyPost_ret (v := .tuple #[.agg #[.int .i64 0, .int .i64 0], .bool false]) (by simp [results, Yazv.results8, go_sem]) rfl ⟨rfl, ?_⟩
  exact (Ext.refl _).alloc _ _

set_option maxHeartbeats 400000 in
/-- The model, y is zero. -/
theorem model8_0 (xn xd yd : Int) (xn0 : -9223372036854775808 ≤ xn) (xn1 : xn ≤ 9223372036854775807) (xd1 : xd ≤ 9223372036854775807) (yd1 : yd ≤ 9223372036854775807) (hx : vB xn xd = true) (hy : vB 0 yd = true) (w : World) :
    Calls Yazv.prog 8 #[.int .i64 xn, .int .i64 xd, .int .i64 0, .int .i64 yd] w fun e w' => e = rat 0 0 false ∧ Ext w w' := by
  go_enter Yazv.func8, Yazv.ntmps8
  go_wp2_with fail
  refine (valid13 xn xd xn0 xn1 xd1 _).mono ?_
  rintro e w1 ⟨rfl, rfl⟩
  go_wp2_with fail
  refine (valid13 0 yd (by omega) (by omega) yd1 _).mono ?_
  rintro e w1 ⟨rfl, rfl⟩
  go_wp2_with fail
  refine bodyPost_ret (v := .tuple #[.agg #[.int .i64 0, .int .i64 0], .bool false]) (by simp [results, Yazv.results8, go_sem]) rfl ⟨rfl, ?_⟩
  exact (Ext.refl _).alloc _ _

set_option maxHeartbeats 1600000 in
/-- The model, both valid, y not zero. -/
theorem model8_yes (xn xd yn yd : Int) (xn0 : -9223372036854775808 ≤ xn) (xn1 : xn ≤ 9223372036854775807) (xd1 : xd ≤ 9223372036854775807) (yn0 : -9223372036854775808 ≤ yn) (yn1 : yn ≤ 9223372036854775807) (yd1 : yd ≤ 9223372036854775807) (hx : vB xn xd = true) (hy : vB yn yd = true) (hz : ¬ yn = 0) (w : World) :
    Calls Yazv.prog 8 #[.int .i64 xn, .int .i64 xd, .int .i64 yn, .int .i64 yd] w fun e w' => e = rat (pkN (sg xn yn) (qN xn xd yn yd) (qD xn xd yn yd)) (pkD (sg xn yn) (qN xn xd yn yd) (qD xn xd yn yd)) (pkOk (sg xn yn) (qN xn xd yn yd) (qD xn xd yn yd)) ∧ Ext w w' := by
  have hz' : (yn == 0) = false := by simpa using hz
  have dx := (vB_true xn xd hx).1
  have dy := (vB_true yn yd hy).1
  obtain ⟨mx0, mx1⟩ := mg_bounds xn xn0 xn1
  obtain ⟨my0, my1⟩ := mg_bounds yn yn0 yn1
  have my2 := mg_one yn hz
  have g1 := gI_pos_right (mg xn) (mg yn) my2
  have g2 := gI_pos_right xd yd dy
  obtain ⟨q1, q2⟩ := quo_bounds (mg xn) (gI (mg xn) (mg yn)) mx0 g1
  obtain ⟨q3, q4⟩ := quo_bounds (mg yn) (gI (mg xn) (mg yn)) my0 g1
  obtain ⟨q5, q6⟩ := quo_bounds yd (gI xd yd) (by omega) g2
  obtain ⟨q7, q8⟩ := quo_bounds xd (gI xd yd) (by omega) g2
  have z1 : (gI (mg xn) (mg yn) == 0) = false := by rw [beq_eq_false_iff_ne]; omega
  have z2 : (gI xd yd == 0) = false := by rw [beq_eq_false_iff_ne]; omega
  go_enter Yazv.func8, Yazv.ntmps8
  go_wp2_with fail
  refine (valid13 xn xd xn0 xn1 xd1 _).mono ?_
  rintro e w1 ⟨rfl, rfl⟩
  go_wp2_with fail
  refine (valid13 yn yd yn0 yn1 yd1 _).mono ?_
  rintro e w1 ⟨rfl, rfl⟩
  go_wp2_with fail
  refine (mag14 xn xn0 xn1 _).mono ?_
  rintro e w1 ⟨rfl, rfl⟩
  go_wp2_with fail
  refine (mag14 yn yn0 yn1 _).mono ?_
  rintro e w1 ⟨rfl, rfl⟩
  go_wp2_with fail
  refine (gcd15 (mg xn) (mg yn) (by omega) (by omega) (by omega) (by omega) _).mono ?_
  rintro e w1 ⟨rfl, rfl⟩
  go_wp2_with fail
  refine (gcd15 xd yd (by omega) (by omega) (by omega) (by omega) _).mono ?_
  rintro e w1 ⟨rfl, rfl⟩
  go_wp2_with fail
  go_big_quiet ((go_at_call 16; exact (mul16 (mg xn / gI (mg xn) (mg yn)) (yd / gI xd yd) (by omega) (by omega) (by omega) (by omega) _).mono (fun _ _ ⟨he, hm⟩ => ⟨he, _, hm⟩)))
  go_wp2_with fail
  go_big_quiet ((go_at_call 16; exact (mul16 (xd / gI xd yd) (mg yn / gI (mg xn) (mg yn)) (by omega) (by omega) (by omega) (by omega) _).mono (fun _ _ ⟨he, hm⟩ => ⟨he, _, hm⟩)))
  by_cases m1 : mhi (mg xn / gI (mg xn) (mg yn)) (yd / gI xd yd) = 0
  · by_cases m2 : mhi (xd / gI xd yd) (mg yn / gI (mg xn) (mg yn)) = 0
    · have HE1 : Hid (mlo (mg xn / gI (mg xn) (mg yn)) (yd / gI xd yd) = qN xn xd yn yd) := (mhi_zero _ _ q1 q5 m1).1
      have HE2 : Hid (mlo (xd / gI xd yd) (mg yn / gI (mg xn) (mg yn)) = qD xn xd yn yd) := (mhi_zero _ _ q7 q3 m2).1
      obtain ⟨l1, l2⟩ := mlo_bounds (mg xn / gI (mg xn) (mg yn)) (yd / gI xd yd)
      obtain ⟨l3, l4⟩ := mlo_bounds (xd / gI xd yd) (mg yn / gI (mg xn) (mg yn))
      by_cases h1 : 9223372036854775808 ≤ mlo (xd / gI xd yd) (mg yn / gI (mg xn) (mg yn))
      · have b2 := HE2.out
        rw [b2] at h1
        clear b2
        have h1' : 9223372036854775808 ≤ mlo (xd / gI xd yd) (mg yn / gI (mg xn) (mg yn)) := by rw [HE2.out]; exact h1
        have HO : Hid (pkOk (sg xn yn) (qN xn xd yn yd) (qD xn xd yn yd) = false) := pkOk_den _ _ _ h1
        obtain ⟨t1, t2⟩ := pk_no _ _ _ HO.out
        have HN : Hid (pkN (sg xn yn) (qN xn xd yn yd) (qD xn xd yn yd) = 0) := t1
        have HD : Hid (pkD (sg xn yn) (qN xn xd yn yd) (qD xn xd yn yd) = 0) := t2
        clear t1 t2
        clear h1
        go_wp2_with fail
        refine bodyPost_ret (v := .tuple #[.agg #[.int .i64 0, .int .i64 0], .bool false]) (by simp [results, Yazv.results8, go_sem]) rfl ⟨(rat_congr HN.out HD.out HO.out).symm, ?_⟩
        exact ((((Ext.refl _).alloc _ _).drewN _).setCell (by simp) _).setCell (by simp) _
      · have h1' : mlo (xd / gI xd yd) (mg yn / gI (mg xn) (mg yn)) < 9223372036854775808 := by omega
        have HH1 : Hid (qD xn xd yn yd < 9223372036854775808) := by have := HE2.out; show _ < _; omega
        clear h1
        by_cases hs : (decide (xn < 0) == decide (yn < 0)) = true
        · have HS : Hid (sg xn yn = false) := by show sg xn yn = false; unfold sg; rw [hs]; rfl
          by_cases h2 : mlo (mg xn / gI (mg xn) (mg yn)) (yd / gI xd yd) < 9223372036854775808
          · have HH2 : Hid (qN xn xd yn yd < 9223372036854775808) := by have := HE1.out; show _ < _; omega
            have HO : Hid (pkOk (sg xn yn) (qN xn xd yn yd) (qD xn xd yn yd) = true) := pkOk_low _ _ _ HH1.out HH2.out
            obtain ⟨t1, t2⟩ := pk_pos' _ HS.out _ _ HO.out
            have HN : Hid (pkN (sg xn yn) (qN xn xd yn yd) (qD xn xd yn yd) = mlo (mg xn / gI (mg xn) (mg yn)) (yd / gI xd yd)) := t1.trans HE1.out.symm
            have HD : Hid (pkD (sg xn yn) (qN xn xd yn yd) (qD xn xd yn yd) = mlo (xd / gI xd yd) (mg yn / gI (mg xn) (mg yn))) := t2.trans HE2.out.symm
            clear t1 t2
            go_wp2_with fail
            refine bodyPost_ret (v := .tuple #[.agg #[.int .i64 (mlo (mg xn / gI (mg xn) (mg yn)) (yd / gI xd yd)), .int .i64 (mlo (xd / gI xd yd) (mg yn / gI (mg xn) (mg yn)))], .bool true]) (by simp [results, Yazv.results8, go_sem]) rfl ⟨(rat_congr HN.out HD.out HO.out).symm, ?_⟩
            exact ((((Ext.refl _).alloc _ _).drewN _).setCell (by simp) _).setCell (by simp) _
          · have h2' : 9223372036854775808 ≤ mlo (mg xn / gI (mg xn) (mg yn)) (yd / gI xd yd) := by omega
            have HH2 : Hid (9223372036854775808 ≤ qN xn xd yn yd) := by have := HE1.out; show _ ≤ _; omega
            clear h2
            have HO : Hid (pkOk (sg xn yn) (qN xn xd yn yd) (qD xn xd yn yd) = false) := by show pkOk _ _ _ = false; rw [HS.out]; exact pkOk_pos_high _ _ HH2.out
            obtain ⟨t1, t2⟩ := pk_no _ _ _ HO.out
            have HN : Hid (pkN (sg xn yn) (qN xn xd yn yd) (qD xn xd yn yd) = 0) := t1
            have HD : Hid (pkD (sg xn yn) (qN xn xd yn yd) (qD xn xd yn yd) = 0) := t2
            clear t1 t2
            go_wp2_with fail
            refine bodyPost_ret (v := .tuple #[.agg #[.int .i64 0, .int .i64 0], .bool false]) (by simp [results, Yazv.results8, go_sem]) rfl ⟨(rat_congr HN.out HD.out HO.out).symm, ?_⟩
            exact ((((Ext.refl _).alloc _ _).drewN _).setCell (by simp) _).setCell (by simp) _
        · have hs' : (decide (xn < 0) == decide (yn < 0)) = false := by simpa using hs
          have HS : Hid (sg xn yn = true) := by show sg xn yn = true; unfold sg; rw [hs']; rfl
          clear hs
          by_cases h0 : mlo (mg xn / gI (mg xn) (mg yn)) (yd / gI xd yd) = 0
          · have HH2 : Hid (qN xn xd yn yd = 0) := by have := HE1.out; show _ = _; omega
            have HO : Hid (pkOk (sg xn yn) (qN xn xd yn yd) (qD xn xd yn yd) = true) := pkOk_low _ _ _ HH1.out (by rw [HH2.out]; decide)
            obtain ⟨t1, t2⟩ := pk_neg' _ HS.out _ _ HO.out
            have HN : Hid (pkN (sg xn yn) (qN xn xd yn yd) (qD xn xd yn yd) = 0) := t1.trans (by rw [HH2.out]; rfl)
            have HD : Hid (pkD (sg xn yn) (qN xn xd yn yd) (qD xn xd yn yd) = mlo (xd / gI xd yd) (mg yn / gI (mg xn) (mg yn))) := t2.trans HE2.out.symm
            clear t1 t2
            go_wp2_with fail
            refine bodyPost_ret (v := .tuple #[.agg #[.int .i64 (0), .int .i64 (mlo (xd / gI xd yd) (mg yn / gI (mg xn) (mg yn)))], .bool true]) (by simp [results, Yazv.results8, go_sem]) rfl ⟨(rat_congr HN.out HD.out HO.out).symm, ?_⟩
            exact ((((Ext.refl _).alloc _ _).drewN _).setCell (by simp) _).setCell (by simp) _
          · have h0' : (mlo (mg xn / gI (mg xn) (mg yn)) (yd / gI xd yd) == 0) = false := by rw [beq_eq_false_iff_ne]; exact h0
            by_cases h3 : 9223372036854775808 < mlo (mg xn / gI (mg xn) (mg yn)) (yd / gI xd yd)
            · have HH2 : Hid (9223372036854775808 < qN xn xd yn yd) := by have := HE1.out; show _ < _; omega
              have HO : Hid (pkOk (sg xn yn) (qN xn xd yn yd) (qD xn xd yn yd) = false) := pkOk_high _ _ _ HH2.out
              obtain ⟨t1, t2⟩ := pk_no _ _ _ HO.out
              have HN : Hid (pkN (sg xn yn) (qN xn xd yn yd) (qD xn xd yn yd) = 0) := t1
              have HD : Hid (pkD (sg xn yn) (qN xn xd yn yd) (qD xn xd yn yd) = 0) := t2
              clear t1 t2
              go_wp2_with fail
              refine bodyPost_ret (v := .tuple #[.agg #[.int .i64 0, .int .i64 0], .bool false]) (by simp [results, Yazv.results8, go_sem]) rfl ⟨(rat_congr HN.out HD.out HO.out).symm, ?_⟩
              exact ((((Ext.refl _).alloc _ _).drewN _).setCell (by simp) _).setCell (by simp) _
            · by_cases h4 : mlo (mg xn / gI (mg xn) (mg yn)) (yd / gI xd yd) = 9223372036854775808
              · have HH2 : Hid (qN xn xd yn yd = 9223372036854775808) := HE1.out.symm.trans h4
                have h4' : (mlo (mg xn / gI (mg xn) (mg yn)) (yd / gI xd yd) == 9223372036854775808) = true := by rw [h4]; rfl
                clear h4
                have HO : Hid (pkOk (sg xn yn) (qN xn xd yn yd) (qD xn xd yn yd) = true) := by show pkOk _ _ _ = true; rw [HS.out]; exact pkOk_least _ _ HH1.out HH2.out
                obtain ⟨t1, t2⟩ := pk_neg' _ HS.out _ _ HO.out
                have HN : Hid (pkN (sg xn yn) (qN xn xd yn yd) (qD xn xd yn yd) = -9223372036854775808) := t1.trans (by rw [HH2.out])
                have HD : Hid (pkD (sg xn yn) (qN xn xd yn yd) (qD xn xd yn yd) = mlo (xd / gI xd yd) (mg yn / gI (mg xn) (mg yn))) := t2.trans HE2.out.symm
                clear t1 t2
                go_wp2_with fail
                refine bodyPost_ret (v := .tuple #[.agg #[.int .i64 (-9223372036854775808), .int .i64 (mlo (xd / gI xd yd) (mg yn / gI (mg xn) (mg yn)))], .bool true]) (by simp [results, Yazv.results8, go_sem]) rfl ⟨(rat_congr HN.out HD.out HO.out).symm, ?_⟩
                exact ((((Ext.refl _).alloc _ _).drewN _).setCell (by simp) _).setCell (by simp) _
              · have h5 : mlo (mg xn / gI (mg xn) (mg yn)) (yd / gI xd yd) < 9223372036854775808 := by omega
                have h4' : (mlo (mg xn / gI (mg xn) (mg yn)) (yd / gI xd yd) == 9223372036854775808) = false := by rw [beq_eq_false_iff_ne]; exact h4
                have HH2 : Hid (qN xn xd yn yd < 9223372036854775808) := by have := HE1.out; show _ < _; omega
                clear h4 h3
                have HO : Hid (pkOk (sg xn yn) (qN xn xd yn yd) (qD xn xd yn yd) = true) := pkOk_low _ _ _ HH1.out HH2.out
                obtain ⟨t1, t2⟩ := pk_neg' _ HS.out _ _ HO.out
                have HN : Hid (pkN (sg xn yn) (qN xn xd yn yd) (qD xn xd yn yd) = -mlo (mg xn / gI (mg xn) (mg yn)) (yd / gI xd yd)) := t1.trans (by rw [HE1.out])
                have HD : Hid (pkD (sg xn yn) (qN xn xd yn yd) (qD xn xd yn yd) = mlo (xd / gI xd yd) (mg yn / gI (mg xn) (mg yn))) := t2.trans HE2.out.symm
                clear t1 t2
                go_wp2_with fail
                refine bodyPost_ret (v := .tuple #[.agg #[.int .i64 (-mlo (mg xn / gI (mg xn) (mg yn)) (yd / gI xd yd)), .int .i64 (mlo (xd / gI xd yd) (mg yn / gI (mg xn) (mg yn)))], .bool true]) (by simp [results, Yazv.results8, go_sem]) rfl ⟨(rat_congr HN.out HD.out HO.out).symm, ?_⟩
                exact ((((Ext.refl _).alloc _ _).drewN _).setCell (by simp) _).setCell (by simp) _
    · have HB : Hid (18446744073709551616 ≤ qD xn xd yn yd) := mhi_ne _ _ q7 q3 m2
      have m2' : (mhi (xd / gI xd yd) (mg yn / gI (mg xn) (mg yn)) != 0) = true := by simpa using m2
      have HO : Hid (pkOk (sg xn yn) (qN xn xd yn yd) (qD xn xd yn yd) = false) := pkOk_den _ _ _ (by have := HB.out; omega)
      obtain ⟨t1, t2⟩ := pk_no _ _ _ HO.out
      have HN : Hid (pkN (sg xn yn) (qN xn xd yn yd) (qD xn xd yn yd) = 0) := t1
      have HD : Hid (pkD (sg xn yn) (qN xn xd yn yd) (qD xn xd yn yd) = 0) := t2
      clear t1 t2
      go_wp2_with fail
      refine bodyPost_ret (v := .tuple #[.agg #[.int .i64 0, .int .i64 0], .bool false]) (by simp [results, Yazv.results8, go_sem]) rfl ⟨(rat_congr HN.out HD.out HO.out).symm, ?_⟩
      exact ((((Ext.refl _).alloc _ _).drewN _).setCell (by simp) _).setCell (by simp) _
  · have HB : Hid (18446744073709551616 ≤ qN xn xd yn yd) := mhi_ne _ _ q1 q5 m1
    have m1' : (mhi (mg xn / gI (mg xn) (mg yn)) (yd / gI xd yd) != 0) = true := by simpa using m1
    have HO : Hid (pkOk (sg xn yn) (qN xn xd yn yd) (qD xn xd yn yd) = false) := pkOk_high _ _ _ (by have := HB.out; omega)
    obtain ⟨t1, t2⟩ := pk_no _ _ _ HO.out
    have HN : Hid (pkN (sg xn yn) (qN xn xd yn yd) (qD xn xd yn yd) = 0) := t1
    have HD : Hid (pkD (sg xn yn) (qN xn xd yn yd) (qD xn xd yn yd) = 0) := t2
    clear t1 t2
    go_wp2_with fail
    refine bodyPost_ret (v := .tuple #[.agg #[.int .i64 0, .int .i64 0], .bool false]) (by simp [results, Yazv.results8, go_sem]) rfl ⟨(rat_congr HN.out HD.out HO.out).symm, ?_⟩
    exact ((((Ext.refl _).alloc _ _).drewN _).setCell (by simp) _).setCell (by simp) _

end Go.Proofs.Ymwhaz
