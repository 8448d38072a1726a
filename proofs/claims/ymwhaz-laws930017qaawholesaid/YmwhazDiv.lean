/-
  THE WALK OF Div (function 7).
-/
import Derived.Test.YmwhazProduct
import Derived.Test.YmwhazFloor
namespace Go.Proofs.Ymwhaz
open Go.RowKit

/-- The quotient's two parts in lowest terms, and its sign. -/
def qN (xn xd yn yd : Int) : Int := mg xn / gI (mg xn) (mg yn) * (yd / gI xd yd)
def qD (xn xd yn yd : Int) : Int := xd / gI xd yd * (mg yn / gI (mg xn) (mg yn))
def sg (xn yn : Int) : Bool := !(decide (xn < 0) == decide (yn < 0))

theorem mg_one (n : Int) (h : ¬ n = 0) : 1 ≤ mg n := by unfold mg; omega

set_option maxHeartbeats 400000 in
/-- rational.Div, x not valid. -/
theorem div7_x (xn xd yn yd : Int) (xn0 : -9223372036854775808 ≤ xn) (xn1 : xn ≤ 9223372036854775807) (xd1 : xd ≤ 9223372036854775807) (hx : vB xn xd = false) (w : World) :
    Calls Yazv.prog 7 #[.agg #[.int .i64 xn, .int .i64 xd], .agg #[.int .i64 yn, .int .i64 yd]] w fun e w' => e = rat 0 0 false ∧ Ext w w' := by
  go_enter Yazv.func7, Yazv.ntmps7
  go_wp2_with fail
  refine (valid9 xn xd xn0 xn1 xd1 _).mono ?_
  rintro e w1 ⟨rfl, hw⟩
  have hc := hw.cell
  have hf := hw.frz
  go_wp2_with fail
  refine bodyPost_ret (v := .tuple #[.agg #[.int .i64 0, .int .i64 0], .bool false]) (by simp [results, Yazv.results7, go_sem, hc]) rfl ⟨rfl, ?_⟩
  exact ((((((Ext.refl _).alloc _ _).alloc _ _).alloc _ _).trans hw).setCell (by simp; omega) _).setCell (by simp; omega) _

set_option maxHeartbeats 400000 in
/-- rational.Div, y not valid. -/
theorem div7_y (xn xd yn yd : Int) (xn0 : -9223372036854775808 ≤ xn) (xn1 : xn ≤ 9223372036854775807) (xd1 : xd ≤ 9223372036854775807) (yn0 : -9223372036854775808 ≤ yn) (yn1 : yn ≤ 9223372036854775807) (yd1 : yd ≤ 9223372036854775807) (hx : vB xn xd = true) (hy : vB yn yd = false) (w : World) :
    Calls Yazv.prog 7 #[.agg #[.int .i64 xn, .int .i64 xd], .agg #[.int .i64 yn, .int .i64 yd]] w fun e w' => e = rat 0 0 false ∧ Ext w w' := by
  go_enter Yazv.func7, Yazv.ntmps7
  go_wp2_with fail
  refine (valid9 xn xd xn0 xn1 xd1 _).mono ?_
  rintro e w1 ⟨rfl, hw⟩
  have hc := hw.cell
  have hf := hw.frz
  go_wp2_with fail
  refine (valid9 yn yd yn0 yn1 yd1 _).mono ?_
  rintro e w2 ⟨rfl, hw2⟩
  have ht := hw.trans hw2
  clear hc hf hw hw2
  have hc := ht.cell
  have hf := ht.frz
  go_wp2_with fail
  refine bodyPost_ret (v := .tuple #[.agg #[.int .i64 0, .int .i64 0], .bool false]) (by simp [results, Yazv.results7, go_sem, hc]) rfl ⟨rfl, ?_⟩
  exact ((((((Ext.refl _).alloc _ _).alloc _ _).alloc _ _).trans ht).setCell (by simp; omega) _).setCell (by simp; omega) _

set_option maxHeartbeats 400000 in
/-- rational.Div, y is zero. -/
theorem div7_0 (xn xd yd : Int) (xn0 : -9223372036854775808 ≤ xn) (xn1 : xn ≤ 9223372036854775807) (xd1 : xd ≤ 9223372036854775807) (yd1 : yd ≤ 9223372036854775807) (hx : vB xn xd = true) (hy : vB 0 yd = true) (w : World) :
    Calls Yazv.prog 7 #[.agg #[.int .i64 xn, .int .i64 xd], .agg #[.int .i64 0, .int .i64 yd]] w fun e w' => e = rat 0 0 false ∧ Ext w w' := by
  go_enter Yazv.func7, Yazv.ntmps7
  go_wp2_with fail
  refine (valid9 xn xd xn0 xn1 xd1 _).mono ?_
  rintro e w1 ⟨rfl, hw⟩
  have hc := hw.cell
  have hf := hw.frz
  go_wp2_with fail
  refine (valid9 0 yd (by omega) (by omega) yd1 _).mono ?_
  rintro e w2 ⟨rfl, hw2⟩
  have ht := hw.trans hw2
  clear hc hf hw hw2
  have hc := ht.cell
  have hf := ht.frz
  go_wp2_with fail
  refine bodyPost_ret (v := .tuple #[.agg #[.int .i64 0, .int .i64 0], .bool false]) (by simp [results, Yazv.results7, go_sem, hc]) rfl ⟨rfl, ?_⟩
  exact ((((((Ext.refl _).alloc _ _).alloc _ _).alloc _ _).trans ht).setCell (by simp; omega) _).setCell (by simp; omega) _

/-- product, as Div calls it. -/
theorem product_q (xn xd yn yd : Int) (mx0 : 0 ≤ mg xn) (mx1 : mg xn ≤ 9223372036854775808) (dx : 1 ≤ xd) (xd1 : xd ≤ 9223372036854775807) (my2 : 1 ≤ mg yn) (my1 : mg yn ≤ 9223372036854775808) (dy : 1 ≤ yd) (yd1 : yd ≤ 9223372036854775807) (w : World) :
    Calls Yazv.prog 12 #[.bool (!(decide (xn < 0) == decide (yn < 0))), .int .u64 (mg xn), .int .u64 xd, .int .u64 yd, .int .u64 (mg yn)] w fun e w' => e = rat (pkN (sg xn yn) (qN xn xd yn yd) (qD xn xd yn yd)) (pkD (sg xn yn) (qN xn xd yn yd) (qD xn xd yn yd)) (pkOk (sg xn yn) (qN xn xd yn yd) (qD xn xd yn yd)) ∧ Ext w w' := by
  have h := product12 (!(decide (xn < 0) == decide (yn < 0))) (mg xn) xd yd (mg yn) mx0 (by omega) dx (by omega) (by omega) (by omega) my2 (by omega) w
  rw [gI_comm yd xd] at h
  exact h

set_option maxHeartbeats 800000 in
/-- rational.Div, both valid, y not zero. -/
theorem div7_yes (xn xd yn yd : Int) (xn0 : -9223372036854775808 ≤ xn) (xn1 : xn ≤ 9223372036854775807) (xd1 : xd ≤ 9223372036854775807) (yn0 : -9223372036854775808 ≤ yn) (yn1 : yn ≤ 9223372036854775807) (yd1 : yd ≤ 9223372036854775807) (hx : vB xn xd = true) (hy : vB yn yd = true) (hz : ¬ yn = 0) (w : World) :
    Calls Yazv.prog 7 #[.agg #[.int .i64 xn, .int .i64 xd], .agg #[.int .i64 yn, .int .i64 yd]] w fun e w' => e = rat (pkN (sg xn yn) (qN xn xd yn yd) (qD xn xd yn yd)) (pkD (sg xn yn) (qN xn xd yn yd) (qD xn xd yn yd)) (pkOk (sg xn yn) (qN xn xd yn yd) (qD xn xd yn yd)) ∧ Ext w w' := by
  have hz' : (yn == 0) = false := by simpa using hz
  have dx := (vB_true xn xd hx).1
  have dy := (vB_true yn yd hy).1
  obtain ⟨mx0, mx1⟩ := mg_bounds xn xn0 xn1
  obtain ⟨my0, my1⟩ := mg_bounds yn yn0 yn1
  have my2 := mg_one yn hz
  go_enter Yazv.func7, Yazv.ntmps7
  go_wp2_with fail
  refine (valid9 xn xd xn0 xn1 xd1 _).mono ?_
  rintro e w1 ⟨rfl, hw⟩
  have hc := hw.cell
  have hf := hw.frz
  go_wp2_with fail
  refine (valid9 yn yd yn0 yn1 yd1 _).mono ?_
  rintro e w2 ⟨rfl, hw2⟩
  have ht := hw.trans hw2
  clear hc hf hw hw2
  have hc := ht.cell
  have hf := ht.frz
  go_wp2_with fail
  refine (mag11 xn xn0 xn1 _).mono ?_
  rintro e w' ⟨rfl, rfl⟩
  go_wp2_with fail
  refine (mag11 yn yn0 yn1 _).mono ?_
  rintro e w' ⟨rfl, rfl⟩
  go_wp2_with fail
  refine (product_q xn xd yn yd mx0 mx1 dx xd1 my2 my1 dy yd1 _).mono ?_
  rintro e w3 ⟨he, hw3⟩
  unfold rat at he
  subst he
  have ht3 := ht.trans hw3
  clear hc hf ht hw3
  have hc := ht3.cell
  have hf := ht3.frz
  go_wp2_with fail
  refine bodyPost_ret (v := .tuple #[.agg #[.int .i64 (pkN (sg xn yn) (qN xn xd yn yd) (qD xn xd yn yd)), .int .i64 (pkD (sg xn yn) (qN xn xd yn yd) (qD xn xd yn yd))], .bool (pkOk (sg xn yn) (qN xn xd yn yd) (qD xn xd yn yd))]) (by simp [results, Yazv.results7, go_sem, hc]) rfl ⟨rfl, ?_⟩
  exact ((((((Ext.refl _).alloc _ _).alloc _ _).alloc _ _).trans ht3).setCell (by simp; omega) _).setCell (by simp; omega) _

end Go.Proofs.Ymwhaz
