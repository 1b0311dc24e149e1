/- The walk of the law FnExactMedianOf: it returns true; nothing that was there has turned. -/
import Derived.Test.YtopjccbjdcoanaaMedianI
namespace Go.Proofs.Ytopjccbjdcoanaa
set_option linter.unusedVariables false
open Go.RowKit
set_option maxRecDepth 100000 in
set_option maxHeartbeats 1000000 in
theorem lawMedianOf (w : World) (aSeries : List Int) (v_aSeries : Value) (hv_aSeries : Sl 0 w.heap.size w 1 v_aSeries aSeries.length (flat encI aSeries)) (aWidth : Int) :
    Calls Try.prog 8 #[v_aSeries, .int .i64 aWidth] w fun e w' => e = .returned (.bool true) ∧ Ext w w' := by
  go_enter Try.func8, Try.ntmps8
  have hT : Ext w w := Below.refl _ _
  have hv0 := hv_aSeries
  obtain ⟨_, _, A_aSeries, c_aSeries, rfl, _, _, _⟩ := hv0
  by_cases hg_aSeries : aSeries.length > 1048576
  · go_wp2
    go_ret
    exact ⟨rfl, by first | exact hT | (go_tidy; go_grown)⟩
  have hn_aSeries : aSeries.length ≤ 1048576 := by omega
  go_wp2_with fail
  refine (toInt64S aSeries _ _ _ _ (hv_aSeries.ext hT) hn_aSeries).mono ?_
  rintro e w1 ⟨⟨v1, rfl, hO1⟩, hE1⟩
  have z1 : w.heap.size ≤ w1.heap.size := hE1.size
  replace hT := Ext.tr hT hE1
  clear hE1
  go_wp2_with fail
  refine (specMedianOf aSeries aWidth _ _ _ _ hO1.sl hn_aSeries).mono ?_
  rintro e w2 ⟨⟨v2, rfl, hO2⟩, hE2⟩
  have z2 : w1.heap.size ≤ w2.heap.size := hE2.size
  replace hO1 := hO1.ext hE2
  replace hT := Ext.tr hT hE2
  clear hE2
  go_wp2_with fail
  refine (toInt64S aSeries _ _ _ _ (hv_aSeries.ext hT) hn_aSeries).mono ?_
  rintro e w3 ⟨⟨v3, rfl, hO3⟩, hE3⟩
  have z3 : w2.heap.size ≤ w3.heap.size := hE3.size
  replace hO1 := hO1.ext hE3
  replace hO2 := hO2.ext hE3
  replace hT := Ext.tr hT hE3
  clear hE3
  go_wp2_with fail
  refine (implMedianOf aSeries aWidth _ _ _ _ hO3.sl hn_aSeries).mono ?_
  rintro e w4 ⟨⟨v4, rfl, hO4⟩, hE4⟩
  have z4 : w3.heap.size ≤ w4.heap.size := hE4.size
  replace hO1 := hO1.ext hE4
  replace hO2 := hO2.ext hE4
  replace hO3 := hO3.ext hE4
  replace hT := Ext.tr hT hE4
  clear hE4
  go_wp2_with fail
  refine (eqInt64S ((medR aSeries aWidth).1) _ _ _ _ _ _ _ hO4.sl hO2.sl hO4.2.1).mono ?_
  rintro e w5 ⟨rfl, hE5⟩
  have z5 : w4.heap.size ≤ w5.heap.size := hE5.size
  replace hO1 := hO1.ext hE5
  replace hO2 := hO2.ext hE5
  replace hO3 := hO3.ext hE5
  replace hO4 := hO4.ext hE5
  replace hT := Ext.tr hT hE5
  clear hE5
  go_wp2_with fail
  refine (toInt64S aSeries _ _ _ _ (hv_aSeries.ext hT) hn_aSeries).mono ?_
  rintro e w6 ⟨⟨v6, rfl, hO6⟩, hE6⟩
  have z6 : w5.heap.size ≤ w6.heap.size := hE6.size
  replace hO1 := hO1.ext hE6
  replace hO2 := hO2.ext hE6
  replace hO3 := hO3.ext hE6
  replace hO4 := hO4.ext hE6
  replace hT := Ext.tr hT hE6
  clear hE6
  go_wp2_with fail
  refine (eqInt64S (aSeries) _ _ _ _ _ _ _ hO3.sl hO6.sl (by omega)).mono ?_
  rintro e w7 ⟨rfl, hE7⟩
  have z7 : w6.heap.size ≤ w7.heap.size := hE7.size
  replace hO1 := hO1.ext hE7
  replace hO2 := hO2.ext hE7
  replace hO3 := hO3.ext hE7
  replace hO4 := hO4.ext hE7
  replace hO6 := hO6.ext hE7
  replace hT := Ext.tr hT hE7
  clear hE7
  clear hO6
  go_wp2_with fail
  refine (markInt64S (1) _ _ _ _ _ _ hO3 (by omega) (by have := hO3.2.1; omega)).mono ?_
  rintro e w8 ⟨rfl, hM8, hK8⟩
  have z8 : w7.heap.size ≤ w8.heap.size := hK8.size
  replace hO1 := hO1.keep hK8 (by omega)
  replace hO2 := hO2.keep hK8 (by omega)
  replace hO4 := hO4.keep hK8 (by omega)
  replace hT := hK8.ext hT (by omega)
  clear hK8
  clear hO3
  have hb8 := hM8.2.1
  go_wp2_with fail
  refine (eqInt64S ((medR aSeries aWidth).1) _ _ _ _ _ _ _ hO4.sl hO2.sl hO4.2.1).mono ?_
  rintro e w9 ⟨rfl, hE9⟩
  have z9 : w8.heap.size ≤ w9.heap.size := hE9.size
  replace hO1 := hO1.ext hE9
  replace hO2 := hO2.ext hE9
  replace hM8 := hM8.ext hE9
  replace hO4 := hO4.ext hE9
  replace hT := Ext.tr hT hE9
  clear hE9
  go_wp2_with fail
  refine (markInt64S (1) _ _ _ _ _ _ hO4 (by omega) (by have := hO4.2.1; omega)).mono ?_
  rintro e w10 ⟨rfl, hM10, hK10⟩
  have z10 : w9.heap.size ≤ w10.heap.size := hK10.size
  replace hO1 := hO1.keep hK10 (by omega)
  replace hO2 := hO2.keep hK10 (by omega)
  replace hM8 := hM8.keep hK10 (by omega)
  replace hT := hK10.ext hT (by omega)
  clear hK10
  clear hO4
  have hb10 := hM10.2.1
  go_wp2_with fail
  refine (heldInt64S (1) _ _ _ _ _ hM10.sl hM10.2.1 (by omega) (by have := hM10.2.1; omega)).mono ?_
  rintro e w11 ⟨rfl, hE11⟩
  have z11 : w10.heap.size ≤ w11.heap.size := hE11.size
  replace hO1 := hO1.ext hE11
  replace hO2 := hO2.ext hE11
  replace hM8 := hM8.ext hE11
  replace hM10 := hM10.ext hE11
  replace hT := Ext.tr hT hE11
  clear hE11
  go_wp2_with fail
  refine (toInt64S aSeries _ _ _ _ (hv_aSeries.ext hT) hn_aSeries).mono ?_
  rintro e w12 ⟨⟨v12, rfl, hO12⟩, hE12⟩
  have z12 : w11.heap.size ≤ w12.heap.size := hE12.size
  replace hO1 := hO1.ext hE12
  replace hO2 := hO2.ext hE12
  replace hM8 := hM8.ext hE12
  replace hM10 := hM10.ext hE12
  replace hT := Ext.tr hT hE12
  clear hE12
  go_wp2_with fail
  refine (implMedianOf aSeries aWidth _ _ _ _ hO12.sl hn_aSeries).mono ?_
  rintro e w13 ⟨⟨v13, rfl, hO13⟩, hE13⟩
  have z13 : w12.heap.size ≤ w13.heap.size := hE13.size
  replace hO1 := hO1.ext hE13
  replace hO2 := hO2.ext hE13
  replace hM8 := hM8.ext hE13
  replace hM10 := hM10.ext hE13
  replace hO12 := hO12.ext hE13
  replace hT := Ext.tr hT hE13
  clear hE13
  go_wp2_with fail
  refine (eqInt64S ((medR aSeries aWidth).1) _ _ _ _ _ _ _ hO13.sl hO2.sl hO13.2.1).mono ?_
  rintro e w14 ⟨rfl, hE14⟩
  have z14 : w13.heap.size ≤ w14.heap.size := hE14.size
  replace hO1 := hO1.ext hE14
  replace hO2 := hO2.ext hE14
  replace hM8 := hM8.ext hE14
  replace hM10 := hM10.ext hE14
  replace hO12 := hO12.ext hE14
  replace hO13 := hO13.ext hE14
  replace hT := Ext.tr hT hE14
  clear hE14
  go_wp2_with fail
  refine (heldInt64S (1) _ _ _ _ _ hM10.sl hM10.2.1 (by omega) (by have := hM10.2.1; omega)).mono ?_
  rintro e w15 ⟨rfl, hE15⟩
  have z15 : w14.heap.size ≤ w15.heap.size := hE15.size
  replace hO1 := hO1.ext hE15
  replace hO2 := hO2.ext hE15
  replace hM8 := hM8.ext hE15
  replace hM10 := hM10.ext hE15
  replace hO12 := hO12.ext hE15
  replace hO13 := hO13.ext hE15
  replace hT := Ext.tr hT hE15
  clear hE15
  go_wp2
  go_ret
  exact ⟨rfl, hT⟩
end Go.Proofs.Ytopjccbjdcoanaa
