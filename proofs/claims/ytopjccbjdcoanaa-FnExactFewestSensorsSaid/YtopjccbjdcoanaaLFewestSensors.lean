/- The walk of the law FnExactFewestSensors: it returns true; nothing that was there has turned. -/
import Derived.Test.YtopjccbjdcoanaaFsd
import Derived.Test.YtopjccbjdcoanaaFsi
import Derived.Test.YtopjccbjdcoanaaXSS
namespace Go.Proofs.Ytopjccbjdcoanaa
set_option linter.unusedVariables false
open Go.RowKit
set_option maxRecDepth 100000 in
set_option maxHeartbeats 1000000 in
theorem lawFewestSensors (w : World) (aTimes : List (List Int)) (v_aTimes : Value) (hv_aTimes : SlSS 0 w.heap.size w v_aTimes aTimes) (aLimit : Int) (aBudget : Int) :
    Calls Try.prog 5 #[v_aTimes, .int .i64 aLimit, .int .i64 aBudget] w fun e w' => e = .returned (.bool true) ∧ Ext w w' := by
  go_enter Try.func5, Try.ntmps5
  have hT : Ext w w := Below.refl _ _
  go_wp2_with fail
  refine (szInt64SS aTimes _ _ _ _ _ (hv_aTimes.ext hT) ⟨by omega, by omega⟩).mono ?_
  rintro e w1 ⟨⟨r1, rfl, hr1⟩, hE1⟩
  have z1 : w.heap.size ≤ w1.heap.size := hE1.size
  replace hT := Ext.tr hT hE1
  clear hE1
  by_cases hn1 : r1 < 0
  · go_wp2
    go_ret
    exact ⟨rfl, hT⟩
  obtain ⟨hr1a, hn_aTimes⟩ := hr1 (by omega)
  have hr1b : 0 ≤ r1 := by omega
  go_wp2_with fail
  refine (toInt64SS aTimes _ _ _ _ (hv_aTimes.ext hT) hn_aTimes).mono ?_
  rintro e w2 ⟨⟨v2, rfl, hO2⟩, hE2⟩
  have z2 : w1.heap.size ≤ w2.heap.size := hE2.size
  replace hT := Ext.tr hT hE2
  clear hE2
  go_wp2_with fail
  refine (specFewestSensors aTimes aLimit aBudget _ _ _ _ hO2.sl hn_aTimes).mono ?_
  rintro e w3 ⟨⟨v3, rfl, hO3⟩, hE3⟩
  have z3 : w2.heap.size ≤ w3.heap.size := hE3.size
  replace hO2 := hO2.ext hE3
  replace hT := Ext.tr hT hE3
  clear hE3
  go_wp2_with fail
  refine (toInt64SS aTimes _ _ _ _ (hv_aTimes.ext hT) hn_aTimes).mono ?_
  rintro e w4 ⟨⟨v4, rfl, hO4⟩, hE4⟩
  have z4 : w3.heap.size ≤ w4.heap.size := hE4.size
  replace hO2 := hO2.ext hE4
  replace hO3 := hO3.ext hE4
  replace hT := Ext.tr hT hE4
  clear hE4
  go_wp2_with fail
  refine (implFewestSensors aTimes aLimit aBudget _ _ _ _ hO4.sl hn_aTimes).mono ?_
  rintro e w5 ⟨⟨v5, rfl, hO5⟩, hE5⟩
  have z5 : w4.heap.size ≤ w5.heap.size := hE5.size
  replace hO2 := hO2.ext hE5
  replace hO3 := hO3.ext hE5
  replace hO4 := hO4.ext hE5
  replace hT := Ext.tr hT hE5
  clear hE5
  go_wp2_with fail
  refine (eqInt64S ((fewR aTimes aLimit aBudget).1) _ _ _ _ _ _ _ hO5.sl hO3.sl hO5.2.1).mono ?_
  rintro e w6 ⟨rfl, hE6⟩
  have z6 : w5.heap.size ≤ w6.heap.size := hE6.size
  replace hO2 := hO2.ext hE6
  replace hO3 := hO3.ext hE6
  replace hO4 := hO4.ext hE6
  replace hO5 := hO5.ext hE6
  replace hT := Ext.tr hT hE6
  clear hE6
  go_wp2_with fail
  refine (toInt64SS aTimes _ _ _ _ (hv_aTimes.ext hT) hn_aTimes).mono ?_
  rintro e w7 ⟨⟨v7, rfl, hO7⟩, hE7⟩
  have z7 : w6.heap.size ≤ w7.heap.size := hE7.size
  replace hO2 := hO2.ext hE7
  replace hO3 := hO3.ext hE7
  replace hO4 := hO4.ext hE7
  replace hO5 := hO5.ext hE7
  replace hT := Ext.tr hT hE7
  clear hE7
  go_wp2_with fail
  refine (eqInt64SS (aTimes) _ _ _ _ _ _ _ hO4.sl hO7.sl (by omega)).mono ?_
  rintro e w8 ⟨rfl, hE8⟩
  have z8 : w7.heap.size ≤ w8.heap.size := hE8.size
  replace hO2 := hO2.ext hE8
  replace hO3 := hO3.ext hE8
  replace hO4 := hO4.ext hE8
  replace hO5 := hO5.ext hE8
  replace hO7 := hO7.ext hE8
  replace hT := Ext.tr hT hE8
  clear hE8
  clear hO7
  go_wp2_with fail
  refine (markInt64SS (1) _ _ _ _ _ hO4 (by omega) (by have := hO4.2.1; omega)).mono ?_
  rintro e w9 ⟨rfl, hM9, hK9⟩
  have z9 : w8.heap.size ≤ w9.heap.size := hK9.size
  replace hO2 := hO2.keep hK9 (by omega)
  replace hO3 := hO3.keep hK9 (by omega)
  replace hO5 := hO5.keep hK9 (by omega)
  replace hT := hK9.ext hT (by omega)
  clear hK9
  have hnn9 := hO4.2.1
  obtain ⟨hnn9a, hnn9b⟩ := hnn9
  clear hO4
  go_wp2_with fail
  refine (eqInt64S ((fewR aTimes aLimit aBudget).1) _ _ _ _ _ _ _ hO5.sl hO3.sl hO5.2.1).mono ?_
  rintro e w10 ⟨rfl, hE10⟩
  have z10 : w9.heap.size ≤ w10.heap.size := hE10.size
  replace hO2 := hO2.ext hE10
  replace hO3 := hO3.ext hE10
  replace hM9 := hM9.ext hE10
  replace hO5 := hO5.ext hE10
  replace hT := Ext.tr hT hE10
  clear hE10
  go_wp2_with fail
  refine (markInt64S (1) _ _ _ _ _ _ hO5 (by omega) (by have := hO5.2.1; omega)).mono ?_
  rintro e w11 ⟨rfl, hM11, hK11⟩
  have z11 : w10.heap.size ≤ w11.heap.size := hK11.size
  replace hO2 := hO2.keep hK11 (by omega)
  replace hO3 := hO3.keep hK11 (by omega)
  replace hM9 := hM9.keep hK11 (by omega)
  replace hT := hK11.ext hT (by omega)
  clear hK11
  clear hO5
  have hb11 := hM11.2.1
  go_wp2_with fail
  refine (heldInt64S (1) _ _ _ _ _ hM11.sl hM11.2.1 (by omega) (by have := hM11.2.1; omega)).mono ?_
  rintro e w12 ⟨rfl, hE12⟩
  have z12 : w11.heap.size ≤ w12.heap.size := hE12.size
  replace hO2 := hO2.ext hE12
  replace hO3 := hO3.ext hE12
  replace hM9 := hM9.ext hE12
  replace hM11 := hM11.ext hE12
  replace hT := Ext.tr hT hE12
  clear hE12
  go_wp2_with fail
  refine (toInt64SS aTimes _ _ _ _ (hv_aTimes.ext hT) hn_aTimes).mono ?_
  rintro e w13 ⟨⟨v13, rfl, hO13⟩, hE13⟩
  have z13 : w12.heap.size ≤ w13.heap.size := hE13.size
  replace hO2 := hO2.ext hE13
  replace hO3 := hO3.ext hE13
  replace hM9 := hM9.ext hE13
  replace hM11 := hM11.ext hE13
  replace hT := Ext.tr hT hE13
  clear hE13
  go_wp2_with fail
  refine (implFewestSensors aTimes aLimit aBudget _ _ _ _ hO13.sl hn_aTimes).mono ?_
  rintro e w14 ⟨⟨v14, rfl, hO14⟩, hE14⟩
  have z14 : w13.heap.size ≤ w14.heap.size := hE14.size
  replace hO2 := hO2.ext hE14
  replace hO3 := hO3.ext hE14
  replace hM9 := hM9.ext hE14
  replace hM11 := hM11.ext hE14
  replace hO13 := hO13.ext hE14
  replace hT := Ext.tr hT hE14
  clear hE14
  go_wp2_with fail
  refine (eqInt64S ((fewR aTimes aLimit aBudget).1) _ _ _ _ _ _ _ hO14.sl hO3.sl hO14.2.1).mono ?_
  rintro e w15 ⟨rfl, hE15⟩
  have z15 : w14.heap.size ≤ w15.heap.size := hE15.size
  replace hO2 := hO2.ext hE15
  replace hO3 := hO3.ext hE15
  replace hM9 := hM9.ext hE15
  replace hM11 := hM11.ext hE15
  replace hO13 := hO13.ext hE15
  replace hO14 := hO14.ext hE15
  replace hT := Ext.tr hT hE15
  clear hE15
  go_wp2_with fail
  refine (heldInt64S (1) _ _ _ _ _ hM11.sl hM11.2.1 (by omega) (by have := hM11.2.1; omega)).mono ?_
  rintro e w16 ⟨rfl, hE16⟩
  have z16 : w15.heap.size ≤ w16.heap.size := hE16.size
  replace hO2 := hO2.ext hE16
  replace hO3 := hO3.ext hE16
  replace hM9 := hM9.ext hE16
  replace hM11 := hM11.ext hE16
  replace hO13 := hO13.ext hE16
  replace hO14 := hO14.ext hE16
  replace hT := Ext.tr hT hE16
  clear hE16
  go_wp2
  go_ret
  exact ⟨rfl, hT⟩
end Go.Proofs.Ytopjccbjdcoanaa
