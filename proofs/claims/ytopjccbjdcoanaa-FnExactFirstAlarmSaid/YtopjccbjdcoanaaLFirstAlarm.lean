/- The walk of the law FnExactFirstAlarm: it returns true; nothing that was there has turned. -/
import Derived.Test.YtopjccbjdcoanaaFirI
import Derived.Test.YtopjccbjdcoanaaXSensor
import Derived.Test.YtopjccbjdcoanaaXSS
namespace Go.Proofs.Ytopjccbjdcoanaa
set_option linter.unusedVariables false
open Go.RowKit
set_option maxRecDepth 100000 in
set_option maxHeartbeats 1000000 in
theorem lawFirstAlarm (w : World) (aList : List Sensor) (v_aList : Value) (hv_aList : Sl 0 w.heap.size w 5 v_aList aList.length (flat Sensor.enc aList)) (hs_aList : ∀ x ∈ aList, x.id.size ≤ maxLen) (aSeries : List (List Int)) (v_aSeries : Value) (hv_aSeries : SlSS 0 w.heap.size w v_aSeries aSeries) :
    Calls Try.prog 6 #[v_aList, v_aSeries] w fun e w' => e = .returned (.bool true) ∧ Ext w w' := by
  go_enter Try.func6, Try.ntmps6
  have hT : Ext w w := Below.refl _ _
  go_wp2_with fail
  refine (szSensorS aList _ _ _ _ _ (hv_aList.ext hT) hs_aList ⟨by omega, by omega⟩).mono ?_
  rintro e w1 ⟨⟨r1, rfl, hr1⟩, hE1⟩
  have z1 : w.heap.size ≤ w1.heap.size := hE1.size
  replace hT := Ext.tr hT hE1
  clear hE1
  by_cases hn1 : r1 < 0
  · go_wp2
    go_ret
    exact ⟨rfl, hT⟩
  obtain ⟨hr1a, hn_aList, hb_aList⟩ := hr1 (by omega)
  have hr1b : 0 ≤ r1 := by omega
  go_wp2_with fail
  refine (szInt64SS aSeries _ _ _ _ _ (hv_aSeries.ext hT) ⟨by omega, by omega⟩).mono ?_
  rintro e w2 ⟨⟨r2, rfl, hr2⟩, hE2⟩
  have z2 : w1.heap.size ≤ w2.heap.size := hE2.size
  replace hT := Ext.tr hT hE2
  clear hE2
  by_cases hn2 : r2 < 0
  · go_wp2
    go_ret
    exact ⟨rfl, hT⟩
  obtain ⟨hr2a, hn_aSeries⟩ := hr2 (by omega)
  have hr2b : 0 ≤ r2 := by omega
  go_wp2_with fail
  refine (toSensorS aList _ _ _ _ (hv_aList.ext hT) hn_aList).mono ?_
  rintro e w3 ⟨⟨v3, rfl, hO3⟩, hE3⟩
  have z3 : w2.heap.size ≤ w3.heap.size := hE3.size
  replace hT := Ext.tr hT hE3
  clear hE3
  go_wp2_with fail
  refine (toInt64SS aSeries _ _ _ _ (hv_aSeries.ext hT) hn_aSeries).mono ?_
  rintro e w4 ⟨⟨v4, rfl, hO4⟩, hE4⟩
  have z4 : w3.heap.size ≤ w4.heap.size := hE4.size
  replace hO3 := hO3.ext hE4
  replace hT := Ext.tr hT hE4
  clear hE4
  go_wp2_with fail
  refine (specFirstAlarm aList aSeries _ _ _ _ _ _ _ hO3.sl hs_aList hn_aList hO4.sl hn_aSeries).mono ?_
  rintro e w5 ⟨rfl, hE5⟩
  have z5 : w4.heap.size ≤ w5.heap.size := hE5.size
  replace hO3 := hO3.ext hE5
  replace hO4 := hO4.ext hE5
  replace hT := Ext.tr hT hE5
  clear hE5
  go_wp2_with fail
  refine (toSensorS aList _ _ _ _ (hv_aList.ext hT) hn_aList).mono ?_
  rintro e w6 ⟨⟨v6, rfl, hO6⟩, hE6⟩
  have z6 : w5.heap.size ≤ w6.heap.size := hE6.size
  replace hO3 := hO3.ext hE6
  replace hO4 := hO4.ext hE6
  replace hT := Ext.tr hT hE6
  clear hE6
  go_wp2_with fail
  refine (toInt64SS aSeries _ _ _ _ (hv_aSeries.ext hT) hn_aSeries).mono ?_
  rintro e w7 ⟨⟨v7, rfl, hO7⟩, hE7⟩
  have z7 : w6.heap.size ≤ w7.heap.size := hE7.size
  replace hO3 := hO3.ext hE7
  replace hO4 := hO4.ext hE7
  replace hO6 := hO6.ext hE7
  replace hT := Ext.tr hT hE7
  clear hE7
  go_wp2_with fail
  refine (implFirstAlarm aList aSeries _ _ _ _ _ _ _ hO6.sl hs_aList hn_aList hO7.sl hn_aSeries).mono ?_
  rintro e w8 ⟨rfl, hE8⟩
  have z8 : w7.heap.size ≤ w8.heap.size := hE8.size
  replace hO3 := hO3.ext hE8
  replace hO4 := hO4.ext hE8
  replace hO6 := hO6.ext hE8
  replace hO7 := hO7.ext hE8
  replace hT := Ext.tr hT hE8
  clear hE8
  go_wp2_with fail
  refine (toSensorS aList _ _ _ _ (hv_aList.ext hT) hn_aList).mono ?_
  rintro e w9 ⟨⟨v9, rfl, hO9⟩, hE9⟩
  have z9 : w8.heap.size ≤ w9.heap.size := hE9.size
  replace hO3 := hO3.ext hE9
  replace hO4 := hO4.ext hE9
  replace hO6 := hO6.ext hE9
  replace hO7 := hO7.ext hE9
  replace hT := Ext.tr hT hE9
  clear hE9
  go_wp2_with fail
  refine (eqSensorS (aList) _ _ _ _ _ _ _ hO6.sl hO9.sl (by omega)).mono ?_
  rintro e w10 ⟨rfl, hE10⟩
  have z10 : w9.heap.size ≤ w10.heap.size := hE10.size
  replace hO3 := hO3.ext hE10
  replace hO4 := hO4.ext hE10
  replace hO6 := hO6.ext hE10
  replace hO7 := hO7.ext hE10
  replace hO9 := hO9.ext hE10
  replace hT := Ext.tr hT hE10
  clear hE10
  clear hO9
  go_wp2_with fail
  refine (toInt64SS aSeries _ _ _ _ (hv_aSeries.ext hT) hn_aSeries).mono ?_
  rintro e w11 ⟨⟨v11, rfl, hO11⟩, hE11⟩
  have z11 : w10.heap.size ≤ w11.heap.size := hE11.size
  replace hO3 := hO3.ext hE11
  replace hO4 := hO4.ext hE11
  replace hO6 := hO6.ext hE11
  replace hO7 := hO7.ext hE11
  replace hT := Ext.tr hT hE11
  clear hE11
  go_wp2_with fail
  refine (eqInt64SS (aSeries) _ _ _ _ _ _ _ hO7.sl hO11.sl (by omega)).mono ?_
  rintro e w12 ⟨rfl, hE12⟩
  have z12 : w11.heap.size ≤ w12.heap.size := hE12.size
  replace hO3 := hO3.ext hE12
  replace hO4 := hO4.ext hE12
  replace hO6 := hO6.ext hE12
  replace hO7 := hO7.ext hE12
  replace hO11 := hO11.ext hE12
  replace hT := Ext.tr hT hE12
  clear hE12
  clear hO11
  go_wp2
  go_ret
  exact ⟨rfl, hT⟩
end Go.Proofs.Ytopjccbjdcoanaa
