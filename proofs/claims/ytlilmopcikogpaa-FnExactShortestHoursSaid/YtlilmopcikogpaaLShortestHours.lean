/- The walk of the law FnExactShortestHours: it returns true; nothing that was there has turned. -/
import Derived.Test.YtlilmopcikogpaaJ20
namespace Go.Proofs.Ytlilmopcikogpaa
set_option linter.unusedVariables false
open Go.RowKit
set_option maxRecDepth 100000 in
set_option maxHeartbeats 1000000 in
theorem lawShortestHours (w : World) (aList : List Refuge) (v_aList : Value) (hv_aList : Sl 0 w.heap.size w 4 v_aList aList.length (flat Refuge.enc aList)) (hs_aList : ∀ x ∈ aList, x.id.size ≤ maxLen) (aSizes : List Int) (v_aSizes : Value) (hv_aSizes : Sl 0 w.heap.size w 1 v_aSizes aSizes.length (flat encI aSizes)) (aPlaces : List Int) (v_aPlaces : Value) (hv_aPlaces : Sl 0 w.heap.size w 1 v_aPlaces aPlaces.length (flat encI aPlaces)) (aUse : Int) :
    Calls Try.prog 7 #[v_aList, v_aSizes, v_aPlaces, .int .i64 aUse] w fun e w' => e = .returned (.bool true) ∧ Ext w w' := by
  go_enter Try.func7, Try.ntmps7
  have hT : Ext w w := Below.refl _ _
  have hv0 := hv_aSizes
  obtain ⟨_, _, A_aSizes, c_aSizes, rfl, _, _, _⟩ := hv0
  by_cases hg_aSizes : aSizes.length > 1048576
  · go_wp2
    go_ret
    exact ⟨rfl, by first | exact hT | (go_tidy; go_grown)⟩
  have hn_aSizes : aSizes.length ≤ 1048576 := by omega
  have hv0 := hv_aPlaces
  obtain ⟨_, _, A_aPlaces, c_aPlaces, rfl, _, _, _⟩ := hv0
  by_cases hg_aPlaces : aPlaces.length > 1048576
  · go_wp2
    go_ret
    exact ⟨rfl, by first | exact hT | (go_tidy; go_grown)⟩
  have hn_aPlaces : aPlaces.length ≤ 1048576 := by omega
  go_wp2_with fail
  refine (szRefugeS aList _ _ _ _ _ (hv_aList.ext hT) hs_aList ⟨by omega, by omega⟩).mono ?_
  rintro e w1 ⟨⟨r1, rfl, hr1⟩, hE1⟩
  have z1 : w.heap.size ≤ w1.heap.size := hE1.size
  replace hT := Ext.tr hT hE1
  clear hE1
  by_cases hn1 : r1 < 0
  · go_wp2
    go_ret
    exact ⟨rfl, hT⟩
  obtain ⟨hr1a, hn_aList, hb_aList⟩ := hr1 (by omega)
  have hr1b : 0 ≤ r1 := by omega
  go_wp2_with fail
  refine (toRefugeS aList _ _ _ _ (hv_aList.ext hT) hn_aList).mono ?_
  rintro e w2 ⟨⟨v2, rfl, hO2⟩, hE2⟩
  have z2 : w1.heap.size ≤ w2.heap.size := hE2.size
  replace hT := Ext.tr hT hE2
  clear hE2
  go_wp2_with fail
  refine (toInt64S aSizes _ _ _ _ (hv_aSizes.ext hT) hn_aSizes).mono ?_
  rintro e w3 ⟨⟨v3, rfl, hO3⟩, hE3⟩
  have z3 : w2.heap.size ≤ w3.heap.size := hE3.size
  replace hO2 := hO2.ext hE3
  replace hT := Ext.tr hT hE3
  clear hE3
  go_wp2_with fail
  refine (toInt64S aPlaces _ _ _ _ (hv_aPlaces.ext hT) hn_aPlaces).mono ?_
  rintro e w4 ⟨⟨v4, rfl, hO4⟩, hE4⟩
  have z4 : w3.heap.size ≤ w4.heap.size := hE4.size
  replace hO2 := hO2.ext hE4
  replace hO3 := hO3.ext hE4
  replace hT := Ext.tr hT hE4
  clear hE4
  go_wp2_with fail
  refine (specShortestHours aList aSizes aPlaces aUse _ _ _ _ _ _ _ _ _ _ hO2.sl hs_aList hn_aList hO3.sl hn_aSizes hO4.sl hn_aPlaces).mono ?_
  rintro e w5 ⟨rfl, hE5⟩
  have z5 : w4.heap.size ≤ w5.heap.size := hE5.size
  replace hO2 := hO2.ext hE5
  replace hO3 := hO3.ext hE5
  replace hO4 := hO4.ext hE5
  replace hT := Ext.tr hT hE5
  clear hE5
  go_wp2_with fail
  refine (toRefugeS aList _ _ _ _ (hv_aList.ext hT) hn_aList).mono ?_
  rintro e w6 ⟨⟨v6, rfl, hO6⟩, hE6⟩
  have z6 : w5.heap.size ≤ w6.heap.size := hE6.size
  replace hO2 := hO2.ext hE6
  replace hO3 := hO3.ext hE6
  replace hO4 := hO4.ext hE6
  replace hT := Ext.tr hT hE6
  clear hE6
  go_wp2_with fail
  refine (toInt64S aSizes _ _ _ _ (hv_aSizes.ext hT) hn_aSizes).mono ?_
  rintro e w7 ⟨⟨v7, rfl, hO7⟩, hE7⟩
  have z7 : w6.heap.size ≤ w7.heap.size := hE7.size
  replace hO2 := hO2.ext hE7
  replace hO3 := hO3.ext hE7
  replace hO4 := hO4.ext hE7
  replace hO6 := hO6.ext hE7
  replace hT := Ext.tr hT hE7
  clear hE7
  go_wp2_with fail
  refine (toInt64S aPlaces _ _ _ _ (hv_aPlaces.ext hT) hn_aPlaces).mono ?_
  rintro e w8 ⟨⟨v8, rfl, hO8⟩, hE8⟩
  have z8 : w7.heap.size ≤ w8.heap.size := hE8.size
  replace hO2 := hO2.ext hE8
  replace hO3 := hO3.ext hE8
  replace hO4 := hO4.ext hE8
  replace hO6 := hO6.ext hE8
  replace hO7 := hO7.ext hE8
  replace hT := Ext.tr hT hE8
  clear hE8
  go_wp2_with fail
  refine (implShortestHours aList aSizes aPlaces aUse _ _ _ _ _ _ _ _ _ _ hO6.sl hs_aList hn_aList hO7.sl hn_aSizes hO8.sl hn_aPlaces).mono ?_
  rintro e w9 ⟨rfl, hE9⟩
  have z9 : w8.heap.size ≤ w9.heap.size := hE9.size
  replace hO2 := hO2.ext hE9
  replace hO3 := hO3.ext hE9
  replace hO4 := hO4.ext hE9
  replace hO6 := hO6.ext hE9
  replace hO7 := hO7.ext hE9
  replace hO8 := hO8.ext hE9
  replace hT := Ext.tr hT hE9
  clear hE9
  go_wp2_with fail
  refine (toRefugeS aList _ _ _ _ (hv_aList.ext hT) hn_aList).mono ?_
  rintro e w10 ⟨⟨v10, rfl, hO10⟩, hE10⟩
  have z10 : w9.heap.size ≤ w10.heap.size := hE10.size
  replace hO2 := hO2.ext hE10
  replace hO3 := hO3.ext hE10
  replace hO4 := hO4.ext hE10
  replace hO6 := hO6.ext hE10
  replace hO7 := hO7.ext hE10
  replace hO8 := hO8.ext hE10
  replace hT := Ext.tr hT hE10
  clear hE10
  go_wp2_with fail
  refine (eqRefugeS (aList) _ _ _ _ _ _ _ hO6.sl hO10.sl (by omega)).mono ?_
  rintro e w11 ⟨rfl, hE11⟩
  have z11 : w10.heap.size ≤ w11.heap.size := hE11.size
  replace hO2 := hO2.ext hE11
  replace hO3 := hO3.ext hE11
  replace hO4 := hO4.ext hE11
  replace hO6 := hO6.ext hE11
  replace hO7 := hO7.ext hE11
  replace hO8 := hO8.ext hE11
  replace hO10 := hO10.ext hE11
  replace hT := Ext.tr hT hE11
  clear hE11
  clear hO10
  go_wp2_with fail
  refine (toInt64S aSizes _ _ _ _ (hv_aSizes.ext hT) hn_aSizes).mono ?_
  rintro e w12 ⟨⟨v12, rfl, hO12⟩, hE12⟩
  have z12 : w11.heap.size ≤ w12.heap.size := hE12.size
  replace hO2 := hO2.ext hE12
  replace hO3 := hO3.ext hE12
  replace hO4 := hO4.ext hE12
  replace hO6 := hO6.ext hE12
  replace hO7 := hO7.ext hE12
  replace hO8 := hO8.ext hE12
  replace hT := Ext.tr hT hE12
  clear hE12
  go_wp2_with fail
  refine (eqInt64S (aSizes) _ _ _ _ _ _ _ hO7.sl hO12.sl (by omega)).mono ?_
  rintro e w13 ⟨rfl, hE13⟩
  have z13 : w12.heap.size ≤ w13.heap.size := hE13.size
  replace hO2 := hO2.ext hE13
  replace hO3 := hO3.ext hE13
  replace hO4 := hO4.ext hE13
  replace hO6 := hO6.ext hE13
  replace hO7 := hO7.ext hE13
  replace hO8 := hO8.ext hE13
  replace hO12 := hO12.ext hE13
  replace hT := Ext.tr hT hE13
  clear hE13
  clear hO12
  go_wp2_with fail
  refine (toInt64S aPlaces _ _ _ _ (hv_aPlaces.ext hT) hn_aPlaces).mono ?_
  rintro e w14 ⟨⟨v14, rfl, hO14⟩, hE14⟩
  have z14 : w13.heap.size ≤ w14.heap.size := hE14.size
  replace hO2 := hO2.ext hE14
  replace hO3 := hO3.ext hE14
  replace hO4 := hO4.ext hE14
  replace hO6 := hO6.ext hE14
  replace hO7 := hO7.ext hE14
  replace hO8 := hO8.ext hE14
  replace hT := Ext.tr hT hE14
  clear hE14
  go_wp2_with fail
  refine (eqInt64S (aPlaces) _ _ _ _ _ _ _ hO8.sl hO14.sl (by omega)).mono ?_
  rintro e w15 ⟨rfl, hE15⟩
  have z15 : w14.heap.size ≤ w15.heap.size := hE15.size
  replace hO2 := hO2.ext hE15
  replace hO3 := hO3.ext hE15
  replace hO4 := hO4.ext hE15
  replace hO6 := hO6.ext hE15
  replace hO7 := hO7.ext hE15
  replace hO8 := hO8.ext hE15
  replace hO14 := hO14.ext hE15
  replace hT := Ext.tr hT hE15
  clear hE15
  clear hO14
  go_wp2
  go_ret
  exact ⟨rfl, hT⟩
end Go.Proofs.Ytlilmopcikogpaa
