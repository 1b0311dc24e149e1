/- The walk of the law FnExactLatestOf: it returns true; nothing that was there has turned. -/
import Derived.Test.YtcocdigcmcpefaaE25
namespace Go.Proofs.Ytcocdigcmcpefaa
set_option linter.unusedVariables false
open Go.RowKit
set_option maxRecDepth 100000 in
set_option maxHeartbeats 1000000 in
theorem lawLatestOf (w : World) (aList : List Check) (v_aList : Value) (hv_aList : Sl 0 w.heap.size w 3 v_aList aList.length (flat Check.enc aList)) (hs_aList : ∀ x ∈ aList, x.id.size ≤ maxLen) (aDays : List Int) (v_aDays : Value) (hv_aDays : Sl 0 w.heap.size w 1 v_aDays aDays.length (flat encI aDays)) :
    Calls Try.prog 4 #[v_aList, v_aDays] w fun e w' => e = .returned (.bool true) ∧ Ext w w' := by
  go_enter Try.func4, Try.ntmps4
  have hT : Ext w w := Below.refl _ _
  have hv0 := hv_aDays
  obtain ⟨_, _, A_aDays, c_aDays, rfl, _, _, _⟩ := hv0
  by_cases hg_aDays : aDays.length > 1048576
  · go_wp2
    go_ret
    exact ⟨rfl, hT⟩
  have hn_aDays : aDays.length ≤ 1048576 := by omega
  go_wp2_with fail
  refine (szCheckS aList _ _ _ _ _ (hv_aList.ext hT) hs_aList ⟨by omega, by omega⟩).mono ?_
  rintro e w1 ⟨⟨r1, rfl, hr1⟩, hE1⟩
  have z1 : w.heap.size ≤ w1.heap.size := hE1.size
  replace hT := Ext.tr hT hE1
  clear hE1
  by_cases hn1 : r1 < 0
  · go_wp2
    go_ret
    exact ⟨rfl, hT⟩
  obtain ⟨hr1a, hn_aList, hb_aList⟩ := hr1 (by omega)
  have hr1b : 0 ≤ r1 := by omega
  go_wp2_with fail
  refine (toCheckS aList _ _ _ _ (hv_aList.ext hT) hn_aList).mono ?_
  rintro e w2 ⟨⟨v2, rfl, hO2⟩, hE2⟩
  have z2 : w1.heap.size ≤ w2.heap.size := hE2.size
  replace hT := Ext.tr hT hE2
  clear hE2
  go_wp2_with fail
  refine (toInt64S aDays _ _ _ _ (hv_aDays.ext hT) hn_aDays).mono ?_
  rintro e w3 ⟨⟨v3, rfl, hO3⟩, hE3⟩
  have z3 : w2.heap.size ≤ w3.heap.size := hE3.size
  replace hO2 := hO2.ext hE3
  replace hT := Ext.tr hT hE3
  clear hE3
  go_wp2_with fail
  refine (specLatestOf aList aDays _ _ _ _ _ _ _ hO2.sl hs_aList hn_aList hO3.sl hn_aDays).mono ?_
  rintro e w4 ⟨rfl, hE4⟩
  have z4 : w3.heap.size ≤ w4.heap.size := hE4.size
  replace hO2 := hO2.ext hE4
  replace hO3 := hO3.ext hE4
  replace hT := Ext.tr hT hE4
  clear hE4
  go_wp2_with fail
  refine (toCheckS aList _ _ _ _ (hv_aList.ext hT) hn_aList).mono ?_
  rintro e w5 ⟨⟨v5, rfl, hO5⟩, hE5⟩
  have z5 : w4.heap.size ≤ w5.heap.size := hE5.size
  replace hO2 := hO2.ext hE5
  replace hO3 := hO3.ext hE5
  replace hT := Ext.tr hT hE5
  clear hE5
  go_wp2_with fail
  refine (toInt64S aDays _ _ _ _ (hv_aDays.ext hT) hn_aDays).mono ?_
  rintro e w6 ⟨⟨v6, rfl, hO6⟩, hE6⟩
  have z6 : w5.heap.size ≤ w6.heap.size := hE6.size
  replace hO2 := hO2.ext hE6
  replace hO3 := hO3.ext hE6
  replace hO5 := hO5.ext hE6
  replace hT := Ext.tr hT hE6
  clear hE6
  go_wp2_with fail
  refine (implLatestOf aList aDays _ _ _ _ _ _ _ hO5.sl hs_aList hn_aList hO6.sl hn_aDays).mono ?_
  rintro e w7 ⟨rfl, hE7⟩
  have z7 : w6.heap.size ≤ w7.heap.size := hE7.size
  replace hO2 := hO2.ext hE7
  replace hO3 := hO3.ext hE7
  replace hO5 := hO5.ext hE7
  replace hO6 := hO6.ext hE7
  replace hT := Ext.tr hT hE7
  clear hE7
  go_wp2_with fail
  refine (toCheckS aList _ _ _ _ (hv_aList.ext hT) hn_aList).mono ?_
  rintro e w8 ⟨⟨v8, rfl, hO8⟩, hE8⟩
  have z8 : w7.heap.size ≤ w8.heap.size := hE8.size
  replace hO2 := hO2.ext hE8
  replace hO3 := hO3.ext hE8
  replace hO5 := hO5.ext hE8
  replace hO6 := hO6.ext hE8
  replace hT := Ext.tr hT hE8
  clear hE8
  go_wp2_with fail
  refine (eqCheckS (aList) _ _ _ _ _ _ _ hO5.sl hO8.sl (by omega)).mono ?_
  rintro e w9 ⟨rfl, hE9⟩
  have z9 : w8.heap.size ≤ w9.heap.size := hE9.size
  replace hO2 := hO2.ext hE9
  replace hO3 := hO3.ext hE9
  replace hO5 := hO5.ext hE9
  replace hO6 := hO6.ext hE9
  replace hO8 := hO8.ext hE9
  replace hT := Ext.tr hT hE9
  clear hE9
  clear hO8
  go_wp2_with fail
  refine (toInt64S aDays _ _ _ _ (hv_aDays.ext hT) hn_aDays).mono ?_
  rintro e w10 ⟨⟨v10, rfl, hO10⟩, hE10⟩
  have z10 : w9.heap.size ≤ w10.heap.size := hE10.size
  replace hO2 := hO2.ext hE10
  replace hO3 := hO3.ext hE10
  replace hO5 := hO5.ext hE10
  replace hO6 := hO6.ext hE10
  replace hT := Ext.tr hT hE10
  clear hE10
  go_wp2_with fail
  refine (eqInt64S (aDays) _ _ _ _ _ _ _ hO6.sl hO10.sl (by omega)).mono ?_
  rintro e w11 ⟨rfl, hE11⟩
  have z11 : w10.heap.size ≤ w11.heap.size := hE11.size
  replace hO2 := hO2.ext hE11
  replace hO3 := hO3.ext hE11
  replace hO5 := hO5.ext hE11
  replace hO6 := hO6.ext hE11
  replace hO10 := hO10.ext hE11
  replace hT := Ext.tr hT hE11
  clear hE11
  clear hO10
  go_wp2
  go_ret
  exact ⟨rfl, hT⟩
end Go.Proofs.Ytcocdigcmcpefaa
