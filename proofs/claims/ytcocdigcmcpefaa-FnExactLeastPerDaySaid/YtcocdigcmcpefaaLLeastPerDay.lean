/- The walk of the law FnExactLeastPerDay: it returns true; nothing that was there has turned. -/
import Derived.Test.YtcocdigcmcpefaaLpdL
namespace Go.Proofs.Ytcocdigcmcpefaa
set_option linter.unusedVariables false
open Go.RowKit
set_option maxRecDepth 100000 in
set_option maxHeartbeats 1000000 in
theorem lawLeastPerDay (w : World) (aList : List Check) (v_aList : Value) (hv_aList : Sl 0 w.heap.size w 3 v_aList aList.length (flat Check.enc aList)) (hs_aList : ∀ x ∈ aList, x.id.size ≤ maxLen) (aFrom : Int) :
    Calls Try.prog 7 #[v_aList, .int .i64 aFrom] w fun e w' => e = .returned (.bool true) ∧ Ext w w' := by
  go_enter Try.func7, Try.ntmps7
  have hT : Ext w w := Below.refl _ _
  go_wp2_with fail
  refine (szCheckS aList _ _ _ _ _ (hv_aList.ext hT) hs_aList ⟨by omega, by omega⟩).mono ?_
  rintro e w1 ⟨⟨r1, rfl, hr1⟩, hE1⟩
  have z1 : w.heap.size ≤ w1.heap.size := hE1.size
  replace hT := Ext.tr hT hE1
  clear hE1
  by_cases hn1 : r1 < 0
  · go_wp2
    go_ret
    exact ⟨rfl, hT⟩
  obtain ⟨hr1a, hn_aList, hb_aList⟩ := hr1 (by omega)
  have hr1b : 0 ≤ r1 := by omega
  go_wp2_with fail
  refine (toCheckS aList _ _ _ _ (hv_aList.ext hT) hn_aList).mono ?_
  rintro e w2 ⟨⟨v2, rfl, hO2⟩, hE2⟩
  have z2 : w1.heap.size ≤ w2.heap.size := hE2.size
  replace hT := Ext.tr hT hE2
  clear hE2
  go_wp2_with fail
  refine (specLeastPerDay aList aFrom _ _ _ _ hO2.sl hs_aList hn_aList).mono ?_
  rintro e w3 ⟨rfl, hE3⟩
  have z3 : w2.heap.size ≤ w3.heap.size := hE3.size
  replace hO2 := hO2.ext hE3
  replace hT := Ext.tr hT hE3
  clear hE3
  go_wp2_with fail
  refine (toCheckS aList _ _ _ _ (hv_aList.ext hT) hn_aList).mono ?_
  rintro e w4 ⟨⟨v4, rfl, hO4⟩, hE4⟩
  have z4 : w3.heap.size ≤ w4.heap.size := hE4.size
  replace hO2 := hO2.ext hE4
  replace hT := Ext.tr hT hE4
  clear hE4
  go_wp2_with fail
  refine (implLeastPerDay aList aFrom _ _ _ _ hO4.sl hs_aList hn_aList).mono ?_
  rintro e w5 ⟨rfl, hE5⟩
  have z5 : w4.heap.size ≤ w5.heap.size := hE5.size
  replace hO2 := hO2.ext hE5
  replace hO4 := hO4.ext hE5
  replace hT := Ext.tr hT hE5
  clear hE5
  go_wp2_with fail
  refine (toCheckS aList _ _ _ _ (hv_aList.ext hT) hn_aList).mono ?_
  rintro e w6 ⟨⟨v6, rfl, hO6⟩, hE6⟩
  have z6 : w5.heap.size ≤ w6.heap.size := hE6.size
  replace hO2 := hO2.ext hE6
  replace hO4 := hO4.ext hE6
  replace hT := Ext.tr hT hE6
  clear hE6
  go_wp2_with fail
  refine (eqCheckS (aList) _ _ _ _ _ _ _ hO4.sl hO6.sl (by omega)).mono ?_
  rintro e w7 ⟨rfl, hE7⟩
  have z7 : w6.heap.size ≤ w7.heap.size := hE7.size
  replace hO2 := hO2.ext hE7
  replace hO4 := hO4.ext hE7
  replace hO6 := hO6.ext hE7
  replace hT := Ext.tr hT hE7
  clear hE7
  clear hO6
  go_wp2
  go_ret
  exact ⟨rfl, hT⟩
end Go.Proofs.Ytcocdigcmcpefaa
