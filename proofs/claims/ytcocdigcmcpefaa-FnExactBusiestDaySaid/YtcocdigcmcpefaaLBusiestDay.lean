/- The walk of the law FnExactBusiestDay: it returns true; nothing that was there has turned. -/
import Derived.Test.YtcocdigcmcpefaaBusyS
import Derived.Test.YtcocdigcmcpefaaBusyI
namespace Go.Proofs.Ytcocdigcmcpefaa
set_option linter.unusedVariables false
open Go.RowKit
set_option maxRecDepth 100000 in
set_option maxHeartbeats 1000000 in
theorem lawBusiestDay (w : World) (aDays : List Int) (v_aDays : Value) (hv_aDays : Sl 0 w.heap.size w 1 v_aDays aDays.length (flat encI aDays)) :
    Calls Try.prog 8 #[v_aDays] w fun e w' => e = .returned (.bool true) ∧ Ext w w' := by
  go_enter Try.func8, Try.ntmps8
  have hT : Ext w w := Below.refl _ _
  have hv0 := hv_aDays
  obtain ⟨_, _, A_aDays, c_aDays, rfl, _, _, _⟩ := hv0
  by_cases hg_aDays : aDays.length > 1048576
  · go_wp2
    go_ret
    exact ⟨rfl, by first | exact hT | (go_tidy; go_grown)⟩
  have hn_aDays : aDays.length ≤ 1048576 := by omega
  go_wp2_with fail
  refine (toInt64S aDays _ _ _ _ (hv_aDays.ext hT) hn_aDays).mono ?_
  rintro e w1 ⟨⟨v1, rfl, hO1⟩, hE1⟩
  have z1 : w.heap.size ≤ w1.heap.size := hE1.size
  replace hT := Ext.tr hT hE1
  clear hE1
  go_wp2_with fail
  refine (specBusiestDay aDays _ _ _ _ hO1.sl hn_aDays).mono ?_
  rintro e w2 ⟨rfl, hE2⟩
  have z2 : w1.heap.size ≤ w2.heap.size := hE2.size
  replace hO1 := hO1.ext hE2
  replace hT := Ext.tr hT hE2
  clear hE2
  go_wp2_with fail
  refine (toInt64S aDays _ _ _ _ (hv_aDays.ext hT) hn_aDays).mono ?_
  rintro e w3 ⟨⟨v3, rfl, hO3⟩, hE3⟩
  have z3 : w2.heap.size ≤ w3.heap.size := hE3.size
  replace hO1 := hO1.ext hE3
  replace hT := Ext.tr hT hE3
  clear hE3
  go_wp2_with fail
  refine (implBusiestDay aDays _ _ _ _ hO3.sl hn_aDays).mono ?_
  rintro e w4 ⟨rfl, hE4⟩
  have z4 : w3.heap.size ≤ w4.heap.size := hE4.size
  replace hO1 := hO1.ext hE4
  replace hO3 := hO3.ext hE4
  replace hT := Ext.tr hT hE4
  clear hE4
  go_wp2_with fail
  refine (toInt64S aDays _ _ _ _ (hv_aDays.ext hT) hn_aDays).mono ?_
  rintro e w5 ⟨⟨v5, rfl, hO5⟩, hE5⟩
  have z5 : w4.heap.size ≤ w5.heap.size := hE5.size
  replace hO1 := hO1.ext hE5
  replace hO3 := hO3.ext hE5
  replace hT := Ext.tr hT hE5
  clear hE5
  go_wp2_with fail
  refine (eqInt64S (aDays) _ _ _ _ _ _ _ hO3.sl hO5.sl (by omega)).mono ?_
  rintro e w6 ⟨rfl, hE6⟩
  have z6 : w5.heap.size ≤ w6.heap.size := hE6.size
  replace hO1 := hO1.ext hE6
  replace hO3 := hO3.ext hE6
  replace hO5 := hO5.ext hE6
  replace hT := Ext.tr hT hE6
  clear hE6
  clear hO5
  go_wp2
  go_ret
  exact ⟨rfl, hT⟩
end Go.Proofs.Ytcocdigcmcpefaa
