/- The walk of the law FnExactLeaveTime: it returns true; nothing that was there has turned. -/
import Derived.Test.YtlilmopcikogpaaL17
namespace Go.Proofs.Ytlilmopcikogpaa
set_option linter.unusedVariables false
open Go.RowKit
set_option maxRecDepth 100000 in
set_option maxHeartbeats 1000000 in
theorem lawLeaveTime (w : World) (j_aM : Int) (aM : List Airway) (v_aM : Value) (hv_aM : Sl 0 w.heap.size w 7 v_aM aM.length (flat Airway.enc aM)) (hs_aM : ∀ x ∈ aM, x.id.size ≤ maxLen) (aFlows : List Int) (v_aFlows : Value) (hv_aFlows : Sl 0 w.heap.size w 1 v_aFlows aFlows.length (flat encI aFlows)) (aF : Fire) :
    Calls Try.prog 4 #[.agg #[.int .i64 j_aM, v_aM], v_aFlows, .agg #[.int .i64 aF.airway, .int .i64 aF.atp, .int .i64 aF.start]] w fun e w' => e = .returned (.bool true) ∧ Ext w w' := by
  go_enter Try.func4, Try.ntmps4
  have hT : Ext w w := Below.refl _ _
  have hv0 := hv_aFlows
  obtain ⟨_, _, A_aFlows, c_aFlows, rfl, _, _, _⟩ := hv0
  by_cases hg_aFlows : aFlows.length > 1048576
  · go_wp2
    go_ret
    exact ⟨rfl, by first | exact hT | (go_tidy; go_grown)⟩
  have hn_aFlows : aFlows.length ≤ 1048576 := by omega
  go_wp2_with fail
  generalize hG : ((w.alloc _).alloc _) = wz
  replace hT : Ext w wz := by rw [← hG]; exact Ext.tr (Ext.new _ _) (Ext.new _ _)
  have zz : w.heap.size + 2 ≤ wz.heap.size := by rw [← hG]; simp
  have bz0 : Blk wz (w.heap.size) 24 #[.int .i64 j_aM, v_aM] := by
    rw [← hG]
    have h1 := (Blk.new w 24 #[.int .i64 j_aM, v_aM]).ext (Ext.new _ (.cells #[.int .i64 aF.airway, .int .i64 aF.atp, .int .i64 aF.start] 26))
    simpa using h1
  have bz1 : Blk wz (w.heap.size + 1) 26 #[.int .i64 aF.airway, .int .i64 aF.atp, .int .i64 aF.start] := by
    rw [← hG]
    have h1 := Blk.new (w.alloc (.cells #[.int .i64 j_aM, v_aM] 24)) 26 #[.int .i64 aF.airway, .int .i64 aF.atp, .int .i64 aF.start]
    simpa using h1
  clear hG
  have qbz0_0 : wz.cell? ⟨w.heap.size, 0, none⟩ = some (.int .i64 j_aM) := bz0.cell 0
  have qbz0_1 : wz.cell? ⟨w.heap.size, 1, none⟩ = some (v_aM) := bz0.cell 1
  have qbz1_0 : wz.cell? ⟨w.heap.size + 1, 0, none⟩ = some (.int .i64 aF.airway) := bz1.cell 0
  have qbz1_1 : wz.cell? ⟨w.heap.size + 1, 1, none⟩ = some (.int .i64 aF.atp) := bz1.cell 1
  have qbz1_2 : wz.cell? ⟨w.heap.size + 1, 2, none⟩ = some (.int .i64 aF.start) := bz1.cell 2
  refine (szMine j_aM aM _ _ _ _ _ (hv_aM.ext hT) hs_aM ⟨by omega, by omega⟩).mono ?_
  rintro e w1 ⟨⟨r1, rfl, hr1⟩, hE1⟩
  have z1 : wz.heap.size ≤ w1.heap.size := hE1.size
  replace hT := Ext.tr hT hE1
  clear qbz0_0 qbz0_1
  replace bz0 := bz0.ext hE1
  have qbz0_0 : w1.cell? ⟨w.heap.size, 0, none⟩ = some (.int .i64 j_aM) := bz0.cell 0
  have qbz0_1 : w1.cell? ⟨w.heap.size, 1, none⟩ = some (v_aM) := bz0.cell 1
  clear qbz1_0 qbz1_1 qbz1_2
  replace bz1 := bz1.ext hE1
  have qbz1_0 : w1.cell? ⟨w.heap.size + 1, 0, none⟩ = some (.int .i64 aF.airway) := bz1.cell 0
  have qbz1_1 : w1.cell? ⟨w.heap.size + 1, 1, none⟩ = some (.int .i64 aF.atp) := bz1.cell 1
  have qbz1_2 : w1.cell? ⟨w.heap.size + 1, 2, none⟩ = some (.int .i64 aF.start) := bz1.cell 2
  clear hE1
  by_cases hn1 : r1 < 0
  · go_wp2
    go_ret
    exact ⟨rfl, hT⟩
  obtain ⟨hr1a, hn_aM, hb_aM⟩ := hr1 (by omega)
  have hr1b : 0 ≤ r1 := by omega
  go_wp2_with fail
  clear qbz0_0 qbz0_1
  have qbz0_0 : ∀ W, Ext w1 W → W.cell? ⟨w.heap.size, 0, none⟩ = some (.int .i64 j_aM) := fun W hW => (bz0.ext hW).cell 0
  have qbz0_1 : ∀ W, Ext w1 W → W.cell? ⟨w.heap.size, 1, none⟩ = some (v_aM) := fun W hW => (bz0.ext hW).cell 1
  clear qbz1_0 qbz1_1 qbz1_2
  have qbz1_0 : ∀ W, Ext w1 W → W.cell? ⟨w.heap.size + 1, 0, none⟩ = some (.int .i64 aF.airway) := fun W hW => (bz1.ext hW).cell 0
  have qbz1_1 : ∀ W, Ext w1 W → W.cell? ⟨w.heap.size + 1, 1, none⟩ = some (.int .i64 aF.atp) := fun W hW => (bz1.ext hW).cell 1
  have qbz1_2 : ∀ W, Ext w1 W → W.cell? ⟨w.heap.size + 1, 2, none⟩ = some (.int .i64 aF.start) := fun W hW => (bz1.ext hW).cell 2
  go_region_held3 (fun W => Ext w1 W) (first | assumption | exact Ext.drewN _ 1) (first | (go_at_call 15; have hs5 := hS4; refine (specLeaveTime j_aM aM aFlows aF _ _ _ _ _ _ _ hO2.sl hs_aM hn_aM hO3.sl hn_aFlows).mono ?_; rintro e w5 ⟨rfl, hE5⟩; have hS5 : Ext w1 w5 := Ext.tr hS4 hE5; have z5 : w4.heap.size ≤ w5.heap.size := hE5.size; replace hO2 := hO2.ext hE5; replace hO3 := hO3.ext hE5; replace hT := Ext.tr hT hE5) | (go_at_call 12; have hs4 := hS3; refine (toFire aF _).mono ?_; rintro e w4 ⟨rfl, hE4⟩; have hS4 : Ext w1 w4 := Ext.tr hS3 hE4; have z4 : w3.heap.size ≤ w4.heap.size := hE4.size; replace hO2 := hO2.ext hE4; replace hO3 := hO3.ext hE4; replace hT := Ext.tr hT hE4) | (go_at_call 16; have hs3 := hS2; refine (toInt64S aFlows _ _ _ _ (hv_aFlows.ext hT) hn_aFlows).mono ?_; rintro e w3 ⟨⟨v3, rfl, hO3⟩, hE3⟩; have hS3 : Ext w1 w3 := Ext.tr hS2 hE3; have z3 : w2.heap.size ≤ w3.heap.size := hE3.size; replace hO2 := hO2.ext hE3; replace hT := Ext.tr hT hE3) | (go_at_call 11; have hD2 : Ext w1 w1.drew := Ext.drewN _ 1; replace hT := Ext.tr hT hD2; refine (toMine j_aM aM _ _ _ _ (hv_aM.ext hT) hn_aM).mono ?_; rintro e w2 ⟨⟨v2, rfl, hO2⟩, hE2⟩; have hS2 : Ext w1 w2 := Ext.tr hD2 hE2; have z2 : w1.heap.size ≤ w2.heap.size := hS2.size; replace hO2 : Own w1.heap.size w2.heap.size w2 _ _ _ _ _ := hO2; replace hT := Ext.tr hT hE2))
  clear qbz0_0 qbz0_1
  replace bz0 := bz0.ext hS5
  have qbz0_0 : w5.cell? ⟨w.heap.size, 0, none⟩ = some (.int .i64 j_aM) := bz0.cell 0
  have qbz0_1 : w5.cell? ⟨w.heap.size, 1, none⟩ = some (v_aM) := bz0.cell 1
  clear qbz1_0 qbz1_1 qbz1_2
  replace bz1 := bz1.ext hS5
  have qbz1_0 : w5.cell? ⟨w.heap.size + 1, 0, none⟩ = some (.int .i64 aF.airway) := bz1.cell 0
  have qbz1_1 : w5.cell? ⟨w.heap.size + 1, 1, none⟩ = some (.int .i64 aF.atp) := bz1.cell 1
  have qbz1_2 : w5.cell? ⟨w.heap.size + 1, 2, none⟩ = some (.int .i64 aF.start) := bz1.cell 2
  go_wp2_with fail
  refine (toMine j_aM aM _ _ _ _ (hv_aM.ext hT) hn_aM).mono ?_
  rintro e w6 ⟨⟨v6, rfl, hO6⟩, hE6⟩
  have z6 : w5.heap.size ≤ w6.heap.size := hE6.size
  replace hO2 := hO2.ext hE6
  replace hO3 := hO3.ext hE6
  replace hT := Ext.tr hT hE6
  clear qbz0_0 qbz0_1
  replace bz0 := bz0.ext hE6
  have qbz0_0 : w6.cell? ⟨w.heap.size, 0, none⟩ = some (.int .i64 j_aM) := bz0.cell 0
  have qbz0_1 : w6.cell? ⟨w.heap.size, 1, none⟩ = some (v_aM) := bz0.cell 1
  clear qbz1_0 qbz1_1 qbz1_2
  replace bz1 := bz1.ext hE6
  have qbz1_0 : w6.cell? ⟨w.heap.size + 1, 0, none⟩ = some (.int .i64 aF.airway) := bz1.cell 0
  have qbz1_1 : w6.cell? ⟨w.heap.size + 1, 1, none⟩ = some (.int .i64 aF.atp) := bz1.cell 1
  have qbz1_2 : w6.cell? ⟨w.heap.size + 1, 2, none⟩ = some (.int .i64 aF.start) := bz1.cell 2
  clear hE6
  have hl6 := hO6.sl
  obtain ⟨_, _, A6, c6, rfl, _, _, _⟩ := hl6
  go_wp2_with fail
  generalize hG : World.alloc w6 _ = xw6
  have hX : Ext w6 xw6 := by rw [← hG]; exact Ext.new _ _
  have zxw6 : w6.heap.size < xw6.heap.size := by rw [← hG]; simp
  have bxw6 : Blk xw6 w6.heap.size 31 #[.int .i64 j_aM, .slice A6 aM.length c6] := by rw [← hG]; exact Blk.new _ _ _
  clear hG
  replace bz0 := bz0.ext hX
  clear qbz0_0 qbz0_1
  replace bz1 := bz1.ext hX
  clear qbz1_0 qbz1_1 qbz1_2
  have qbz0_0 : xw6.cell? ⟨w.heap.size, 0, none⟩ = some (.int .i64 j_aM) := bz0.cell 0
  have qbz0_1 : xw6.cell? ⟨w.heap.size, 1, none⟩ = some (v_aM) := bz0.cell 1
  have qbz1_0 : xw6.cell? ⟨w.heap.size + 1, 0, none⟩ = some (.int .i64 aF.airway) := bz1.cell 0
  have qbz1_1 : xw6.cell? ⟨w.heap.size + 1, 1, none⟩ = some (.int .i64 aF.atp) := bz1.cell 1
  have qbz1_2 : xw6.cell? ⟨w.heap.size + 1, 2, none⟩ = some (.int .i64 aF.start) := bz1.cell 2
  have qbxw6_0 : xw6.cell? ⟨w6.heap.size, 0, none⟩ = some (.int .i64 j_aM) := bxw6.cell 0
  have qbxw6_1 : xw6.cell? ⟨w6.heap.size, 1, none⟩ = some (.slice A6 aM.length c6) := bxw6.cell 1
  replace hO2 := hO2.ext hX
  replace hO3 := hO3.ext hX
  replace hO6 := hO6.ext hX
  replace hT := Ext.tr hT hX
  clear hX
  refine (toInt64S aFlows _ _ _ _ (hv_aFlows.ext hT) hn_aFlows).mono ?_
  rintro e w7 ⟨⟨v7, rfl, hO7⟩, hE7⟩
  have z7 : xw6.heap.size ≤ w7.heap.size := hE7.size
  replace hO2 := hO2.ext hE7
  replace hO3 := hO3.ext hE7
  replace hO6 := hO6.ext hE7
  replace hT := Ext.tr hT hE7
  clear qbz0_0 qbz0_1
  replace bz0 := bz0.ext hE7
  have qbz0_0 : w7.cell? ⟨w.heap.size, 0, none⟩ = some (.int .i64 j_aM) := bz0.cell 0
  have qbz0_1 : w7.cell? ⟨w.heap.size, 1, none⟩ = some (v_aM) := bz0.cell 1
  clear qbz1_0 qbz1_1 qbz1_2
  replace bz1 := bz1.ext hE7
  have qbz1_0 : w7.cell? ⟨w.heap.size + 1, 0, none⟩ = some (.int .i64 aF.airway) := bz1.cell 0
  have qbz1_1 : w7.cell? ⟨w.heap.size + 1, 1, none⟩ = some (.int .i64 aF.atp) := bz1.cell 1
  have qbz1_2 : w7.cell? ⟨w.heap.size + 1, 2, none⟩ = some (.int .i64 aF.start) := bz1.cell 2
  clear qbxw6_0 qbxw6_1
  replace bxw6 := bxw6.ext hE7
  have qbxw6_0 : w7.cell? ⟨w6.heap.size, 0, none⟩ = some (.int .i64 j_aM) := bxw6.cell 0
  have qbxw6_1 : w7.cell? ⟨w6.heap.size, 1, none⟩ = some (.slice A6 aM.length c6) := bxw6.cell 1
  clear hE7
  go_wp2_with fail
  clear qbz0_0 qbz0_1
  have qbz0_0 : ∀ W, Ext w7 W → W.cell? ⟨w.heap.size, 0, none⟩ = some (.int .i64 j_aM) := fun W hW => (bz0.ext hW).cell 0
  have qbz0_1 : ∀ W, Ext w7 W → W.cell? ⟨w.heap.size, 1, none⟩ = some (v_aM) := fun W hW => (bz0.ext hW).cell 1
  clear qbz1_0 qbz1_1 qbz1_2
  have qbz1_0 : ∀ W, Ext w7 W → W.cell? ⟨w.heap.size + 1, 0, none⟩ = some (.int .i64 aF.airway) := fun W hW => (bz1.ext hW).cell 0
  have qbz1_1 : ∀ W, Ext w7 W → W.cell? ⟨w.heap.size + 1, 1, none⟩ = some (.int .i64 aF.atp) := fun W hW => (bz1.ext hW).cell 1
  have qbz1_2 : ∀ W, Ext w7 W → W.cell? ⟨w.heap.size + 1, 2, none⟩ = some (.int .i64 aF.start) := fun W hW => (bz1.ext hW).cell 2
  clear qbxw6_0 qbxw6_1
  have qbxw6_0 : ∀ W, Ext w7 W → W.cell? ⟨w6.heap.size, 0, none⟩ = some (.int .i64 j_aM) := fun W hW => (bxw6.ext hW).cell 0
  have qbxw6_1 : ∀ W, Ext w7 W → W.cell? ⟨w6.heap.size, 1, none⟩ = some (.slice A6 aM.length c6) := fun W hW => (bxw6.ext hW).cell 1
  go_region_held3 (fun W => Ext w7 W) (first | assumption | exact Ext.drewN _ 1) (first | (go_at_call 17; have hs9 := hS8; refine (implLeaveTime j_aM aM aFlows aF _ _ _ _ _ _ _ hO6.sl hs_aM hn_aM hO7.sl hn_aFlows).mono ?_; rintro e w9 ⟨rfl, hE9⟩; have hS9 : Ext w7 w9 := Ext.tr hS8 hE9; have z9 : w8.heap.size ≤ w9.heap.size := hE9.size; replace hO2 := hO2.ext hE9; replace hO3 := hO3.ext hE9; replace hO6 := hO6.ext hE9; replace hO7 := hO7.ext hE9; replace hT := Ext.tr hT hE9) | (go_at_call 12; have hD8 : Ext w7 w7.drew := Ext.drewN _ 1; replace hT := Ext.tr hT hD8; replace hO2 := hO2.ext hD8; replace hO3 := hO3.ext hD8; replace hO6 := hO6.ext hD8; replace hO7 := hO7.ext hD8; refine (toFire aF _).mono ?_; rintro e w8 ⟨rfl, hE8⟩; have hS8 : Ext w7 w8 := Ext.tr hD8 hE8; have z8 : w7.heap.size ≤ w8.heap.size := hS8.size; replace hO2 := hO2.ext hE8; replace hO3 := hO3.ext hE8; replace hO6 := hO6.ext hE8; replace hO7 := hO7.ext hE8; replace hT := Ext.tr hT hE8))
  clear qbz0_0 qbz0_1
  replace bz0 := bz0.ext hS9
  have qbz0_0 : w9.cell? ⟨w.heap.size, 0, none⟩ = some (.int .i64 j_aM) := bz0.cell 0
  have qbz0_1 : w9.cell? ⟨w.heap.size, 1, none⟩ = some (v_aM) := bz0.cell 1
  clear qbz1_0 qbz1_1 qbz1_2
  replace bz1 := bz1.ext hS9
  have qbz1_0 : w9.cell? ⟨w.heap.size + 1, 0, none⟩ = some (.int .i64 aF.airway) := bz1.cell 0
  have qbz1_1 : w9.cell? ⟨w.heap.size + 1, 1, none⟩ = some (.int .i64 aF.atp) := bz1.cell 1
  have qbz1_2 : w9.cell? ⟨w.heap.size + 1, 2, none⟩ = some (.int .i64 aF.start) := bz1.cell 2
  clear qbxw6_0 qbxw6_1
  replace bxw6 := bxw6.ext hS9
  have qbxw6_0 : w9.cell? ⟨w6.heap.size, 0, none⟩ = some (.int .i64 j_aM) := bxw6.cell 0
  have qbxw6_1 : w9.cell? ⟨w6.heap.size, 1, none⟩ = some (.slice A6 aM.length c6) := bxw6.cell 1
  go_wp2_with fail
  clear qbz0_0 qbz0_1
  have qbz0_0 : ∀ W, Ext w9 W → W.cell? ⟨w.heap.size, 0, none⟩ = some (.int .i64 j_aM) := fun W hW => (bz0.ext hW).cell 0
  have qbz0_1 : ∀ W, Ext w9 W → W.cell? ⟨w.heap.size, 1, none⟩ = some (v_aM) := fun W hW => (bz0.ext hW).cell 1
  clear qbz1_0 qbz1_1 qbz1_2
  have qbz1_0 : ∀ W, Ext w9 W → W.cell? ⟨w.heap.size + 1, 0, none⟩ = some (.int .i64 aF.airway) := fun W hW => (bz1.ext hW).cell 0
  have qbz1_1 : ∀ W, Ext w9 W → W.cell? ⟨w.heap.size + 1, 1, none⟩ = some (.int .i64 aF.atp) := fun W hW => (bz1.ext hW).cell 1
  have qbz1_2 : ∀ W, Ext w9 W → W.cell? ⟨w.heap.size + 1, 2, none⟩ = some (.int .i64 aF.start) := fun W hW => (bz1.ext hW).cell 2
  clear qbxw6_0 qbxw6_1
  have qbxw6_0 : ∀ W, Ext w9 W → W.cell? ⟨w6.heap.size, 0, none⟩ = some (.int .i64 j_aM) := fun W hW => (bxw6.ext hW).cell 0
  have qbxw6_1 : ∀ W, Ext w9 W → W.cell? ⟨w6.heap.size, 1, none⟩ = some (.slice A6 aM.length c6) := fun W hW => (bxw6.ext hW).cell 1
  go_region_held3 (fun W => Ext w9 W) (first | assumption | exact Ext.drewN _ 1) (first | (go_at_call 14; have hs11 := hS10; refine (eqMine j_aM (aM) _ _ _ _ _ _ _ hO6.sl hO10.sl (by omega)).mono ?_; rintro e w11 ⟨rfl, hE11⟩; have hS11 : Ext w9 w11 := Ext.tr hS10 hE11; have z11 : w10.heap.size ≤ w11.heap.size := hE11.size; replace hO2 := hO2.ext hE11; replace hO3 := hO3.ext hE11; replace hO6 := hO6.ext hE11; replace hO7 := hO7.ext hE11; replace hO10 := hO10.ext hE11; replace hT := Ext.tr hT hE11) | (go_at_call 11; have hD10 : Ext w9 w9.drew := Ext.drewN _ 1; replace hT := Ext.tr hT hD10; replace hO2 := hO2.ext hD10; replace hO3 := hO3.ext hD10; replace hO6 := hO6.ext hD10; replace hO7 := hO7.ext hD10; refine (toMine j_aM aM _ _ _ _ (hv_aM.ext hT) hn_aM).mono ?_; rintro e w10 ⟨⟨v10, rfl, hO10⟩, hE10⟩; have hS10 : Ext w9 w10 := Ext.tr hD10 hE10; have z10 : w9.heap.size ≤ w10.heap.size := hS10.size; replace hO10 : Own w9.heap.size w10.heap.size w10 _ _ _ _ _ := hO10; replace hO2 := hO2.ext hE10; replace hO3 := hO3.ext hE10; replace hO6 := hO6.ext hE10; replace hO7 := hO7.ext hE10; replace hT := Ext.tr hT hE10))
  clear qbz0_0 qbz0_1
  replace bz0 := bz0.ext hS11
  have qbz0_0 : w11.cell? ⟨w.heap.size, 0, none⟩ = some (.int .i64 j_aM) := bz0.cell 0
  have qbz0_1 : w11.cell? ⟨w.heap.size, 1, none⟩ = some (v_aM) := bz0.cell 1
  clear qbz1_0 qbz1_1 qbz1_2
  replace bz1 := bz1.ext hS11
  have qbz1_0 : w11.cell? ⟨w.heap.size + 1, 0, none⟩ = some (.int .i64 aF.airway) := bz1.cell 0
  have qbz1_1 : w11.cell? ⟨w.heap.size + 1, 1, none⟩ = some (.int .i64 aF.atp) := bz1.cell 1
  have qbz1_2 : w11.cell? ⟨w.heap.size + 1, 2, none⟩ = some (.int .i64 aF.start) := bz1.cell 2
  clear qbxw6_0 qbxw6_1
  replace bxw6 := bxw6.ext hS11
  have qbxw6_0 : w11.cell? ⟨w6.heap.size, 0, none⟩ = some (.int .i64 j_aM) := bxw6.cell 0
  have qbxw6_1 : w11.cell? ⟨w6.heap.size, 1, none⟩ = some (.slice A6 aM.length c6) := bxw6.cell 1
  clear hO10
  go_wp2_with fail
  refine (toInt64S aFlows _ _ _ _ (hv_aFlows.ext hT) hn_aFlows).mono ?_
  rintro e w12 ⟨⟨v12, rfl, hO12⟩, hE12⟩
  have z12 : w11.heap.size ≤ w12.heap.size := hE12.size
  replace hO2 := hO2.ext hE12
  replace hO3 := hO3.ext hE12
  replace hO6 := hO6.ext hE12
  replace hO7 := hO7.ext hE12
  replace hT := Ext.tr hT hE12
  clear qbz0_0 qbz0_1
  replace bz0 := bz0.ext hE12
  have qbz0_0 : w12.cell? ⟨w.heap.size, 0, none⟩ = some (.int .i64 j_aM) := bz0.cell 0
  have qbz0_1 : w12.cell? ⟨w.heap.size, 1, none⟩ = some (v_aM) := bz0.cell 1
  clear qbz1_0 qbz1_1 qbz1_2
  replace bz1 := bz1.ext hE12
  have qbz1_0 : w12.cell? ⟨w.heap.size + 1, 0, none⟩ = some (.int .i64 aF.airway) := bz1.cell 0
  have qbz1_1 : w12.cell? ⟨w.heap.size + 1, 1, none⟩ = some (.int .i64 aF.atp) := bz1.cell 1
  have qbz1_2 : w12.cell? ⟨w.heap.size + 1, 2, none⟩ = some (.int .i64 aF.start) := bz1.cell 2
  clear qbxw6_0 qbxw6_1
  replace bxw6 := bxw6.ext hE12
  have qbxw6_0 : w12.cell? ⟨w6.heap.size, 0, none⟩ = some (.int .i64 j_aM) := bxw6.cell 0
  have qbxw6_1 : w12.cell? ⟨w6.heap.size, 1, none⟩ = some (.slice A6 aM.length c6) := bxw6.cell 1
  clear hE12
  go_wp2_with fail
  refine (eqInt64S (aFlows) _ _ _ _ _ _ _ hO7.sl hO12.sl (by omega)).mono ?_
  rintro e w13 ⟨rfl, hE13⟩
  have z13 : w12.heap.size ≤ w13.heap.size := hE13.size
  replace hO2 := hO2.ext hE13
  replace hO3 := hO3.ext hE13
  replace hO6 := hO6.ext hE13
  replace hO7 := hO7.ext hE13
  replace hO12 := hO12.ext hE13
  replace hT := Ext.tr hT hE13
  clear qbz0_0 qbz0_1
  replace bz0 := bz0.ext hE13
  have qbz0_0 : w13.cell? ⟨w.heap.size, 0, none⟩ = some (.int .i64 j_aM) := bz0.cell 0
  have qbz0_1 : w13.cell? ⟨w.heap.size, 1, none⟩ = some (v_aM) := bz0.cell 1
  clear qbz1_0 qbz1_1 qbz1_2
  replace bz1 := bz1.ext hE13
  have qbz1_0 : w13.cell? ⟨w.heap.size + 1, 0, none⟩ = some (.int .i64 aF.airway) := bz1.cell 0
  have qbz1_1 : w13.cell? ⟨w.heap.size + 1, 1, none⟩ = some (.int .i64 aF.atp) := bz1.cell 1
  have qbz1_2 : w13.cell? ⟨w.heap.size + 1, 2, none⟩ = some (.int .i64 aF.start) := bz1.cell 2
  clear qbxw6_0 qbxw6_1
  replace bxw6 := bxw6.ext hE13
  have qbxw6_0 : w13.cell? ⟨w6.heap.size, 0, none⟩ = some (.int .i64 j_aM) := bxw6.cell 0
  have qbxw6_1 : w13.cell? ⟨w6.heap.size, 1, none⟩ = some (.slice A6 aM.length c6) := bxw6.cell 1
  clear hE13
  clear hO12
  go_wp2
  go_ret
  exact ⟨rfl, hT⟩
end Go.Proofs.Ytlilmopcikogpaa
