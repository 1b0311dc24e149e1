/- The walk of the law FnExactValidFire: it returns true; nothing that was there has turned. -/
import Derived.Test.YtlilmopcikogpaaMFire
namespace Go.Proofs.Ytlilmopcikogpaa
set_option linter.unusedVariables false
open Go.RowKit
set_option maxRecDepth 100000 in
set_option maxHeartbeats 1000000 in
theorem lawValidFire (w : World) (j_aM : Int) (aM : List Airway) (v_aM : Value) (hv_aM : Sl 0 w.heap.size w 7 v_aM aM.length (flat Airway.enc aM)) (hs_aM : ∀ x ∈ aM, x.id.size ≤ maxLen) (aF : Fire) :
    Calls Try.prog 3 #[.agg #[.int .i64 j_aM, v_aM], .agg #[.int .i64 aF.airway, .int .i64 aF.atp, .int .i64 aF.start]] w fun e w' => e = .returned (.bool true) ∧ Ext w w' := by
  go_enter Try.func3, Try.ntmps3
  have hT : Ext w w := Below.refl _ _
  go_wp2_with fail
  generalize hG : ((w.alloc _).alloc _) = wz
  replace hT : Ext w wz := by rw [← hG]; exact Ext.tr (Ext.new _ _) (Ext.new _ _)
  have zz : w.heap.size + 2 ≤ wz.heap.size := by rw [← hG]; simp
  have bz0 : Blk wz (w.heap.size) 24 #[.int .i64 j_aM, v_aM] := by
    rw [← hG]
    have h1 := (Blk.new w 24 #[.int .i64 j_aM, v_aM]).ext (Ext.new _ (.cells #[.int .i64 aF.airway, .int .i64 aF.atp, .int .i64 aF.start] 26))
    simpa using h1
  have bz1 : Blk wz (w.heap.size + 1) 26 #[.int .i64 aF.airway, .int .i64 aF.atp, .int .i64 aF.start] := by
    rw [← hG]
    have h1 := Blk.new (w.alloc (.cells #[.int .i64 j_aM, v_aM] 24)) 26 #[.int .i64 aF.airway, .int .i64 aF.atp, .int .i64 aF.start]
    simpa using h1
  clear hG
  have qbz0_0 : wz.cell? ⟨w.heap.size, 0, none⟩ = some (.int .i64 j_aM) := bz0.cell 0
  have qbz0_1 : wz.cell? ⟨w.heap.size, 1, none⟩ = some (v_aM) := bz0.cell 1
  have qbz1_0 : wz.cell? ⟨w.heap.size + 1, 0, none⟩ = some (.int .i64 aF.airway) := bz1.cell 0
  have qbz1_1 : wz.cell? ⟨w.heap.size + 1, 1, none⟩ = some (.int .i64 aF.atp) := bz1.cell 1
  have qbz1_2 : wz.cell? ⟨w.heap.size + 1, 2, none⟩ = some (.int .i64 aF.start) := bz1.cell 2
  refine (szMine j_aM aM _ _ _ _ _ (hv_aM.ext hT) hs_aM ⟨by omega, by omega⟩).mono ?_
  rintro e w1 ⟨⟨r1, rfl, hr1⟩, hE1⟩
  have z1 : wz.heap.size ≤ w1.heap.size := hE1.size
  replace hT := Ext.tr hT hE1
  clear qbz0_0 qbz0_1
  replace bz0 := bz0.ext hE1
  have qbz0_0 : w1.cell? ⟨w.heap.size, 0, none⟩ = some (.int .i64 j_aM) := bz0.cell 0
  have qbz0_1 : w1.cell? ⟨w.heap.size, 1, none⟩ = some (v_aM) := bz0.cell 1
  clear qbz1_0 qbz1_1 qbz1_2
  replace bz1 := bz1.ext hE1
  have qbz1_0 : w1.cell? ⟨w.heap.size + 1, 0, none⟩ = some (.int .i64 aF.airway) := bz1.cell 0
  have qbz1_1 : w1.cell? ⟨w.heap.size + 1, 1, none⟩ = some (.int .i64 aF.atp) := bz1.cell 1
  have qbz1_2 : w1.cell? ⟨w.heap.size + 1, 2, none⟩ = some (.int .i64 aF.start) := bz1.cell 2
  clear hE1
  by_cases hn1 : r1 < 0
  · go_wp2
    go_ret
    exact ⟨rfl, hT⟩
  obtain ⟨hr1a, hn_aM, hb_aM⟩ := hr1 (by omega)
  have hr1b : 0 ≤ r1 := by omega
  go_wp2_with fail
  clear qbz0_0 qbz0_1
  have qbz0_0 : ∀ W, Ext w1 W → W.cell? ⟨w.heap.size, 0, none⟩ = some (.int .i64 j_aM) := fun W hW => (bz0.ext hW).cell 0
  have qbz0_1 : ∀ W, Ext w1 W → W.cell? ⟨w.heap.size, 1, none⟩ = some (v_aM) := fun W hW => (bz0.ext hW).cell 1
  clear qbz1_0 qbz1_1 qbz1_2
  have qbz1_0 : ∀ W, Ext w1 W → W.cell? ⟨w.heap.size + 1, 0, none⟩ = some (.int .i64 aF.airway) := fun W hW => (bz1.ext hW).cell 0
  have qbz1_1 : ∀ W, Ext w1 W → W.cell? ⟨w.heap.size + 1, 1, none⟩ = some (.int .i64 aF.atp) := fun W hW => (bz1.ext hW).cell 1
  have qbz1_2 : ∀ W, Ext w1 W → W.cell? ⟨w.heap.size + 1, 2, none⟩ = some (.int .i64 aF.start) := fun W hW => (bz1.ext hW).cell 2
  go_region_held3 (fun W => Ext w1 W) (first | assumption | exact Ext.drewN _ 1) (first | (go_at_call 10; have hs4 := hS3; refine (specValidFire j_aM aM aF _ _ _ _ hO2.sl hs_aM hn_aM).mono ?_; rintro e w4 ⟨rfl, hE4⟩; have hS4 : Ext w1 w4 := Ext.tr hS3 hE4; have z4 : w3.heap.size ≤ w4.heap.size := hE4.size; replace hO2 := hO2.ext hE4; replace hT := Ext.tr hT hE4) | (go_at_call 12; have hs3 := hS2; refine (toFire aF _).mono ?_; rintro e w3 ⟨rfl, hE3⟩; have hS3 : Ext w1 w3 := Ext.tr hS2 hE3; have z3 : w2.heap.size ≤ w3.heap.size := hE3.size; replace hO2 := hO2.ext hE3; replace hT := Ext.tr hT hE3) | (go_at_call 11; have hD2 : Ext w1 w1.drew := Ext.drewN _ 1; replace hT := Ext.tr hT hD2; refine (toMine j_aM aM _ _ _ _ (hv_aM.ext hT) hn_aM).mono ?_; rintro e w2 ⟨⟨v2, rfl, hO2⟩, hE2⟩; have hS2 : Ext w1 w2 := Ext.tr hD2 hE2; have z2 : w1.heap.size ≤ w2.heap.size := hS2.size; replace hO2 : Own w1.heap.size w2.heap.size w2 _ _ _ _ _ := hO2; replace hT := Ext.tr hT hE2))
  clear qbz0_0 qbz0_1
  replace bz0 := bz0.ext hS4
  have qbz0_0 : w4.cell? ⟨w.heap.size, 0, none⟩ = some (.int .i64 j_aM) := bz0.cell 0
  have qbz0_1 : w4.cell? ⟨w.heap.size, 1, none⟩ = some (v_aM) := bz0.cell 1
  clear qbz1_0 qbz1_1 qbz1_2
  replace bz1 := bz1.ext hS4
  have qbz1_0 : w4.cell? ⟨w.heap.size + 1, 0, none⟩ = some (.int .i64 aF.airway) := bz1.cell 0
  have qbz1_1 : w4.cell? ⟨w.heap.size + 1, 1, none⟩ = some (.int .i64 aF.atp) := bz1.cell 1
  have qbz1_2 : w4.cell? ⟨w.heap.size + 1, 2, none⟩ = some (.int .i64 aF.start) := bz1.cell 2
  go_wp2_with fail
  refine (toMine j_aM aM _ _ _ _ (hv_aM.ext hT) hn_aM).mono ?_
  rintro e w5 ⟨⟨v5, rfl, hO5⟩, hE5⟩
  have z5 : w4.heap.size ≤ w5.heap.size := hE5.size
  replace hO2 := hO2.ext hE5
  replace hT := Ext.tr hT hE5
  clear qbz0_0 qbz0_1
  replace bz0 := bz0.ext hE5
  have qbz0_0 : w5.cell? ⟨w.heap.size, 0, none⟩ = some (.int .i64 j_aM) := bz0.cell 0
  have qbz0_1 : w5.cell? ⟨w.heap.size, 1, none⟩ = some (v_aM) := bz0.cell 1
  clear qbz1_0 qbz1_1 qbz1_2
  replace bz1 := bz1.ext hE5
  have qbz1_0 : w5.cell? ⟨w.heap.size + 1, 0, none⟩ = some (.int .i64 aF.airway) := bz1.cell 0
  have qbz1_1 : w5.cell? ⟨w.heap.size + 1, 1, none⟩ = some (.int .i64 aF.atp) := bz1.cell 1
  have qbz1_2 : w5.cell? ⟨w.heap.size + 1, 2, none⟩ = some (.int .i64 aF.start) := bz1.cell 2
  clear hE5
  have hl5 := hO5.sl
  obtain ⟨_, _, A5, c5, rfl, _, _, _⟩ := hl5
  go_wp2_with fail
  generalize hG : World.alloc w5 _ = xw5
  have hX : Ext w5 xw5 := by rw [← hG]; exact Ext.new _ _
  have zxw5 : w5.heap.size < xw5.heap.size := by rw [← hG]; simp
  have bxw5 : Blk xw5 w5.heap.size 31 #[.int .i64 j_aM, .slice A5 aM.length c5] := by rw [← hG]; exact Blk.new _ _ _
  clear hG
  replace bz0 := bz0.ext hX
  clear qbz0_0 qbz0_1
  replace bz1 := bz1.ext hX
  clear qbz1_0 qbz1_1 qbz1_2
  have qbz0_0 : xw5.cell? ⟨w.heap.size, 0, none⟩ = some (.int .i64 j_aM) := bz0.cell 0
  have qbz0_1 : xw5.cell? ⟨w.heap.size, 1, none⟩ = some (v_aM) := bz0.cell 1
  have qbz1_0 : xw5.cell? ⟨w.heap.size + 1, 0, none⟩ = some (.int .i64 aF.airway) := bz1.cell 0
  have qbz1_1 : xw5.cell? ⟨w.heap.size + 1, 1, none⟩ = some (.int .i64 aF.atp) := bz1.cell 1
  have qbz1_2 : xw5.cell? ⟨w.heap.size + 1, 2, none⟩ = some (.int .i64 aF.start) := bz1.cell 2
  have qbxw5_0 : xw5.cell? ⟨w5.heap.size, 0, none⟩ = some (.int .i64 j_aM) := bxw5.cell 0
  have qbxw5_1 : xw5.cell? ⟨w5.heap.size, 1, none⟩ = some (.slice A5 aM.length c5) := bxw5.cell 1
  replace hO2 := hO2.ext hX
  replace hO5 := hO5.ext hX
  replace hT := Ext.tr hT hX
  clear hX
  clear qbz0_0 qbz0_1
  have qbz0_0 : ∀ W, Ext xw5 W → W.cell? ⟨w.heap.size, 0, none⟩ = some (.int .i64 j_aM) := fun W hW => (bz0.ext hW).cell 0
  have qbz0_1 : ∀ W, Ext xw5 W → W.cell? ⟨w.heap.size, 1, none⟩ = some (v_aM) := fun W hW => (bz0.ext hW).cell 1
  clear qbz1_0 qbz1_1 qbz1_2
  have qbz1_0 : ∀ W, Ext xw5 W → W.cell? ⟨w.heap.size + 1, 0, none⟩ = some (.int .i64 aF.airway) := fun W hW => (bz1.ext hW).cell 0
  have qbz1_1 : ∀ W, Ext xw5 W → W.cell? ⟨w.heap.size + 1, 1, none⟩ = some (.int .i64 aF.atp) := fun W hW => (bz1.ext hW).cell 1
  have qbz1_2 : ∀ W, Ext xw5 W → W.cell? ⟨w.heap.size + 1, 2, none⟩ = some (.int .i64 aF.start) := fun W hW => (bz1.ext hW).cell 2
  clear qbxw5_0 qbxw5_1
  have qbxw5_0 : ∀ W, Ext xw5 W → W.cell? ⟨w5.heap.size, 0, none⟩ = some (.int .i64 j_aM) := fun W hW => (bxw5.ext hW).cell 0
  have qbxw5_1 : ∀ W, Ext xw5 W → W.cell? ⟨w5.heap.size, 1, none⟩ = some (.slice A5 aM.length c5) := fun W hW => (bxw5.ext hW).cell 1
  go_region_held3 (fun W => Ext xw5 W) (first | assumption | exact Ext.drewN _ 1) (first | (go_at_call 13; have hs7 := hS6; refine (implValidFire j_aM aM aF _ _ _ _ hO5.sl hs_aM hn_aM).mono ?_; rintro e w7 ⟨rfl, hE7⟩; have hS7 : Ext xw5 w7 := Ext.tr hS6 hE7; have z7 : w6.heap.size ≤ w7.heap.size := hE7.size; replace hO2 := hO2.ext hE7; replace hO5 := hO5.ext hE7; replace hT := Ext.tr hT hE7) | (go_at_call 12; have hD6 : Ext xw5 xw5.drew := Ext.drewN _ 1; replace hT := Ext.tr hT hD6; replace hO2 := hO2.ext hD6; replace hO5 := hO5.ext hD6; refine (toFire aF _).mono ?_; rintro e w6 ⟨rfl, hE6⟩; have hS6 : Ext xw5 w6 := Ext.tr hD6 hE6; have z6 : xw5.heap.size ≤ w6.heap.size := hS6.size; replace hO2 := hO2.ext hE6; replace hO5 := hO5.ext hE6; replace hT := Ext.tr hT hE6))
  clear qbz0_0 qbz0_1
  replace bz0 := bz0.ext hS7
  have qbz0_0 : w7.cell? ⟨w.heap.size, 0, none⟩ = some (.int .i64 j_aM) := bz0.cell 0
  have qbz0_1 : w7.cell? ⟨w.heap.size, 1, none⟩ = some (v_aM) := bz0.cell 1
  clear qbz1_0 qbz1_1 qbz1_2
  replace bz1 := bz1.ext hS7
  have qbz1_0 : w7.cell? ⟨w.heap.size + 1, 0, none⟩ = some (.int .i64 aF.airway) := bz1.cell 0
  have qbz1_1 : w7.cell? ⟨w.heap.size + 1, 1, none⟩ = some (.int .i64 aF.atp) := bz1.cell 1
  have qbz1_2 : w7.cell? ⟨w.heap.size + 1, 2, none⟩ = some (.int .i64 aF.start) := bz1.cell 2
  clear qbxw5_0 qbxw5_1
  replace bxw5 := bxw5.ext hS7
  have qbxw5_0 : w7.cell? ⟨w5.heap.size, 0, none⟩ = some (.int .i64 j_aM) := bxw5.cell 0
  have qbxw5_1 : w7.cell? ⟨w5.heap.size, 1, none⟩ = some (.slice A5 aM.length c5) := bxw5.cell 1
  go_wp2_with fail
  clear qbz0_0 qbz0_1
  have qbz0_0 : ∀ W, Ext w7 W → W.cell? ⟨w.heap.size, 0, none⟩ = some (.int .i64 j_aM) := fun W hW => (bz0.ext hW).cell 0
  have qbz0_1 : ∀ W, Ext w7 W → W.cell? ⟨w.heap.size, 1, none⟩ = some (v_aM) := fun W hW => (bz0.ext hW).cell 1
  clear qbz1_0 qbz1_1 qbz1_2
  have qbz1_0 : ∀ W, Ext w7 W → W.cell? ⟨w.heap.size + 1, 0, none⟩ = some (.int .i64 aF.airway) := fun W hW => (bz1.ext hW).cell 0
  have qbz1_1 : ∀ W, Ext w7 W → W.cell? ⟨w.heap.size + 1, 1, none⟩ = some (.int .i64 aF.atp) := fun W hW => (bz1.ext hW).cell 1
  have qbz1_2 : ∀ W, Ext w7 W → W.cell? ⟨w.heap.size + 1, 2, none⟩ = some (.int .i64 aF.start) := fun W hW => (bz1.ext hW).cell 2
  clear qbxw5_0 qbxw5_1
  have qbxw5_0 : ∀ W, Ext w7 W → W.cell? ⟨w5.heap.size, 0, none⟩ = some (.int .i64 j_aM) := fun W hW => (bxw5.ext hW).cell 0
  have qbxw5_1 : ∀ W, Ext w7 W → W.cell? ⟨w5.heap.size, 1, none⟩ = some (.slice A5 aM.length c5) := fun W hW => (bxw5.ext hW).cell 1
  go_region_held3 (fun W => Ext w7 W) (first | assumption | exact Ext.drewN _ 1) (first | (go_at_call 14; have hs9 := hS8; refine (eqMine j_aM (aM) _ _ _ _ _ _ _ hO5.sl hO8.sl (by omega)).mono ?_; rintro e w9 ⟨rfl, hE9⟩; have hS9 : Ext w7 w9 := Ext.tr hS8 hE9; have z9 : w8.heap.size ≤ w9.heap.size := hE9.size; replace hO2 := hO2.ext hE9; replace hO5 := hO5.ext hE9; replace hO8 := hO8.ext hE9; replace hT := Ext.tr hT hE9) | (go_at_call 11; have hD8 : Ext w7 w7.drew := Ext.drewN _ 1; replace hT := Ext.tr hT hD8; replace hO2 := hO2.ext hD8; replace hO5 := hO5.ext hD8; refine (toMine j_aM aM _ _ _ _ (hv_aM.ext hT) hn_aM).mono ?_; rintro e w8 ⟨⟨v8, rfl, hO8⟩, hE8⟩; have hS8 : Ext w7 w8 := Ext.tr hD8 hE8; have z8 : w7.heap.size ≤ w8.heap.size := hS8.size; replace hO8 : Own w7.heap.size w8.heap.size w8 _ _ _ _ _ := hO8; replace hO2 := hO2.ext hE8; replace hO5 := hO5.ext hE8; replace hT := Ext.tr hT hE8))
  clear qbz0_0 qbz0_1
  replace bz0 := bz0.ext hS9
  have qbz0_0 : w9.cell? ⟨w.heap.size, 0, none⟩ = some (.int .i64 j_aM) := bz0.cell 0
  have qbz0_1 : w9.cell? ⟨w.heap.size, 1, none⟩ = some (v_aM) := bz0.cell 1
  clear qbz1_0 qbz1_1 qbz1_2
  replace bz1 := bz1.ext hS9
  have qbz1_0 : w9.cell? ⟨w.heap.size + 1, 0, none⟩ = some (.int .i64 aF.airway) := bz1.cell 0
  have qbz1_1 : w9.cell? ⟨w.heap.size + 1, 1, none⟩ = some (.int .i64 aF.atp) := bz1.cell 1
  have qbz1_2 : w9.cell? ⟨w.heap.size + 1, 2, none⟩ = some (.int .i64 aF.start) := bz1.cell 2
  clear qbxw5_0 qbxw5_1
  replace bxw5 := bxw5.ext hS9
  have qbxw5_0 : w9.cell? ⟨w5.heap.size, 0, none⟩ = some (.int .i64 j_aM) := bxw5.cell 0
  have qbxw5_1 : w9.cell? ⟨w5.heap.size, 1, none⟩ = some (.slice A5 aM.length c5) := bxw5.cell 1
  clear hO8
  go_wp2
  go_ret
  exact ⟨rfl, hT⟩
end Go.Proofs.Ytlilmopcikogpaa
