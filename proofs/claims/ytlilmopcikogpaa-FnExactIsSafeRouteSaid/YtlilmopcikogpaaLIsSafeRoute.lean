/- The walk of the law FnExactIsSafeRoute: it returns true; nothing that was there has turned. -/
import Derived.Test.YtlilmopcikogpaaEsc8
namespace Go.Proofs.Ytlilmopcikogpaa
set_option linter.unusedVariables false
open Go.RowKit
set_option maxRecDepth 100000 in
set_option maxHeartbeats 1000000 in
theorem lawIsSafeRoute (w : World) (j_aM : Int) (aM : List Airway) (v_aM : Value) (hv_aM : Sl 0 w.heap.size w 7 v_aM aM.length (flat Airway.enc aM)) (hs_aM : ∀ x ∈ aM, x.id.size ≤ maxLen) (aArrivals : List Int) (v_aArrivals : Value) (hv_aArrivals : Sl 0 w.heap.size w 1 v_aArrivals aArrivals.length (flat encI aArrivals)) (aBlocked : Int) (aC : Crew) (hs_aC : aC.id.size ≤ maxLen) (aStart : Int) (aRoute : List Int) (v_aRoute : Value) (hv_aRoute : Sl 0 w.heap.size w 1 v_aRoute aRoute.length (flat encI aRoute)) :
    Calls Try.prog 6 #[.agg #[.int .i64 j_aM, v_aM], v_aArrivals, .int .i64 aBlocked, .agg #[.string aC.id, .int .i64 aC.junction, .int .i64 aC.speed], .int .i64 aStart, v_aRoute] w fun e w' => e = .returned (.bool true) ∧ Ext w w' := by
  go_enter Try.func6, Try.ntmps6
  have hT : Ext w w := Below.refl _ _
  have hv0 := hv_aArrivals
  obtain ⟨_, _, A_aArrivals, c_aArrivals, rfl, _, _, _⟩ := hv0
  by_cases hg_aArrivals : aArrivals.length > 1048576
  · go_wp2
    go_ret
    exact ⟨rfl, by first | exact hT | (go_tidy; go_grown)⟩
  have hn_aArrivals : aArrivals.length ≤ 1048576 := by omega
  have hv0 := hv_aRoute
  obtain ⟨_, _, A_aRoute, c_aRoute, rfl, _, _, _⟩ := hv0
  by_cases hg_aRoute : aRoute.length > 1048576
  · go_wp2
    go_ret
    exact ⟨rfl, by first | exact hT | (go_tidy; go_grown)⟩
  have hn_aRoute : aRoute.length ≤ 1048576 := by omega
  go_wp2_with fail
  generalize hG : ((w.alloc _).alloc _) = wz
  replace hT : Ext w wz := by rw [← hG]; exact Ext.tr (Ext.new _ _) (Ext.new _ _)
  have zz : w.heap.size + 2 ≤ wz.heap.size := by rw [← hG]; simp
  have bz0 : Blk wz (w.heap.size) 24 #[.int .i64 j_aM, v_aM] := by
    rw [← hG]
    have h1 := (Blk.new w 24 #[.int .i64 j_aM, v_aM]).ext (Ext.new _ (.cells #[.string aC.id, .int .i64 aC.junction, .int .i64 aC.speed] 51))
    simpa using h1
  have bz1 : Blk wz (w.heap.size + 1) 51 #[.string aC.id, .int .i64 aC.junction, .int .i64 aC.speed] := by
    rw [← hG]
    have h1 := Blk.new (w.alloc (.cells #[.int .i64 j_aM, v_aM] 24)) 51 #[.string aC.id, .int .i64 aC.junction, .int .i64 aC.speed]
    simpa using h1
  clear hG
  have qbz0_0 : wz.cell? ⟨w.heap.size, 0, none⟩ = some (.int .i64 j_aM) := bz0.cell 0
  have qbz0_1 : wz.cell? ⟨w.heap.size, 1, none⟩ = some (v_aM) := bz0.cell 1
  have qbz1_0 : wz.cell? ⟨w.heap.size + 1, 0, none⟩ = some (.string aC.id) := bz1.cell 0
  have qbz1_1 : wz.cell? ⟨w.heap.size + 1, 1, none⟩ = some (.int .i64 aC.junction) := bz1.cell 1
  have qbz1_2 : wz.cell? ⟨w.heap.size + 1, 2, none⟩ = some (.int .i64 aC.speed) := bz1.cell 2
  refine (szMine j_aM aM _ _ _ _ _ (hv_aM.ext hT) hs_aM ⟨by omega, by omega⟩).mono ?_
  rintro e w1 ⟨⟨r1, rfl, hr1⟩, hE1⟩
  have z1 : wz.heap.size ≤ w1.heap.size := hE1.size
  replace hT := Ext.tr hT hE1
  clear qbz0_0 qbz0_1
  replace bz0 := bz0.ext hE1
  have qbz0_0 : w1.cell? ⟨w.heap.size, 0, none⟩ = some (.int .i64 j_aM) := bz0.cell 0
  have qbz0_1 : w1.cell? ⟨w.heap.size, 1, none⟩ = some (v_aM) := bz0.cell 1
  clear qbz1_0 qbz1_1 qbz1_2
  replace bz1 := bz1.ext hE1
  have qbz1_0 : w1.cell? ⟨w.heap.size + 1, 0, none⟩ = some (.string aC.id) := bz1.cell 0
  have qbz1_1 : w1.cell? ⟨w.heap.size + 1, 1, none⟩ = some (.int .i64 aC.junction) := bz1.cell 1
  have qbz1_2 : w1.cell? ⟨w.heap.size + 1, 2, none⟩ = some (.int .i64 aC.speed) := bz1.cell 2
  clear hE1
  by_cases hn1 : r1 < 0
  · go_wp2
    go_ret
    exact ⟨rfl, hT⟩
  obtain ⟨hr1a, hn_aM, hb_aM⟩ := hr1 (by omega)
  have hr1b : 0 ≤ r1 := by omega
  go_wp2_with fail
  refine (szCrew aC r1 _ hs_aC ⟨by omega, by omega⟩).mono ?_
  rintro e w2 ⟨rfl, hE2⟩
  have z2 : w1.heap.size ≤ w2.heap.size := hE2.size
  replace hT := Ext.tr hT hE2
  clear qbz0_0 qbz0_1
  replace bz0 := bz0.ext hE2
  have qbz0_0 : w2.cell? ⟨w.heap.size, 0, none⟩ = some (.int .i64 j_aM) := bz0.cell 0
  have qbz0_1 : w2.cell? ⟨w.heap.size, 1, none⟩ = some (v_aM) := bz0.cell 1
  clear qbz1_0 qbz1_1 qbz1_2
  replace bz1 := bz1.ext hE2
  have qbz1_0 : w2.cell? ⟨w.heap.size + 1, 0, none⟩ = some (.string aC.id) := bz1.cell 0
  have qbz1_1 : w2.cell? ⟨w.heap.size + 1, 1, none⟩ = some (.int .i64 aC.junction) := bz1.cell 1
  have qbz1_2 : w2.cell? ⟨w.heap.size + 1, 2, none⟩ = some (.int .i64 aC.speed) := bz1.cell 2
  clear hE2
  by_cases hn2 : szF (r1) aC.id.size < 0
  · go_wp2
    go_ret
    exact ⟨rfl, hT⟩
  have hr2 := szF_bd _ _ hn2
  obtain ⟨hr2e, hr2b⟩ := hr2
  rw [hr2e]
  clear hr2e hn2
  go_wp2_with fail
  clear qbz0_0 qbz0_1
  have qbz0_0 : ∀ W, Ext w2 W → W.cell? ⟨w.heap.size, 0, none⟩ = some (.int .i64 j_aM) := fun W hW => (bz0.ext hW).cell 0
  have qbz0_1 : ∀ W, Ext w2 W → W.cell? ⟨w.heap.size, 1, none⟩ = some (v_aM) := fun W hW => (bz0.ext hW).cell 1
  clear qbz1_0 qbz1_1 qbz1_2
  have qbz1_0 : ∀ W, Ext w2 W → W.cell? ⟨w.heap.size + 1, 0, none⟩ = some (.string aC.id) := fun W hW => (bz1.ext hW).cell 0
  have qbz1_1 : ∀ W, Ext w2 W → W.cell? ⟨w.heap.size + 1, 1, none⟩ = some (.int .i64 aC.junction) := fun W hW => (bz1.ext hW).cell 1
  have qbz1_2 : ∀ W, Ext w2 W → W.cell? ⟨w.heap.size + 1, 2, none⟩ = some (.int .i64 aC.speed) := fun W hW => (bz1.ext hW).cell 2
  go_region_held3 (fun W => Ext w2 W) (first | assumption | exact Ext.drewN _ 1) (first | (go_at_call 25; have hs7 := hS6; refine (specIsSafeRoute j_aM aM aArrivals aBlocked aC aStart aRoute _ _ _ _ _ _ _ _ _ _ hO3.sl hs_aM hn_aM hO4.sl hn_aArrivals hs_aC hO6.sl hn_aRoute).mono ?_; rintro e w7 ⟨rfl, hE7⟩; have hS7 : Ext w2 w7 := Ext.tr hS6 hE7; have z7 : w6.heap.size ≤ w7.heap.size := hE7.size; replace hO3 := hO3.ext hE7; replace hO4 := hO4.ext hE7; replace hO6 := hO6.ext hE7; replace hT := Ext.tr hT hE7) | (go_at_call 16; have hs6 := hS5; with_reducible refine (toInt64S aRoute _ _ _ _ (hv_aRoute.ext hT) hn_aRoute).mono ?_; rintro e w6 ⟨⟨v6, rfl, hO6⟩, hE6⟩; have hS6 : Ext w2 w6 := Ext.tr hS5 hE6; have z6 : w5.heap.size ≤ w6.heap.size := hE6.size; replace hO3 := hO3.ext hE6; replace hO4 := hO4.ext hE6; replace hT := Ext.tr hT hE6) | (go_at_call 26; have hs5 := hS4; refine (toCrew aC _).mono ?_; rintro e w5 ⟨rfl, hE5⟩; have hS5 : Ext w2 w5 := Ext.tr hS4 hE5; have z5 : w4.heap.size ≤ w5.heap.size := hE5.size; replace hO3 := hO3.ext hE5; replace hO4 := hO4.ext hE5; replace hT := Ext.tr hT hE5) | (go_at_call 16; have hs4 := hS3; with_reducible refine (toInt64S aArrivals _ _ _ _ (hv_aArrivals.ext hT) hn_aArrivals).mono ?_; rintro e w4 ⟨⟨v4, rfl, hO4⟩, hE4⟩; have hS4 : Ext w2 w4 := Ext.tr hS3 hE4; have z4 : w3.heap.size ≤ w4.heap.size := hE4.size; replace hO3 := hO3.ext hE4; replace hT := Ext.tr hT hE4) | (go_at_call 11; have hD3 : Ext w2 w2.drew := Ext.drewN _ 1; replace hT := Ext.tr hT hD3; refine (toMine j_aM aM _ _ _ _ (hv_aM.ext hT) hn_aM).mono ?_; rintro e w3 ⟨⟨v3, rfl, hO3⟩, hE3⟩; have hS3 : Ext w2 w3 := Ext.tr hD3 hE3; have z3 : w2.heap.size ≤ w3.heap.size := hS3.size; replace hO3 : Own w2.heap.size w3.heap.size w3 _ _ _ _ _ := hO3; replace hT := Ext.tr hT hE3))
  clear qbz0_0 qbz0_1
  replace bz0 := bz0.ext hS7
  have qbz0_0 : w7.cell? ⟨w.heap.size, 0, none⟩ = some (.int .i64 j_aM) := bz0.cell 0
  have qbz0_1 : w7.cell? ⟨w.heap.size, 1, none⟩ = some (v_aM) := bz0.cell 1
  clear qbz1_0 qbz1_1 qbz1_2
  replace bz1 := bz1.ext hS7
  have qbz1_0 : w7.cell? ⟨w.heap.size + 1, 0, none⟩ = some (.string aC.id) := bz1.cell 0
  have qbz1_1 : w7.cell? ⟨w.heap.size + 1, 1, none⟩ = some (.int .i64 aC.junction) := bz1.cell 1
  have qbz1_2 : w7.cell? ⟨w.heap.size + 1, 2, none⟩ = some (.int .i64 aC.speed) := bz1.cell 2
  go_wp2_with fail
  refine (toMine j_aM aM _ _ _ _ (hv_aM.ext hT) hn_aM).mono ?_
  rintro e w8 ⟨⟨v8, rfl, hO8⟩, hE8⟩
  have z8 : w7.heap.size ≤ w8.heap.size := hE8.size
  replace hO3 := hO3.ext hE8
  replace hO4 := hO4.ext hE8
  replace hO6 := hO6.ext hE8
  replace hT := Ext.tr hT hE8
  clear qbz0_0 qbz0_1
  replace bz0 := bz0.ext hE8
  have qbz0_0 : w8.cell? ⟨w.heap.size, 0, none⟩ = some (.int .i64 j_aM) := bz0.cell 0
  have qbz0_1 : w8.cell? ⟨w.heap.size, 1, none⟩ = some (v_aM) := bz0.cell 1
  clear qbz1_0 qbz1_1 qbz1_2
  replace bz1 := bz1.ext hE8
  have qbz1_0 : w8.cell? ⟨w.heap.size + 1, 0, none⟩ = some (.string aC.id) := bz1.cell 0
  have qbz1_1 : w8.cell? ⟨w.heap.size + 1, 1, none⟩ = some (.int .i64 aC.junction) := bz1.cell 1
  have qbz1_2 : w8.cell? ⟨w.heap.size + 1, 2, none⟩ = some (.int .i64 aC.speed) := bz1.cell 2
  clear hE8
  have hl8 := hO8.sl
  obtain ⟨_, _, A8, c8, rfl, _, _, _⟩ := hl8
  go_wp2_with fail
  generalize hG : World.alloc w8 _ = xw8
  have hX : Ext w8 xw8 := by rw [← hG]; exact Ext.new _ _
  have zxw8 : w8.heap.size < xw8.heap.size := by rw [← hG]; simp
  have bxw8 : Blk xw8 w8.heap.size 31 #[.int .i64 j_aM, .slice A8 aM.length c8] := by rw [← hG]; exact Blk.new _ _ _
  clear hG
  replace bz0 := bz0.ext hX
  clear qbz0_0 qbz0_1
  replace bz1 := bz1.ext hX
  clear qbz1_0 qbz1_1 qbz1_2
  have qbz0_0 : xw8.cell? ⟨w.heap.size, 0, none⟩ = some (.int .i64 j_aM) := bz0.cell 0
  have qbz0_1 : xw8.cell? ⟨w.heap.size, 1, none⟩ = some (v_aM) := bz0.cell 1
  have qbz1_0 : xw8.cell? ⟨w.heap.size + 1, 0, none⟩ = some (.string aC.id) := bz1.cell 0
  have qbz1_1 : xw8.cell? ⟨w.heap.size + 1, 1, none⟩ = some (.int .i64 aC.junction) := bz1.cell 1
  have qbz1_2 : xw8.cell? ⟨w.heap.size + 1, 2, none⟩ = some (.int .i64 aC.speed) := bz1.cell 2
  have qbxw8_0 : xw8.cell? ⟨w8.heap.size, 0, none⟩ = some (.int .i64 j_aM) := bxw8.cell 0
  have qbxw8_1 : xw8.cell? ⟨w8.heap.size, 1, none⟩ = some (.slice A8 aM.length c8) := bxw8.cell 1
  replace hO3 := hO3.ext hX
  replace hO4 := hO4.ext hX
  replace hO6 := hO6.ext hX
  replace hO8 := hO8.ext hX
  replace hT := Ext.tr hT hX
  clear hX
  refine (toInt64S aArrivals _ _ _ _ (hv_aArrivals.ext hT) hn_aArrivals).mono ?_
  rintro e w9 ⟨⟨v9, rfl, hO9⟩, hE9⟩
  have z9 : xw8.heap.size ≤ w9.heap.size := hE9.size
  replace hO3 := hO3.ext hE9
  replace hO4 := hO4.ext hE9
  replace hO6 := hO6.ext hE9
  replace hO8 := hO8.ext hE9
  replace hT := Ext.tr hT hE9
  clear qbz0_0 qbz0_1
  replace bz0 := bz0.ext hE9
  have qbz0_0 : w9.cell? ⟨w.heap.size, 0, none⟩ = some (.int .i64 j_aM) := bz0.cell 0
  have qbz0_1 : w9.cell? ⟨w.heap.size, 1, none⟩ = some (v_aM) := bz0.cell 1
  clear qbz1_0 qbz1_1 qbz1_2
  replace bz1 := bz1.ext hE9
  have qbz1_0 : w9.cell? ⟨w.heap.size + 1, 0, none⟩ = some (.string aC.id) := bz1.cell 0
  have qbz1_1 : w9.cell? ⟨w.heap.size + 1, 1, none⟩ = some (.int .i64 aC.junction) := bz1.cell 1
  have qbz1_2 : w9.cell? ⟨w.heap.size + 1, 2, none⟩ = some (.int .i64 aC.speed) := bz1.cell 2
  clear qbxw8_0 qbxw8_1
  replace bxw8 := bxw8.ext hE9
  have qbxw8_0 : w9.cell? ⟨w8.heap.size, 0, none⟩ = some (.int .i64 j_aM) := bxw8.cell 0
  have qbxw8_1 : w9.cell? ⟨w8.heap.size, 1, none⟩ = some (.slice A8 aM.length c8) := bxw8.cell 1
  clear hE9
  go_wp2_with fail
  refine (toInt64S aRoute _ _ _ _ (hv_aRoute.ext hT) hn_aRoute).mono ?_
  rintro e w10 ⟨⟨v10, rfl, hO10⟩, hE10⟩
  have z10 : w9.heap.size ≤ w10.heap.size := hE10.size
  replace hO3 := hO3.ext hE10
  replace hO4 := hO4.ext hE10
  replace hO6 := hO6.ext hE10
  replace hO8 := hO8.ext hE10
  replace hO9 := hO9.ext hE10
  replace hT := Ext.tr hT hE10
  clear qbz0_0 qbz0_1
  replace bz0 := bz0.ext hE10
  have qbz0_0 : w10.cell? ⟨w.heap.size, 0, none⟩ = some (.int .i64 j_aM) := bz0.cell 0
  have qbz0_1 : w10.cell? ⟨w.heap.size, 1, none⟩ = some (v_aM) := bz0.cell 1
  clear qbz1_0 qbz1_1 qbz1_2
  replace bz1 := bz1.ext hE10
  have qbz1_0 : w10.cell? ⟨w.heap.size + 1, 0, none⟩ = some (.string aC.id) := bz1.cell 0
  have qbz1_1 : w10.cell? ⟨w.heap.size + 1, 1, none⟩ = some (.int .i64 aC.junction) := bz1.cell 1
  have qbz1_2 : w10.cell? ⟨w.heap.size + 1, 2, none⟩ = some (.int .i64 aC.speed) := bz1.cell 2
  clear qbxw8_0 qbxw8_1
  replace bxw8 := bxw8.ext hE10
  have qbxw8_0 : w10.cell? ⟨w8.heap.size, 0, none⟩ = some (.int .i64 j_aM) := bxw8.cell 0
  have qbxw8_1 : w10.cell? ⟨w8.heap.size, 1, none⟩ = some (.slice A8 aM.length c8) := bxw8.cell 1
  clear hE10
  go_wp2_with fail
  clear qbz0_0 qbz0_1
  have qbz0_0 : ∀ W, Ext w10 W → W.cell? ⟨w.heap.size, 0, none⟩ = some (.int .i64 j_aM) := fun W hW => (bz0.ext hW).cell 0
  have qbz0_1 : ∀ W, Ext w10 W → W.cell? ⟨w.heap.size, 1, none⟩ = some (v_aM) := fun W hW => (bz0.ext hW).cell 1
  clear qbz1_0 qbz1_1 qbz1_2
  have qbz1_0 : ∀ W, Ext w10 W → W.cell? ⟨w.heap.size + 1, 0, none⟩ = some (.string aC.id) := fun W hW => (bz1.ext hW).cell 0
  have qbz1_1 : ∀ W, Ext w10 W → W.cell? ⟨w.heap.size + 1, 1, none⟩ = some (.int .i64 aC.junction) := fun W hW => (bz1.ext hW).cell 1
  have qbz1_2 : ∀ W, Ext w10 W → W.cell? ⟨w.heap.size + 1, 2, none⟩ = some (.int .i64 aC.speed) := fun W hW => (bz1.ext hW).cell 2
  clear qbxw8_0 qbxw8_1
  have qbxw8_0 : ∀ W, Ext w10 W → W.cell? ⟨w8.heap.size, 0, none⟩ = some (.int .i64 j_aM) := fun W hW => (bxw8.ext hW).cell 0
  have qbxw8_1 : ∀ W, Ext w10 W → W.cell? ⟨w8.heap.size, 1, none⟩ = some (.slice A8 aM.length c8) := fun W hW => (bxw8.ext hW).cell 1
  go_region_held3 (fun W => Ext w10 W) (first | assumption | exact Ext.drewN _ 1) (first | (go_at_call 27; have hs12 := hS11; refine (implIsSafeRoute j_aM aM aArrivals aBlocked aC aStart aRoute _ _ _ _ _ _ _ _ _ _ hO8.sl hs_aM hn_aM hO9.sl hn_aArrivals hs_aC hO10.sl hn_aRoute).mono ?_; rintro e w12 ⟨rfl, hE12⟩; have hS12 : Ext w10 w12 := Ext.tr hS11 hE12; have z12 : w11.heap.size ≤ w12.heap.size := hE12.size; replace hO3 := hO3.ext hE12; replace hO4 := hO4.ext hE12; replace hO6 := hO6.ext hE12; replace hO8 := hO8.ext hE12; replace hO9 := hO9.ext hE12; replace hO10 := hO10.ext hE12; replace hT := Ext.tr hT hE12) | (go_at_call 26; have hD11 : Ext w10 w10.drew := Ext.drewN _ 1; replace hT := Ext.tr hT hD11; replace hO3 := hO3.ext hD11; replace hO4 := hO4.ext hD11; replace hO6 := hO6.ext hD11; replace hO8 := hO8.ext hD11; replace hO9 := hO9.ext hD11; replace hO10 := hO10.ext hD11; refine (toCrew aC _).mono ?_; rintro e w11 ⟨rfl, hE11⟩; have hS11 : Ext w10 w11 := Ext.tr hD11 hE11; have z11 : w10.heap.size ≤ w11.heap.size := hS11.size; replace hO3 := hO3.ext hE11; replace hO4 := hO4.ext hE11; replace hO6 := hO6.ext hE11; replace hO8 := hO8.ext hE11; replace hO9 := hO9.ext hE11; replace hO10 := hO10.ext hE11; replace hT := Ext.tr hT hE11))
  clear qbz0_0 qbz0_1
  replace bz0 := bz0.ext hS12
  have qbz0_0 : w12.cell? ⟨w.heap.size, 0, none⟩ = some (.int .i64 j_aM) := bz0.cell 0
  have qbz0_1 : w12.cell? ⟨w.heap.size, 1, none⟩ = some (v_aM) := bz0.cell 1
  clear qbz1_0 qbz1_1 qbz1_2
  replace bz1 := bz1.ext hS12
  have qbz1_0 : w12.cell? ⟨w.heap.size + 1, 0, none⟩ = some (.string aC.id) := bz1.cell 0
  have qbz1_1 : w12.cell? ⟨w.heap.size + 1, 1, none⟩ = some (.int .i64 aC.junction) := bz1.cell 1
  have qbz1_2 : w12.cell? ⟨w.heap.size + 1, 2, none⟩ = some (.int .i64 aC.speed) := bz1.cell 2
  clear qbxw8_0 qbxw8_1
  replace bxw8 := bxw8.ext hS12
  have qbxw8_0 : w12.cell? ⟨w8.heap.size, 0, none⟩ = some (.int .i64 j_aM) := bxw8.cell 0
  have qbxw8_1 : w12.cell? ⟨w8.heap.size, 1, none⟩ = some (.slice A8 aM.length c8) := bxw8.cell 1
  go_wp2_with fail
  clear qbz0_0 qbz0_1
  have qbz0_0 : ∀ W, Ext w12 W → W.cell? ⟨w.heap.size, 0, none⟩ = some (.int .i64 j_aM) := fun W hW => (bz0.ext hW).cell 0
  have qbz0_1 : ∀ W, Ext w12 W → W.cell? ⟨w.heap.size, 1, none⟩ = some (v_aM) := fun W hW => (bz0.ext hW).cell 1
  clear qbz1_0 qbz1_1 qbz1_2
  have qbz1_0 : ∀ W, Ext w12 W → W.cell? ⟨w.heap.size + 1, 0, none⟩ = some (.string aC.id) := fun W hW => (bz1.ext hW).cell 0
  have qbz1_1 : ∀ W, Ext w12 W → W.cell? ⟨w.heap.size + 1, 1, none⟩ = some (.int .i64 aC.junction) := fun W hW => (bz1.ext hW).cell 1
  have qbz1_2 : ∀ W, Ext w12 W → W.cell? ⟨w.heap.size + 1, 2, none⟩ = some (.int .i64 aC.speed) := fun W hW => (bz1.ext hW).cell 2
  clear qbxw8_0 qbxw8_1
  have qbxw8_0 : ∀ W, Ext w12 W → W.cell? ⟨w8.heap.size, 0, none⟩ = some (.int .i64 j_aM) := fun W hW => (bxw8.ext hW).cell 0
  have qbxw8_1 : ∀ W, Ext w12 W → W.cell? ⟨w8.heap.size, 1, none⟩ = some (.slice A8 aM.length c8) := fun W hW => (bxw8.ext hW).cell 1
  go_region_held3 (fun W => Ext w12 W) (first | assumption | exact Ext.drewN _ 1) (first | (go_at_call 14; have hs14 := hS13; refine (eqMine j_aM (aM) _ _ _ _ _ _ _ hO8.sl hO13.sl (by omega)).mono ?_; rintro e w14 ⟨rfl, hE14⟩; have hS14 : Ext w12 w14 := Ext.tr hS13 hE14; have z14 : w13.heap.size ≤ w14.heap.size := hE14.size; replace hO3 := hO3.ext hE14; replace hO4 := hO4.ext hE14; replace hO6 := hO6.ext hE14; replace hO8 := hO8.ext hE14; replace hO9 := hO9.ext hE14; replace hO10 := hO10.ext hE14; replace hO13 := hO13.ext hE14; replace hT := Ext.tr hT hE14) | (go_at_call 11; have hD13 : Ext w12 w12.drew := Ext.drewN _ 1; replace hT := Ext.tr hT hD13; replace hO3 := hO3.ext hD13; replace hO4 := hO4.ext hD13; replace hO6 := hO6.ext hD13; replace hO8 := hO8.ext hD13; replace hO9 := hO9.ext hD13; replace hO10 := hO10.ext hD13; refine (toMine j_aM aM _ _ _ _ (hv_aM.ext hT) hn_aM).mono ?_; rintro e w13 ⟨⟨v13, rfl, hO13⟩, hE13⟩; have hS13 : Ext w12 w13 := Ext.tr hD13 hE13; have z13 : w12.heap.size ≤ w13.heap.size := hS13.size; replace hO13 : Own w12.heap.size w13.heap.size w13 _ _ _ _ _ := hO13; replace hO3 := hO3.ext hE13; replace hO4 := hO4.ext hE13; replace hO6 := hO6.ext hE13; replace hO8 := hO8.ext hE13; replace hO9 := hO9.ext hE13; replace hO10 := hO10.ext hE13; replace hT := Ext.tr hT hE13))
  clear qbz0_0 qbz0_1
  replace bz0 := bz0.ext hS14
  have qbz0_0 : w14.cell? ⟨w.heap.size, 0, none⟩ = some (.int .i64 j_aM) := bz0.cell 0
  have qbz0_1 : w14.cell? ⟨w.heap.size, 1, none⟩ = some (v_aM) := bz0.cell 1
  clear qbz1_0 qbz1_1 qbz1_2
  replace bz1 := bz1.ext hS14
  have qbz1_0 : w14.cell? ⟨w.heap.size + 1, 0, none⟩ = some (.string aC.id) := bz1.cell 0
  have qbz1_1 : w14.cell? ⟨w.heap.size + 1, 1, none⟩ = some (.int .i64 aC.junction) := bz1.cell 1
  have qbz1_2 : w14.cell? ⟨w.heap.size + 1, 2, none⟩ = some (.int .i64 aC.speed) := bz1.cell 2
  clear qbxw8_0 qbxw8_1
  replace bxw8 := bxw8.ext hS14
  have qbxw8_0 : w14.cell? ⟨w8.heap.size, 0, none⟩ = some (.int .i64 j_aM) := bxw8.cell 0
  have qbxw8_1 : w14.cell? ⟨w8.heap.size, 1, none⟩ = some (.slice A8 aM.length c8) := bxw8.cell 1
  clear hO13
  go_wp2_with fail
  refine (toInt64S aArrivals _ _ _ _ (hv_aArrivals.ext hT) hn_aArrivals).mono ?_
  rintro e w15 ⟨⟨v15, rfl, hO15⟩, hE15⟩
  have z15 : w14.heap.size ≤ w15.heap.size := hE15.size
  replace hO3 := hO3.ext hE15
  replace hO4 := hO4.ext hE15
  replace hO6 := hO6.ext hE15
  replace hO8 := hO8.ext hE15
  replace hO9 := hO9.ext hE15
  replace hO10 := hO10.ext hE15
  replace hT := Ext.tr hT hE15
  clear qbz0_0 qbz0_1
  replace bz0 := bz0.ext hE15
  have qbz0_0 : w15.cell? ⟨w.heap.size, 0, none⟩ = some (.int .i64 j_aM) := bz0.cell 0
  have qbz0_1 : w15.cell? ⟨w.heap.size, 1, none⟩ = some (v_aM) := bz0.cell 1
  clear qbz1_0 qbz1_1 qbz1_2
  replace bz1 := bz1.ext hE15
  have qbz1_0 : w15.cell? ⟨w.heap.size + 1, 0, none⟩ = some (.string aC.id) := bz1.cell 0
  have qbz1_1 : w15.cell? ⟨w.heap.size + 1, 1, none⟩ = some (.int .i64 aC.junction) := bz1.cell 1
  have qbz1_2 : w15.cell? ⟨w.heap.size + 1, 2, none⟩ = some (.int .i64 aC.speed) := bz1.cell 2
  clear qbxw8_0 qbxw8_1
  replace bxw8 := bxw8.ext hE15
  have qbxw8_0 : w15.cell? ⟨w8.heap.size, 0, none⟩ = some (.int .i64 j_aM) := bxw8.cell 0
  have qbxw8_1 : w15.cell? ⟨w8.heap.size, 1, none⟩ = some (.slice A8 aM.length c8) := bxw8.cell 1
  clear hE15
  go_wp2_with fail
  refine (eqInt64S (aArrivals) _ _ _ _ _ _ _ hO9.sl hO15.sl (by omega)).mono ?_
  rintro e w16 ⟨rfl, hE16⟩
  have z16 : w15.heap.size ≤ w16.heap.size := hE16.size
  replace hO3 := hO3.ext hE16
  replace hO4 := hO4.ext hE16
  replace hO6 := hO6.ext hE16
  replace hO8 := hO8.ext hE16
  replace hO9 := hO9.ext hE16
  replace hO10 := hO10.ext hE16
  replace hO15 := hO15.ext hE16
  replace hT := Ext.tr hT hE16
  clear qbz0_0 qbz0_1
  replace bz0 := bz0.ext hE16
  have qbz0_0 : w16.cell? ⟨w.heap.size, 0, none⟩ = some (.int .i64 j_aM) := bz0.cell 0
  have qbz0_1 : w16.cell? ⟨w.heap.size, 1, none⟩ = some (v_aM) := bz0.cell 1
  clear qbz1_0 qbz1_1 qbz1_2
  replace bz1 := bz1.ext hE16
  have qbz1_0 : w16.cell? ⟨w.heap.size + 1, 0, none⟩ = some (.string aC.id) := bz1.cell 0
  have qbz1_1 : w16.cell? ⟨w.heap.size + 1, 1, none⟩ = some (.int .i64 aC.junction) := bz1.cell 1
  have qbz1_2 : w16.cell? ⟨w.heap.size + 1, 2, none⟩ = some (.int .i64 aC.speed) := bz1.cell 2
  clear qbxw8_0 qbxw8_1
  replace bxw8 := bxw8.ext hE16
  have qbxw8_0 : w16.cell? ⟨w8.heap.size, 0, none⟩ = some (.int .i64 j_aM) := bxw8.cell 0
  have qbxw8_1 : w16.cell? ⟨w8.heap.size, 1, none⟩ = some (.slice A8 aM.length c8) := bxw8.cell 1
  clear hE16
  clear hO15
  go_wp2_with fail
  refine (toInt64S aRoute _ _ _ _ (hv_aRoute.ext hT) hn_aRoute).mono ?_
  rintro e w17 ⟨⟨v17, rfl, hO17⟩, hE17⟩
  have z17 : w16.heap.size ≤ w17.heap.size := hE17.size
  replace hO3 := hO3.ext hE17
  replace hO4 := hO4.ext hE17
  replace hO6 := hO6.ext hE17
  replace hO8 := hO8.ext hE17
  replace hO9 := hO9.ext hE17
  replace hO10 := hO10.ext hE17
  replace hT := Ext.tr hT hE17
  clear qbz0_0 qbz0_1
  replace bz0 := bz0.ext hE17
  have qbz0_0 : w17.cell? ⟨w.heap.size, 0, none⟩ = some (.int .i64 j_aM) := bz0.cell 0
  have qbz0_1 : w17.cell? ⟨w.heap.size, 1, none⟩ = some (v_aM) := bz0.cell 1
  clear qbz1_0 qbz1_1 qbz1_2
  replace bz1 := bz1.ext hE17
  have qbz1_0 : w17.cell? ⟨w.heap.size + 1, 0, none⟩ = some (.string aC.id) := bz1.cell 0
  have qbz1_1 : w17.cell? ⟨w.heap.size + 1, 1, none⟩ = some (.int .i64 aC.junction) := bz1.cell 1
  have qbz1_2 : w17.cell? ⟨w.heap.size + 1, 2, none⟩ = some (.int .i64 aC.speed) := bz1.cell 2
  clear qbxw8_0 qbxw8_1
  replace bxw8 := bxw8.ext hE17
  have qbxw8_0 : w17.cell? ⟨w8.heap.size, 0, none⟩ = some (.int .i64 j_aM) := bxw8.cell 0
  have qbxw8_1 : w17.cell? ⟨w8.heap.size, 1, none⟩ = some (.slice A8 aM.length c8) := bxw8.cell 1
  clear hE17
  go_wp2_with fail
  refine (eqInt64S (aRoute) _ _ _ _ _ _ _ hO10.sl hO17.sl (by omega)).mono ?_
  rintro e w18 ⟨rfl, hE18⟩
  have z18 : w17.heap.size ≤ w18.heap.size := hE18.size
  replace hO3 := hO3.ext hE18
  replace hO4 := hO4.ext hE18
  replace hO6 := hO6.ext hE18
  replace hO8 := hO8.ext hE18
  replace hO9 := hO9.ext hE18
  replace hO10 := hO10.ext hE18
  replace hO17 := hO17.ext hE18
  replace hT := Ext.tr hT hE18
  clear qbz0_0 qbz0_1
  replace bz0 := bz0.ext hE18
  have qbz0_0 : w18.cell? ⟨w.heap.size, 0, none⟩ = some (.int .i64 j_aM) := bz0.cell 0
  have qbz0_1 : w18.cell? ⟨w.heap.size, 1, none⟩ = some (v_aM) := bz0.cell 1
  clear qbz1_0 qbz1_1 qbz1_2
  replace bz1 := bz1.ext hE18
  have qbz1_0 : w18.cell? ⟨w.heap.size + 1, 0, none⟩ = some (.string aC.id) := bz1.cell 0
  have qbz1_1 : w18.cell? ⟨w.heap.size + 1, 1, none⟩ = some (.int .i64 aC.junction) := bz1.cell 1
  have qbz1_2 : w18.cell? ⟨w.heap.size + 1, 2, none⟩ = some (.int .i64 aC.speed) := bz1.cell 2
  clear qbxw8_0 qbxw8_1
  replace bxw8 := bxw8.ext hE18
  have qbxw8_0 : w18.cell? ⟨w8.heap.size, 0, none⟩ = some (.int .i64 j_aM) := bxw8.cell 0
  have qbxw8_1 : w18.cell? ⟨w8.heap.size, 1, none⟩ = some (.slice A8 aM.length c8) := bxw8.cell 1
  clear hE18
  clear hO17
  go_wp2
  go_ret
  exact ⟨rfl, hT⟩
end Go.Proofs.Ytlilmopcikogpaa
