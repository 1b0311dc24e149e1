/- The walk of the law FnExactShortfallOf: it returns true; nothing that was there has turned. -/
import Derived.Test.YtojmfjdbggpllaaE21
namespace Go.Proofs.Ytojmfjdbggpllaa
set_option linter.unusedVariables false
open Go.RowKit
set_option maxRecDepth 100000 in
set_option maxHeartbeats 1000000 in
theorem lawShortfallOf (w : World) (j_aM : Int) (aM : List Airway) (v_aM : Value) (hv_aM : Sl 0 w.heap.size w 7 v_aM aM.length (flat Airway.enc aM)) (hs_aM : ∀ x ∈ aM, x.id.size ≤ maxLen) (aFlows : List Int) (v_aFlows : Value) (hv_aFlows : Sl 0 w.heap.size w 1 v_aFlows aFlows.length (flat encI aFlows)) (aList : List Want) (v_aList : Value) (hv_aList : Sl 0 w.heap.size w 3 v_aList aList.length (flat Want.enc aList)) :
    Calls Try.prog 9 #[.agg #[.int .i64 j_aM, v_aM], v_aFlows, v_aList] w fun e w' => e = .returned (.bool true) ∧ Ext w w' := by
  go_enter Try.func9, Try.ntmps9
  have hT : Ext w w := Below.refl _ _
  have hv0 := hv_aFlows
  obtain ⟨_, _, A_aFlows, c_aFlows, rfl, _, _, _⟩ := hv0
  by_cases hg_aFlows : aFlows.length > 1048576
  · go_wp2
    go_ret
    exact ⟨rfl, by first | exact hT | (go_tidy; go_grown)⟩
  have hn_aFlows : aFlows.length ≤ 1048576 := by omega
  go_wp2_with fail
  generalize hG : (w.alloc _) = wz
  replace hT : Ext w wz := by rw [← hG]; exact Ext.new _ _
  have zz : w.heap.size + 1 ≤ wz.heap.size := by rw [← hG]; simp
  have bz0 : Blk wz (w.heap.size) 24 #[.int .i64 j_aM, v_aM] := by
    rw [← hG]
    have h1 := Blk.new w 24 #[.int .i64 j_aM, v_aM]
    simpa using h1
  clear hG
  have qbz0_0 : wz.cell? ⟨w.heap.size, 0, none⟩ = some (.int .i64 j_aM) := bz0.cell 0
  have qbz0_1 : wz.cell? ⟨w.heap.size, 1, none⟩ = some (v_aM) := bz0.cell 1
  refine (szMine j_aM aM _ _ _ _ _ (hv_aM.ext hT) hs_aM ⟨by omega, by omega⟩).mono ?_
  rintro e w1 ⟨⟨r1, rfl, hr1⟩, hE1⟩
  have z1 : wz.heap.size ≤ w1.heap.size := hE1.size
  replace hT := Ext.tr hT hE1
  clear qbz0_0 qbz0_1
  replace bz0 := bz0.ext hE1
  have qbz0_0 : w1.cell? ⟨w.heap.size, 0, none⟩ = some (.int .i64 j_aM) := bz0.cell 0
  have qbz0_1 : w1.cell? ⟨w.heap.size, 1, none⟩ = some (v_aM) := bz0.cell 1
  clear hE1
  by_cases hn1 : r1 < 0
  · go_wp2
    go_ret
    exact ⟨rfl, hT⟩
  obtain ⟨hr1a, hn_aM, hb_aM⟩ := hr1 (by omega)
  have hr1b : 0 ≤ r1 := by omega
  go_wp2_with fail
  refine (szWantS aList _ _ _ _ _ (hv_aList.ext hT) ⟨by omega, by omega⟩).mono ?_
  rintro e w2 ⟨⟨r2, rfl, hr2⟩, hE2⟩
  have z2 : w1.heap.size ≤ w2.heap.size := hE2.size
  replace hT := Ext.tr hT hE2
  clear qbz0_0 qbz0_1
  replace bz0 := bz0.ext hE2
  have qbz0_0 : w2.cell? ⟨w.heap.size, 0, none⟩ = some (.int .i64 j_aM) := bz0.cell 0
  have qbz0_1 : w2.cell? ⟨w.heap.size, 1, none⟩ = some (v_aM) := bz0.cell 1
  clear hE2
  by_cases hn2 : r2 < 0
  · go_wp2
    go_ret
    exact ⟨rfl, hT⟩
  obtain ⟨hr2a, hn_aList⟩ := hr2 (by omega)
  have hr2b : 0 ≤ r2 := by omega
  go_wp2_with fail
  refine (toMine j_aM aM _ _ _ _ (hv_aM.ext hT) hn_aM).mono ?_
  rintro e w3 ⟨⟨v3, rfl, hO3⟩, hE3⟩
  have z3 : w2.heap.size ≤ w3.heap.size := hE3.size
  replace hT := Ext.tr hT hE3
  clear qbz0_0 qbz0_1
  replace bz0 := bz0.ext hE3
  have qbz0_0 : w3.cell? ⟨w.heap.size, 0, none⟩ = some (.int .i64 j_aM) := bz0.cell 0
  have qbz0_1 : w3.cell? ⟨w.heap.size, 1, none⟩ = some (v_aM) := bz0.cell 1
  clear hE3
  go_wp2_with fail
  refine (toInt64S aFlows _ _ _ _ (hv_aFlows.ext hT) hn_aFlows).mono ?_
  rintro e w4 ⟨⟨v4, rfl, hO4⟩, hE4⟩
  have z4 : w3.heap.size ≤ w4.heap.size := hE4.size
  replace hO3 := hO3.ext hE4
  replace hT := Ext.tr hT hE4
  clear qbz0_0 qbz0_1
  replace bz0 := bz0.ext hE4
  have qbz0_0 : w4.cell? ⟨w.heap.size, 0, none⟩ = some (.int .i64 j_aM) := bz0.cell 0
  have qbz0_1 : w4.cell? ⟨w.heap.size, 1, none⟩ = some (v_aM) := bz0.cell 1
  clear hE4
  go_wp2_with fail
  refine (toWantS aList _ _ _ _ (hv_aList.ext hT) hn_aList).mono ?_
  rintro e w5 ⟨⟨v5, rfl, hO5⟩, hE5⟩
  have z5 : w4.heap.size ≤ w5.heap.size := hE5.size
  replace hO3 := hO3.ext hE5
  replace hO4 := hO4.ext hE5
  replace hT := Ext.tr hT hE5
  clear qbz0_0 qbz0_1
  replace bz0 := bz0.ext hE5
  have qbz0_0 : w5.cell? ⟨w.heap.size, 0, none⟩ = some (.int .i64 j_aM) := bz0.cell 0
  have qbz0_1 : w5.cell? ⟨w.heap.size, 1, none⟩ = some (v_aM) := bz0.cell 1
  clear hE5
  go_wp2_with fail
  refine (specShortfallOf j_aM aM aFlows aList _ _ _ _ _ _ _ _ _ _ hO3.sl hs_aM hn_aM hO4.sl hn_aFlows hO5.sl hn_aList).mono ?_
  rintro e w6 ⟨rfl, hE6⟩
  have z6 : w5.heap.size ≤ w6.heap.size := hE6.size
  replace hO3 := hO3.ext hE6
  replace hO4 := hO4.ext hE6
  replace hO5 := hO5.ext hE6
  replace hT := Ext.tr hT hE6
  clear qbz0_0 qbz0_1
  replace bz0 := bz0.ext hE6
  have qbz0_0 : w6.cell? ⟨w.heap.size, 0, none⟩ = some (.int .i64 j_aM) := bz0.cell 0
  have qbz0_1 : w6.cell? ⟨w.heap.size, 1, none⟩ = some (v_aM) := bz0.cell 1
  clear hE6
  go_wp2_with fail
  refine (toMine j_aM aM _ _ _ _ (hv_aM.ext hT) hn_aM).mono ?_
  rintro e w7 ⟨⟨v7, rfl, hO7⟩, hE7⟩
  have z7 : w6.heap.size ≤ w7.heap.size := hE7.size
  replace hO3 := hO3.ext hE7
  replace hO4 := hO4.ext hE7
  replace hO5 := hO5.ext hE7
  replace hT := Ext.tr hT hE7
  clear qbz0_0 qbz0_1
  replace bz0 := bz0.ext hE7
  have qbz0_0 : w7.cell? ⟨w.heap.size, 0, none⟩ = some (.int .i64 j_aM) := bz0.cell 0
  have qbz0_1 : w7.cell? ⟨w.heap.size, 1, none⟩ = some (v_aM) := bz0.cell 1
  clear hE7
  have hl7 := hO7.sl
  obtain ⟨_, _, A7, c7, rfl, _, _, _⟩ := hl7
  go_wp2_with fail
  generalize hG : World.alloc w7 _ = xw7
  have hX : Ext w7 xw7 := by rw [← hG]; exact Ext.new _ _
  have zxw7 : w7.heap.size < xw7.heap.size := by rw [← hG]; simp
  have bxw7 : Blk xw7 w7.heap.size 31 #[.int .i64 j_aM, .slice A7 aM.length c7] := by rw [← hG]; exact Blk.new _ _ _
  clear hG
  replace bz0 := bz0.ext hX
  clear qbz0_0 qbz0_1
  have qbz0_0 : xw7.cell? ⟨w.heap.size, 0, none⟩ = some (.int .i64 j_aM) := bz0.cell 0
  have qbz0_1 : xw7.cell? ⟨w.heap.size, 1, none⟩ = some (v_aM) := bz0.cell 1
  have qbxw7_0 : xw7.cell? ⟨w7.heap.size, 0, none⟩ = some (.int .i64 j_aM) := bxw7.cell 0
  have qbxw7_1 : xw7.cell? ⟨w7.heap.size, 1, none⟩ = some (.slice A7 aM.length c7) := bxw7.cell 1
  replace hO3 := hO3.ext hX
  replace hO4 := hO4.ext hX
  replace hO5 := hO5.ext hX
  replace hO7 := hO7.ext hX
  replace hT := Ext.tr hT hX
  clear hX
  refine (toInt64S aFlows _ _ _ _ (hv_aFlows.ext hT) hn_aFlows).mono ?_
  rintro e w8 ⟨⟨v8, rfl, hO8⟩, hE8⟩
  have z8 : xw7.heap.size ≤ w8.heap.size := hE8.size
  replace hO3 := hO3.ext hE8
  replace hO4 := hO4.ext hE8
  replace hO5 := hO5.ext hE8
  replace hO7 := hO7.ext hE8
  replace hT := Ext.tr hT hE8
  clear qbz0_0 qbz0_1
  replace bz0 := bz0.ext hE8
  have qbz0_0 : w8.cell? ⟨w.heap.size, 0, none⟩ = some (.int .i64 j_aM) := bz0.cell 0
  have qbz0_1 : w8.cell? ⟨w.heap.size, 1, none⟩ = some (v_aM) := bz0.cell 1
  clear qbxw7_0 qbxw7_1
  replace bxw7 := bxw7.ext hE8
  have qbxw7_0 : w8.cell? ⟨w7.heap.size, 0, none⟩ = some (.int .i64 j_aM) := bxw7.cell 0
  have qbxw7_1 : w8.cell? ⟨w7.heap.size, 1, none⟩ = some (.slice A7 aM.length c7) := bxw7.cell 1
  clear hE8
  go_wp2_with fail
  refine (toWantS aList _ _ _ _ (hv_aList.ext hT) hn_aList).mono ?_
  rintro e w9 ⟨⟨v9, rfl, hO9⟩, hE9⟩
  have z9 : w8.heap.size ≤ w9.heap.size := hE9.size
  replace hO3 := hO3.ext hE9
  replace hO4 := hO4.ext hE9
  replace hO5 := hO5.ext hE9
  replace hO7 := hO7.ext hE9
  replace hO8 := hO8.ext hE9
  replace hT := Ext.tr hT hE9
  clear qbz0_0 qbz0_1
  replace bz0 := bz0.ext hE9
  have qbz0_0 : w9.cell? ⟨w.heap.size, 0, none⟩ = some (.int .i64 j_aM) := bz0.cell 0
  have qbz0_1 : w9.cell? ⟨w.heap.size, 1, none⟩ = some (v_aM) := bz0.cell 1
  clear qbxw7_0 qbxw7_1
  replace bxw7 := bxw7.ext hE9
  have qbxw7_0 : w9.cell? ⟨w7.heap.size, 0, none⟩ = some (.int .i64 j_aM) := bxw7.cell 0
  have qbxw7_1 : w9.cell? ⟨w7.heap.size, 1, none⟩ = some (.slice A7 aM.length c7) := bxw7.cell 1
  clear hE9
  go_wp2_with fail
  refine (implShortfallOf j_aM aM aFlows aList _ _ _ _ _ _ _ _ _ _ hO7.sl hs_aM hn_aM hO8.sl hn_aFlows hO9.sl hn_aList).mono ?_
  rintro e w10 ⟨rfl, hE10⟩
  have z10 : w9.heap.size ≤ w10.heap.size := hE10.size
  replace hO3 := hO3.ext hE10
  replace hO4 := hO4.ext hE10
  replace hO5 := hO5.ext hE10
  replace hO7 := hO7.ext hE10
  replace hO8 := hO8.ext hE10
  replace hO9 := hO9.ext hE10
  replace hT := Ext.tr hT hE10
  clear qbz0_0 qbz0_1
  replace bz0 := bz0.ext hE10
  have qbz0_0 : w10.cell? ⟨w.heap.size, 0, none⟩ = some (.int .i64 j_aM) := bz0.cell 0
  have qbz0_1 : w10.cell? ⟨w.heap.size, 1, none⟩ = some (v_aM) := bz0.cell 1
  clear qbxw7_0 qbxw7_1
  replace bxw7 := bxw7.ext hE10
  have qbxw7_0 : w10.cell? ⟨w7.heap.size, 0, none⟩ = some (.int .i64 j_aM) := bxw7.cell 0
  have qbxw7_1 : w10.cell? ⟨w7.heap.size, 1, none⟩ = some (.slice A7 aM.length c7) := bxw7.cell 1
  clear hE10
  go_wp2_with fail
  clear qbz0_0 qbz0_1
  have qbz0_0 : ∀ W, Ext w10 W → W.cell? ⟨w.heap.size, 0, none⟩ = some (.int .i64 j_aM) := fun W hW => (bz0.ext hW).cell 0
  have qbz0_1 : ∀ W, Ext w10 W → W.cell? ⟨w.heap.size, 1, none⟩ = some (v_aM) := fun W hW => (bz0.ext hW).cell 1
  clear qbxw7_0 qbxw7_1
  have qbxw7_0 : ∀ W, Ext w10 W → W.cell? ⟨w7.heap.size, 0, none⟩ = some (.int .i64 j_aM) := fun W hW => (bxw7.ext hW).cell 0
  have qbxw7_1 : ∀ W, Ext w10 W → W.cell? ⟨w7.heap.size, 1, none⟩ = some (.slice A7 aM.length c7) := fun W hW => (bxw7.ext hW).cell 1
  go_region_held3 (fun W => Ext w10 W) (first | assumption | exact Ext.drewN _ 1 | exact Ext.tr (by assumption) hE11 | exact Ext.tr (by assumption) hE12) (first | (go_at_call 15; refine (toMine j_aM aM _ _ _ _ (hv_aM.ext (Ext.tr hT (by assumption))) hn_aM).mono ?_; rintro e w11 ⟨⟨v11, rfl, hO11⟩, hE11⟩) | (go_at_call 18; refine (eqMine j_aM (aM) _ _ _ _ _ _ _ (hO7.sl.ext (by assumption)) hO11.sl (by omega)).mono ?_; rintro e w12 ⟨rfl, hE12⟩))
  have hE12x : Ext w10 w12 := by assumption
  clear hO11
  have z12 : w10.heap.size ≤ w12.heap.size := hE12x.size
  replace hO3 := hO3.ext hE12x
  replace hO4 := hO4.ext hE12x
  replace hO5 := hO5.ext hE12x
  replace hO7 := hO7.ext hE12x
  replace hO8 := hO8.ext hE12x
  replace hO9 := hO9.ext hE12x
  replace hT := Ext.tr hT hE12x
  clear qbz0_0 qbz0_1
  replace bz0 := bz0.ext hE12x
  have qbz0_0 : w12.cell? ⟨w.heap.size, 0, none⟩ = some (.int .i64 j_aM) := bz0.cell 0
  have qbz0_1 : w12.cell? ⟨w.heap.size, 1, none⟩ = some (v_aM) := bz0.cell 1
  clear qbxw7_0 qbxw7_1
  replace bxw7 := bxw7.ext hE12x
  have qbxw7_0 : w12.cell? ⟨w7.heap.size, 0, none⟩ = some (.int .i64 j_aM) := bxw7.cell 0
  have qbxw7_1 : w12.cell? ⟨w7.heap.size, 1, none⟩ = some (.slice A7 aM.length c7) := bxw7.cell 1
  go_wp2_with fail
  refine (toInt64S aFlows _ _ _ _ (hv_aFlows.ext hT) hn_aFlows).mono ?_
  rintro e w13 ⟨⟨v13, rfl, hO13⟩, hE13⟩
  have z13 : w12.heap.size ≤ w13.heap.size := hE13.size
  replace hO3 := hO3.ext hE13
  replace hO4 := hO4.ext hE13
  replace hO5 := hO5.ext hE13
  replace hO7 := hO7.ext hE13
  replace hO8 := hO8.ext hE13
  replace hO9 := hO9.ext hE13
  replace hT := Ext.tr hT hE13
  clear qbz0_0 qbz0_1
  replace bz0 := bz0.ext hE13
  have qbz0_0 : w13.cell? ⟨w.heap.size, 0, none⟩ = some (.int .i64 j_aM) := bz0.cell 0
  have qbz0_1 : w13.cell? ⟨w.heap.size, 1, none⟩ = some (v_aM) := bz0.cell 1
  clear qbxw7_0 qbxw7_1
  replace bxw7 := bxw7.ext hE13
  have qbxw7_0 : w13.cell? ⟨w7.heap.size, 0, none⟩ = some (.int .i64 j_aM) := bxw7.cell 0
  have qbxw7_1 : w13.cell? ⟨w7.heap.size, 1, none⟩ = some (.slice A7 aM.length c7) := bxw7.cell 1
  clear hE13
  go_wp2_with fail
  refine (eqInt64S (aFlows) _ _ _ _ _ _ _ hO8.sl hO13.sl (by omega)).mono ?_
  rintro e w14 ⟨rfl, hE14⟩
  have z14 : w13.heap.size ≤ w14.heap.size := hE14.size
  replace hO3 := hO3.ext hE14
  replace hO4 := hO4.ext hE14
  replace hO5 := hO5.ext hE14
  replace hO7 := hO7.ext hE14
  replace hO8 := hO8.ext hE14
  replace hO9 := hO9.ext hE14
  replace hO13 := hO13.ext hE14
  replace hT := Ext.tr hT hE14
  clear qbz0_0 qbz0_1
  replace bz0 := bz0.ext hE14
  have qbz0_0 : w14.cell? ⟨w.heap.size, 0, none⟩ = some (.int .i64 j_aM) := bz0.cell 0
  have qbz0_1 : w14.cell? ⟨w.heap.size, 1, none⟩ = some (v_aM) := bz0.cell 1
  clear qbxw7_0 qbxw7_1
  replace bxw7 := bxw7.ext hE14
  have qbxw7_0 : w14.cell? ⟨w7.heap.size, 0, none⟩ = some (.int .i64 j_aM) := bxw7.cell 0
  have qbxw7_1 : w14.cell? ⟨w7.heap.size, 1, none⟩ = some (.slice A7 aM.length c7) := bxw7.cell 1
  clear hE14
  clear hO13
  go_wp2_with fail
  refine (toWantS aList _ _ _ _ (hv_aList.ext hT) hn_aList).mono ?_
  rintro e w15 ⟨⟨v15, rfl, hO15⟩, hE15⟩
  have z15 : w14.heap.size ≤ w15.heap.size := hE15.size
  replace hO3 := hO3.ext hE15
  replace hO4 := hO4.ext hE15
  replace hO5 := hO5.ext hE15
  replace hO7 := hO7.ext hE15
  replace hO8 := hO8.ext hE15
  replace hO9 := hO9.ext hE15
  replace hT := Ext.tr hT hE15
  clear qbz0_0 qbz0_1
  replace bz0 := bz0.ext hE15
  have qbz0_0 : w15.cell? ⟨w.heap.size, 0, none⟩ = some (.int .i64 j_aM) := bz0.cell 0
  have qbz0_1 : w15.cell? ⟨w.heap.size, 1, none⟩ = some (v_aM) := bz0.cell 1
  clear qbxw7_0 qbxw7_1
  replace bxw7 := bxw7.ext hE15
  have qbxw7_0 : w15.cell? ⟨w7.heap.size, 0, none⟩ = some (.int .i64 j_aM) := bxw7.cell 0
  have qbxw7_1 : w15.cell? ⟨w7.heap.size, 1, none⟩ = some (.slice A7 aM.length c7) := bxw7.cell 1
  clear hE15
  go_wp2_with fail
  refine (eqWantS (aList) _ _ _ _ _ _ _ hO9.sl hO15.sl (by omega)).mono ?_
  rintro e w16 ⟨rfl, hE16⟩
  have z16 : w15.heap.size ≤ w16.heap.size := hE16.size
  replace hO3 := hO3.ext hE16
  replace hO4 := hO4.ext hE16
  replace hO5 := hO5.ext hE16
  replace hO7 := hO7.ext hE16
  replace hO8 := hO8.ext hE16
  replace hO9 := hO9.ext hE16
  replace hO15 := hO15.ext hE16
  replace hT := Ext.tr hT hE16
  clear qbz0_0 qbz0_1
  replace bz0 := bz0.ext hE16
  have qbz0_0 : w16.cell? ⟨w.heap.size, 0, none⟩ = some (.int .i64 j_aM) := bz0.cell 0
  have qbz0_1 : w16.cell? ⟨w.heap.size, 1, none⟩ = some (v_aM) := bz0.cell 1
  clear qbxw7_0 qbxw7_1
  replace bxw7 := bxw7.ext hE16
  have qbxw7_0 : w16.cell? ⟨w7.heap.size, 0, none⟩ = some (.int .i64 j_aM) := bxw7.cell 0
  have qbxw7_1 : w16.cell? ⟨w7.heap.size, 1, none⟩ = some (.slice A7 aM.length c7) := bxw7.cell 1
  clear hE16
  clear hO15
  go_wp2
  go_ret
  exact ⟨rfl, hT⟩
end Go.Proofs.Ytojmfjdbggpllaa
