/- The walk of the law FnExactAirNeeds: it returns true; nothing that was there has turned. -/
import Derived.Test.YtojmfjdbggpllaaE23
import Derived.Test.YtojmfjdbggpllaaXMineM
namespace Go.Proofs.Ytojmfjdbggpllaa
set_option linter.unusedVariables false
open Go.RowKit
set_option maxRecDepth 100000 in
set_option maxHeartbeats 1000000 in
theorem lawAirNeeds (w : World) (j_aM : Int) (aM : List Airway) (v_aM : Value) (hv_aM : Sl 0 w.heap.size w 7 v_aM aM.length (flat Airway.enc aM)) (hs_aM : ∀ x ∈ aM, x.id.size ≤ maxLen) (aList : List Job) (v_aList : Value) (hv_aList : Sl 0 w.heap.size w 4 v_aList aList.length (flat Job.enc aList)) (hs_aList : ∀ x ∈ aList, x.id.size ≤ maxLen) :
    Calls Try.prog 10 #[.agg #[.int .i64 j_aM, v_aM], v_aList] w fun e w' => e = .returned (.bool true) ∧ Ext w w' := by
  go_enter Try.func10, Try.ntmps10
  have hT : Ext w w := Below.refl _ _
  go_wp2_with fail
  generalize hG : (w.alloc _) = wz
  replace hT : Ext w wz := by rw [← hG]; exact Ext.new _ _
  have zz : w.heap.size + 1 ≤ wz.heap.size := by rw [← hG]; simp
  have bz0 : Blk wz (w.heap.size) 24 #[.int .i64 j_aM, v_aM] := by
    rw [← hG]
    have h1 := Blk.new w 24 #[.int .i64 j_aM, v_aM]
    simpa using h1
  clear hG
  have qbz0_0 : wz.cell? ⟨w.heap.size, 0, none⟩ = some (.int .i64 j_aM) := bz0.cell 0
  have qbz0_1 : wz.cell? ⟨w.heap.size, 1, none⟩ = some (v_aM) := bz0.cell 1
  refine (szMine j_aM aM _ _ _ _ _ (hv_aM.ext hT) hs_aM ⟨by omega, by omega⟩).mono ?_
  rintro e w1 ⟨⟨r1, rfl, hr1⟩, hE1⟩
  have z1 : wz.heap.size ≤ w1.heap.size := hE1.size
  replace hT := Ext.tr hT hE1
  clear qbz0_0 qbz0_1
  replace bz0 := bz0.ext hE1
  have qbz0_0 : w1.cell? ⟨w.heap.size, 0, none⟩ = some (.int .i64 j_aM) := bz0.cell 0
  have qbz0_1 : w1.cell? ⟨w.heap.size, 1, none⟩ = some (v_aM) := bz0.cell 1
  clear hE1
  by_cases hn1 : r1 < 0
  · go_wp2
    go_ret
    exact ⟨rfl, hT⟩
  obtain ⟨hr1a, hn_aM, hb_aM⟩ := hr1 (by omega)
  have hr1b : 0 ≤ r1 := by omega
  go_wp2_with fail
  refine (szJobS aList _ _ _ _ _ (hv_aList.ext hT) hs_aList ⟨by omega, by omega⟩).mono ?_
  rintro e w2 ⟨⟨r2, rfl, hr2⟩, hE2⟩
  have z2 : w1.heap.size ≤ w2.heap.size := hE2.size
  replace hT := Ext.tr hT hE2
  clear qbz0_0 qbz0_1
  replace bz0 := bz0.ext hE2
  have qbz0_0 : w2.cell? ⟨w.heap.size, 0, none⟩ = some (.int .i64 j_aM) := bz0.cell 0
  have qbz0_1 : w2.cell? ⟨w.heap.size, 1, none⟩ = some (v_aM) := bz0.cell 1
  clear hE2
  by_cases hn2 : r2 < 0
  · go_wp2
    go_ret
    exact ⟨rfl, hT⟩
  obtain ⟨hr2a, hn_aList, hb_aList⟩ := hr2 (by omega)
  have hr2b : 0 ≤ r2 := by omega
  go_wp2_with fail
  refine (toMine j_aM aM _ _ _ _ (hv_aM.ext hT) hn_aM).mono ?_
  rintro e w3 ⟨⟨v3, rfl, hO3⟩, hE3⟩
  have z3 : w2.heap.size ≤ w3.heap.size := hE3.size
  replace hT := Ext.tr hT hE3
  clear qbz0_0 qbz0_1
  replace bz0 := bz0.ext hE3
  have qbz0_0 : w3.cell? ⟨w.heap.size, 0, none⟩ = some (.int .i64 j_aM) := bz0.cell 0
  have qbz0_1 : w3.cell? ⟨w.heap.size, 1, none⟩ = some (v_aM) := bz0.cell 1
  clear hE3
  go_wp2_with fail
  refine (toJobS aList _ _ _ _ (hv_aList.ext hT) hn_aList).mono ?_
  rintro e w4 ⟨⟨v4, rfl, hO4⟩, hE4⟩
  have z4 : w3.heap.size ≤ w4.heap.size := hE4.size
  replace hO3 := hO3.ext hE4
  replace hT := Ext.tr hT hE4
  clear qbz0_0 qbz0_1
  replace bz0 := bz0.ext hE4
  have qbz0_0 : w4.cell? ⟨w.heap.size, 0, none⟩ = some (.int .i64 j_aM) := bz0.cell 0
  have qbz0_1 : w4.cell? ⟨w.heap.size, 1, none⟩ = some (v_aM) := bz0.cell 1
  clear hE4
  go_wp2_with fail
  refine (specAirNeeds j_aM aM aList _ _ _ _ _ _ _ hO3.sl hs_aM hn_aM hO4.sl hs_aList hn_aList).mono ?_
  rintro e w5 ⟨⟨v5, rfl, hO5⟩, hE5⟩
  have z5 : w4.heap.size ≤ w5.heap.size := hE5.size
  replace hO3 := hO3.ext hE5
  replace hO4 := hO4.ext hE5
  replace hT := Ext.tr hT hE5
  clear qbz0_0 qbz0_1
  replace bz0 := bz0.ext hE5
  have qbz0_0 : w5.cell? ⟨w.heap.size, 0, none⟩ = some (.int .i64 j_aM) := bz0.cell 0
  have qbz0_1 : w5.cell? ⟨w.heap.size, 1, none⟩ = some (v_aM) := bz0.cell 1
  clear hE5
  go_wp2_with fail
  refine (toMine j_aM aM _ _ _ _ (hv_aM.ext hT) hn_aM).mono ?_
  rintro e w6 ⟨⟨v6, rfl, hO6⟩, hE6⟩
  have z6 : w5.heap.size ≤ w6.heap.size := hE6.size
  replace hO3 := hO3.ext hE6
  replace hO4 := hO4.ext hE6
  replace hO5 := hO5.ext hE6
  replace hT := Ext.tr hT hE6
  clear qbz0_0 qbz0_1
  replace bz0 := bz0.ext hE6
  have qbz0_0 : w6.cell? ⟨w.heap.size, 0, none⟩ = some (.int .i64 j_aM) := bz0.cell 0
  have qbz0_1 : w6.cell? ⟨w.heap.size, 1, none⟩ = some (v_aM) := bz0.cell 1
  clear hE6
  have hl6 := hO6.sl
  obtain ⟨_, _, A6, c6, rfl, _, _, _⟩ := hl6
  go_wp2_with fail
  generalize hG : World.alloc w6 _ = xw6
  have hX : Ext w6 xw6 := by rw [← hG]; exact Ext.new _ _
  have zxw6 : w6.heap.size < xw6.heap.size := by rw [← hG]; simp
  have bxw6 : Blk xw6 w6.heap.size 31 #[.int .i64 j_aM, .slice A6 aM.length c6] := by rw [← hG]; exact Blk.new _ _ _
  clear hG
  replace bz0 := bz0.ext hX
  clear qbz0_0 qbz0_1
  have qbz0_0 : xw6.cell? ⟨w.heap.size, 0, none⟩ = some (.int .i64 j_aM) := bz0.cell 0
  have qbz0_1 : xw6.cell? ⟨w.heap.size, 1, none⟩ = some (v_aM) := bz0.cell 1
  have qbxw6_0 : xw6.cell? ⟨w6.heap.size, 0, none⟩ = some (.int .i64 j_aM) := bxw6.cell 0
  have qbxw6_1 : xw6.cell? ⟨w6.heap.size, 1, none⟩ = some (.slice A6 aM.length c6) := bxw6.cell 1
  replace hO3 := hO3.ext hX
  replace hO4 := hO4.ext hX
  replace hO5 := hO5.ext hX
  replace hO6 := hO6.ext hX
  replace hT := Ext.tr hT hX
  clear hX
  refine (toJobS aList _ _ _ _ (hv_aList.ext hT) hn_aList).mono ?_
  rintro e w7 ⟨⟨v7, rfl, hO7⟩, hE7⟩
  have z7 : xw6.heap.size ≤ w7.heap.size := hE7.size
  replace hO3 := hO3.ext hE7
  replace hO4 := hO4.ext hE7
  replace hO5 := hO5.ext hE7
  replace hO6 := hO6.ext hE7
  replace hT := Ext.tr hT hE7
  clear qbz0_0 qbz0_1
  replace bz0 := bz0.ext hE7
  have qbz0_0 : w7.cell? ⟨w.heap.size, 0, none⟩ = some (.int .i64 j_aM) := bz0.cell 0
  have qbz0_1 : w7.cell? ⟨w.heap.size, 1, none⟩ = some (v_aM) := bz0.cell 1
  clear qbxw6_0 qbxw6_1
  replace bxw6 := bxw6.ext hE7
  have qbxw6_0 : w7.cell? ⟨w6.heap.size, 0, none⟩ = some (.int .i64 j_aM) := bxw6.cell 0
  have qbxw6_1 : w7.cell? ⟨w6.heap.size, 1, none⟩ = some (.slice A6 aM.length c6) := bxw6.cell 1
  clear hE7
  go_wp2_with fail
  refine (implAirNeeds j_aM aM aList _ _ _ _ _ _ _ hO6.sl hs_aM hn_aM hO7.sl hs_aList hn_aList).mono ?_
  rintro e w8 ⟨⟨v8, rfl, hO8⟩, hE8⟩
  have z8 : w7.heap.size ≤ w8.heap.size := hE8.size
  replace hO3 := hO3.ext hE8
  replace hO4 := hO4.ext hE8
  replace hO5 := hO5.ext hE8
  replace hO6 := hO6.ext hE8
  replace hO7 := hO7.ext hE8
  replace hT := Ext.tr hT hE8
  clear qbz0_0 qbz0_1
  replace bz0 := bz0.ext hE8
  have qbz0_0 : w8.cell? ⟨w.heap.size, 0, none⟩ = some (.int .i64 j_aM) := bz0.cell 0
  have qbz0_1 : w8.cell? ⟨w.heap.size, 1, none⟩ = some (v_aM) := bz0.cell 1
  clear qbxw6_0 qbxw6_1
  replace bxw6 := bxw6.ext hE8
  have qbxw6_0 : w8.cell? ⟨w6.heap.size, 0, none⟩ = some (.int .i64 j_aM) := bxw6.cell 0
  have qbxw6_1 : w8.cell? ⟨w6.heap.size, 1, none⟩ = some (.slice A6 aM.length c6) := bxw6.cell 1
  clear hE8
  go_wp2_with fail
  refine (eqInt64S (airR j_aM aM aList) _ _ _ _ _ _ _ hO8.sl hO5.sl hO8.2.1).mono ?_
  rintro e w9 ⟨rfl, hE9⟩
  have z9 : w8.heap.size ≤ w9.heap.size := hE9.size
  replace hO3 := hO3.ext hE9
  replace hO4 := hO4.ext hE9
  replace hO5 := hO5.ext hE9
  replace hO6 := hO6.ext hE9
  replace hO7 := hO7.ext hE9
  replace hO8 := hO8.ext hE9
  replace hT := Ext.tr hT hE9
  clear qbz0_0 qbz0_1
  replace bz0 := bz0.ext hE9
  have qbz0_0 : w9.cell? ⟨w.heap.size, 0, none⟩ = some (.int .i64 j_aM) := bz0.cell 0
  have qbz0_1 : w9.cell? ⟨w.heap.size, 1, none⟩ = some (v_aM) := bz0.cell 1
  clear qbxw6_0 qbxw6_1
  replace bxw6 := bxw6.ext hE9
  have qbxw6_0 : w9.cell? ⟨w6.heap.size, 0, none⟩ = some (.int .i64 j_aM) := bxw6.cell 0
  have qbxw6_1 : w9.cell? ⟨w6.heap.size, 1, none⟩ = some (.slice A6 aM.length c6) := bxw6.cell 1
  clear hE9
  go_wp2_with fail
  clear qbz0_0 qbz0_1
  have qbz0_0 : ∀ W, Ext w9 W → W.cell? ⟨w.heap.size, 0, none⟩ = some (.int .i64 j_aM) := fun W hW => (bz0.ext hW).cell 0
  have qbz0_1 : ∀ W, Ext w9 W → W.cell? ⟨w.heap.size, 1, none⟩ = some (v_aM) := fun W hW => (bz0.ext hW).cell 1
  clear qbxw6_0 qbxw6_1
  have qbxw6_0 : ∀ W, Ext w9 W → W.cell? ⟨w6.heap.size, 0, none⟩ = some (.int .i64 j_aM) := fun W hW => (bxw6.ext hW).cell 0
  have qbxw6_1 : ∀ W, Ext w9 W → W.cell? ⟨w6.heap.size, 1, none⟩ = some (.slice A6 aM.length c6) := fun W hW => (bxw6.ext hW).cell 1
  go_region_held3 (fun W => Ext w9 W) (first | assumption | exact Ext.drewN _ 1 | exact Ext.tr (by assumption) hE10 | exact Ext.tr (by assumption) hE11) (first | (go_at_call 15; refine (toMine j_aM aM _ _ _ _ (hv_aM.ext (Ext.tr hT (by assumption))) hn_aM).mono ?_; rintro e w10 ⟨⟨v10, rfl, hO10⟩, hE10⟩) | (go_at_call 18; refine (eqMine j_aM (aM) _ _ _ _ _ _ _ (hO6.sl.ext (by assumption)) hO10.sl (by omega)).mono ?_; rintro e w11 ⟨rfl, hE11⟩))
  have hE11x : Ext w9 w11 := by assumption
  clear hO10
  have z11 : w9.heap.size ≤ w11.heap.size := hE11x.size
  replace hO3 := hO3.ext hE11x
  replace hO4 := hO4.ext hE11x
  replace hO5 := hO5.ext hE11x
  replace hO6 := hO6.ext hE11x
  replace hO7 := hO7.ext hE11x
  replace hO8 := hO8.ext hE11x
  replace hT := Ext.tr hT hE11x
  clear qbz0_0 qbz0_1
  replace bz0 := bz0.ext hE11x
  have qbz0_0 : w11.cell? ⟨w.heap.size, 0, none⟩ = some (.int .i64 j_aM) := bz0.cell 0
  have qbz0_1 : w11.cell? ⟨w.heap.size, 1, none⟩ = some (v_aM) := bz0.cell 1
  clear qbxw6_0 qbxw6_1
  replace bxw6 := bxw6.ext hE11x
  have qbxw6_0 : w11.cell? ⟨w6.heap.size, 0, none⟩ = some (.int .i64 j_aM) := bxw6.cell 0
  have qbxw6_1 : w11.cell? ⟨w6.heap.size, 1, none⟩ = some (.slice A6 aM.length c6) := bxw6.cell 1
  go_wp2_with fail
  refine (toJobS aList _ _ _ _ (hv_aList.ext hT) hn_aList).mono ?_
  rintro e w12 ⟨⟨v12, rfl, hO12⟩, hE12⟩
  have z12 : w11.heap.size ≤ w12.heap.size := hE12.size
  replace hO3 := hO3.ext hE12
  replace hO4 := hO4.ext hE12
  replace hO5 := hO5.ext hE12
  replace hO6 := hO6.ext hE12
  replace hO7 := hO7.ext hE12
  replace hO8 := hO8.ext hE12
  replace hT := Ext.tr hT hE12
  clear qbz0_0 qbz0_1
  replace bz0 := bz0.ext hE12
  have qbz0_0 : w12.cell? ⟨w.heap.size, 0, none⟩ = some (.int .i64 j_aM) := bz0.cell 0
  have qbz0_1 : w12.cell? ⟨w.heap.size, 1, none⟩ = some (v_aM) := bz0.cell 1
  clear qbxw6_0 qbxw6_1
  replace bxw6 := bxw6.ext hE12
  have qbxw6_0 : w12.cell? ⟨w6.heap.size, 0, none⟩ = some (.int .i64 j_aM) := bxw6.cell 0
  have qbxw6_1 : w12.cell? ⟨w6.heap.size, 1, none⟩ = some (.slice A6 aM.length c6) := bxw6.cell 1
  clear hE12
  go_wp2_with fail
  refine (eqJobS (aList) _ _ _ _ _ _ _ hO7.sl hO12.sl (by omega)).mono ?_
  rintro e w13 ⟨rfl, hE13⟩
  have z13 : w12.heap.size ≤ w13.heap.size := hE13.size
  replace hO3 := hO3.ext hE13
  replace hO4 := hO4.ext hE13
  replace hO5 := hO5.ext hE13
  replace hO6 := hO6.ext hE13
  replace hO7 := hO7.ext hE13
  replace hO8 := hO8.ext hE13
  replace hO12 := hO12.ext hE13
  replace hT := Ext.tr hT hE13
  clear qbz0_0 qbz0_1
  replace bz0 := bz0.ext hE13
  have qbz0_0 : w13.cell? ⟨w.heap.size, 0, none⟩ = some (.int .i64 j_aM) := bz0.cell 0
  have qbz0_1 : w13.cell? ⟨w.heap.size, 1, none⟩ = some (v_aM) := bz0.cell 1
  clear qbxw6_0 qbxw6_1
  replace bxw6 := bxw6.ext hE13
  have qbxw6_0 : w13.cell? ⟨w6.heap.size, 0, none⟩ = some (.int .i64 j_aM) := bxw6.cell 0
  have qbxw6_1 : w13.cell? ⟨w6.heap.size, 1, none⟩ = some (.slice A6 aM.length c6) := bxw6.cell 1
  clear hE13
  clear hO12
  go_wp2_with fail
  refine (markMine (1) j_aM _ _ _ _ _ _ hO6 (by omega) (by have := hO6.2.1; omega)).mono ?_
  rintro e w14 ⟨rfl, hM14, hK14⟩
  have z14 : w13.heap.size ≤ w14.heap.size := hK14.size
  replace hO3 := hO3.keep hK14 (by omega)
  replace hO4 := hO4.keep hK14 (by omega)
  replace hO5 := hO5.keep hK14 (by omega)
  replace hO7 := hO7.keep hK14 (by omega)
  replace hO8 := hO8.keep hK14 (by omega)
  replace hT := hK14.ext hT (by omega)
  clear qbz0_0 qbz0_1
  replace bz0 := bz0.keep hK14 (by omega)
  have qbz0_0 : w14.cell? ⟨w.heap.size, 0, none⟩ = some (.int .i64 j_aM) := bz0.cell 0
  have qbz0_1 : w14.cell? ⟨w.heap.size, 1, none⟩ = some (v_aM) := bz0.cell 1
  clear qbxw6_0 qbxw6_1
  replace bxw6 := bxw6.keep hK14 (by omega)
  have qbxw6_0 : w14.cell? ⟨w6.heap.size, 0, none⟩ = some (.int .i64 j_aM) := bxw6.cell 0
  have qbxw6_1 : w14.cell? ⟨w6.heap.size, 1, none⟩ = some (.slice A6 aM.length c6) := bxw6.cell 1
  clear hK14
  clear hO6
  have hb14 := hM14.2.1
  go_wp2_with fail
  refine (markJobS (1 + 7 * (aM.length : Int)) _ _ _ _ _ _ hO7 (by omega) (by have := hO7.2.1; omega)).mono ?_
  rintro e w15 ⟨rfl, hM15, hK15⟩
  have z15 : w14.heap.size ≤ w15.heap.size := hK15.size
  replace hO3 := hO3.keep hK15 (by omega)
  replace hO4 := hO4.keep hK15 (by omega)
  replace hO5 := hO5.keep hK15 (by omega)
  replace hM14 := hM14.keep hK15 (by omega)
  replace hO8 := hO8.keep hK15 (by omega)
  replace hT := hK15.ext hT (by omega)
  clear qbz0_0 qbz0_1
  replace bz0 := bz0.keep hK15 (by omega)
  have qbz0_0 : w15.cell? ⟨w.heap.size, 0, none⟩ = some (.int .i64 j_aM) := bz0.cell 0
  have qbz0_1 : w15.cell? ⟨w.heap.size, 1, none⟩ = some (v_aM) := bz0.cell 1
  clear qbxw6_0 qbxw6_1
  replace bxw6 := bxw6.keep hK15 (by omega)
  have qbxw6_0 : w15.cell? ⟨w6.heap.size, 0, none⟩ = some (.int .i64 j_aM) := bxw6.cell 0
  have qbxw6_1 : w15.cell? ⟨w6.heap.size, 1, none⟩ = some (.slice A6 aM.length c6) := bxw6.cell 1
  clear hK15
  clear hO7
  have hb15 := hM15.2.1
  go_wp2_with fail
  refine (eqInt64S (airR j_aM aM aList) _ _ _ _ _ _ _ hO8.sl hO5.sl hO8.2.1).mono ?_
  rintro e w16 ⟨rfl, hE16⟩
  have z16 : w15.heap.size ≤ w16.heap.size := hE16.size
  replace hO3 := hO3.ext hE16
  replace hO4 := hO4.ext hE16
  replace hO5 := hO5.ext hE16
  replace hM14 := hM14.ext hE16
  replace hM15 := hM15.ext hE16
  replace hO8 := hO8.ext hE16
  replace hT := Ext.tr hT hE16
  clear qbz0_0 qbz0_1
  replace bz0 := bz0.ext hE16
  have qbz0_0 : w16.cell? ⟨w.heap.size, 0, none⟩ = some (.int .i64 j_aM) := bz0.cell 0
  have qbz0_1 : w16.cell? ⟨w.heap.size, 1, none⟩ = some (v_aM) := bz0.cell 1
  clear qbxw6_0 qbxw6_1
  replace bxw6 := bxw6.ext hE16
  have qbxw6_0 : w16.cell? ⟨w6.heap.size, 0, none⟩ = some (.int .i64 j_aM) := bxw6.cell 0
  have qbxw6_1 : w16.cell? ⟨w6.heap.size, 1, none⟩ = some (.slice A6 aM.length c6) := bxw6.cell 1
  clear hE16
  go_wp2_with fail
  refine (markInt64S (1) _ _ _ _ _ _ hO8 (by omega) (by have := hO8.2.1; omega)).mono ?_
  rintro e w17 ⟨rfl, hM17, hK17⟩
  have z17 : w16.heap.size ≤ w17.heap.size := hK17.size
  replace hO3 := hO3.keep hK17 (by omega)
  replace hO4 := hO4.keep hK17 (by omega)
  replace hO5 := hO5.keep hK17 (by omega)
  replace hM14 := hM14.keep hK17 (by omega)
  replace hM15 := hM15.keep hK17 (by omega)
  replace hT := hK17.ext hT (by omega)
  clear qbz0_0 qbz0_1
  replace bz0 := bz0.keep hK17 (by omega)
  have qbz0_0 : w17.cell? ⟨w.heap.size, 0, none⟩ = some (.int .i64 j_aM) := bz0.cell 0
  have qbz0_1 : w17.cell? ⟨w.heap.size, 1, none⟩ = some (v_aM) := bz0.cell 1
  clear qbxw6_0 qbxw6_1
  replace bxw6 := bxw6.keep hK17 (by omega)
  have qbxw6_0 : w17.cell? ⟨w6.heap.size, 0, none⟩ = some (.int .i64 j_aM) := bxw6.cell 0
  have qbxw6_1 : w17.cell? ⟨w6.heap.size, 1, none⟩ = some (.slice A6 aM.length c6) := bxw6.cell 1
  clear hK17
  clear hO8
  have hb17 := hM17.2.1
  go_wp2_with fail
  refine (heldInt64S (1) _ _ _ _ _ hM17.sl hM17.2.1 (by omega) (by have := hM17.2.1; omega)).mono ?_
  rintro e w18 ⟨rfl, hE18⟩
  have z18 : w17.heap.size ≤ w18.heap.size := hE18.size
  replace hO3 := hO3.ext hE18
  replace hO4 := hO4.ext hE18
  replace hO5 := hO5.ext hE18
  replace hM14 := hM14.ext hE18
  replace hM15 := hM15.ext hE18
  replace hM17 := hM17.ext hE18
  replace hT := Ext.tr hT hE18
  clear qbz0_0 qbz0_1
  replace bz0 := bz0.ext hE18
  have qbz0_0 : w18.cell? ⟨w.heap.size, 0, none⟩ = some (.int .i64 j_aM) := bz0.cell 0
  have qbz0_1 : w18.cell? ⟨w.heap.size, 1, none⟩ = some (v_aM) := bz0.cell 1
  clear qbxw6_0 qbxw6_1
  replace bxw6 := bxw6.ext hE18
  have qbxw6_0 : w18.cell? ⟨w6.heap.size, 0, none⟩ = some (.int .i64 j_aM) := bxw6.cell 0
  have qbxw6_1 : w18.cell? ⟨w6.heap.size, 1, none⟩ = some (.slice A6 aM.length c6) := bxw6.cell 1
  clear hE18
  go_wp2_with fail
  refine (toMine j_aM aM _ _ _ _ (hv_aM.ext hT) hn_aM).mono ?_
  rintro e w19 ⟨⟨v19, rfl, hO19⟩, hE19⟩
  have z19 : w18.heap.size ≤ w19.heap.size := hE19.size
  replace hO3 := hO3.ext hE19
  replace hO4 := hO4.ext hE19
  replace hO5 := hO5.ext hE19
  replace hM14 := hM14.ext hE19
  replace hM15 := hM15.ext hE19
  replace hM17 := hM17.ext hE19
  replace hT := Ext.tr hT hE19
  clear qbz0_0 qbz0_1
  replace bz0 := bz0.ext hE19
  have qbz0_0 : w19.cell? ⟨w.heap.size, 0, none⟩ = some (.int .i64 j_aM) := bz0.cell 0
  have qbz0_1 : w19.cell? ⟨w.heap.size, 1, none⟩ = some (v_aM) := bz0.cell 1
  clear qbxw6_0 qbxw6_1
  replace bxw6 := bxw6.ext hE19
  have qbxw6_0 : w19.cell? ⟨w6.heap.size, 0, none⟩ = some (.int .i64 j_aM) := bxw6.cell 0
  have qbxw6_1 : w19.cell? ⟨w6.heap.size, 1, none⟩ = some (.slice A6 aM.length c6) := bxw6.cell 1
  clear hE19
  go_wp2_with fail
  refine (toJobS aList _ _ _ _ (hv_aList.ext hT) hn_aList).mono ?_
  rintro e w20 ⟨⟨v20, rfl, hO20⟩, hE20⟩
  have z20 : w19.heap.size ≤ w20.heap.size := hE20.size
  replace hO3 := hO3.ext hE20
  replace hO4 := hO4.ext hE20
  replace hO5 := hO5.ext hE20
  replace hM14 := hM14.ext hE20
  replace hM15 := hM15.ext hE20
  replace hM17 := hM17.ext hE20
  replace hO19 := hO19.ext hE20
  replace hT := Ext.tr hT hE20
  clear qbz0_0 qbz0_1
  replace bz0 := bz0.ext hE20
  have qbz0_0 : w20.cell? ⟨w.heap.size, 0, none⟩ = some (.int .i64 j_aM) := bz0.cell 0
  have qbz0_1 : w20.cell? ⟨w.heap.size, 1, none⟩ = some (v_aM) := bz0.cell 1
  clear qbxw6_0 qbxw6_1
  replace bxw6 := bxw6.ext hE20
  have qbxw6_0 : w20.cell? ⟨w6.heap.size, 0, none⟩ = some (.int .i64 j_aM) := bxw6.cell 0
  have qbxw6_1 : w20.cell? ⟨w6.heap.size, 1, none⟩ = some (.slice A6 aM.length c6) := bxw6.cell 1
  clear hE20
  go_wp2_with fail
  refine (implAirNeeds j_aM aM aList _ _ _ _ _ _ _ hO19.sl hs_aM hn_aM hO20.sl hs_aList hn_aList).mono ?_
  rintro e w21 ⟨⟨v21, rfl, hO21⟩, hE21⟩
  have z21 : w20.heap.size ≤ w21.heap.size := hE21.size
  replace hO3 := hO3.ext hE21
  replace hO4 := hO4.ext hE21
  replace hO5 := hO5.ext hE21
  replace hM14 := hM14.ext hE21
  replace hM15 := hM15.ext hE21
  replace hM17 := hM17.ext hE21
  replace hO19 := hO19.ext hE21
  replace hO20 := hO20.ext hE21
  replace hT := Ext.tr hT hE21
  clear qbz0_0 qbz0_1
  replace bz0 := bz0.ext hE21
  have qbz0_0 : w21.cell? ⟨w.heap.size, 0, none⟩ = some (.int .i64 j_aM) := bz0.cell 0
  have qbz0_1 : w21.cell? ⟨w.heap.size, 1, none⟩ = some (v_aM) := bz0.cell 1
  clear qbxw6_0 qbxw6_1
  replace bxw6 := bxw6.ext hE21
  have qbxw6_0 : w21.cell? ⟨w6.heap.size, 0, none⟩ = some (.int .i64 j_aM) := bxw6.cell 0
  have qbxw6_1 : w21.cell? ⟨w6.heap.size, 1, none⟩ = some (.slice A6 aM.length c6) := bxw6.cell 1
  clear hE21
  go_wp2_with fail
  refine (eqInt64S (airR j_aM aM aList) _ _ _ _ _ _ _ hO21.sl hO5.sl hO21.2.1).mono ?_
  rintro e w22 ⟨rfl, hE22⟩
  have z22 : w21.heap.size ≤ w22.heap.size := hE22.size
  replace hO3 := hO3.ext hE22
  replace hO4 := hO4.ext hE22
  replace hO5 := hO5.ext hE22
  replace hM14 := hM14.ext hE22
  replace hM15 := hM15.ext hE22
  replace hM17 := hM17.ext hE22
  replace hO19 := hO19.ext hE22
  replace hO20 := hO20.ext hE22
  replace hO21 := hO21.ext hE22
  replace hT := Ext.tr hT hE22
  clear qbz0_0 qbz0_1
  replace bz0 := bz0.ext hE22
  have qbz0_0 : w22.cell? ⟨w.heap.size, 0, none⟩ = some (.int .i64 j_aM) := bz0.cell 0
  have qbz0_1 : w22.cell? ⟨w.heap.size, 1, none⟩ = some (v_aM) := bz0.cell 1
  clear qbxw6_0 qbxw6_1
  replace bxw6 := bxw6.ext hE22
  have qbxw6_0 : w22.cell? ⟨w6.heap.size, 0, none⟩ = some (.int .i64 j_aM) := bxw6.cell 0
  have qbxw6_1 : w22.cell? ⟨w6.heap.size, 1, none⟩ = some (.slice A6 aM.length c6) := bxw6.cell 1
  clear hE22
  go_wp2_with fail
  refine (heldInt64S (1) _ _ _ _ _ hM17.sl hM17.2.1 (by omega) (by have := hM17.2.1; omega)).mono ?_
  rintro e w23 ⟨rfl, hE23⟩
  have z23 : w22.heap.size ≤ w23.heap.size := hE23.size
  replace hO3 := hO3.ext hE23
  replace hO4 := hO4.ext hE23
  replace hO5 := hO5.ext hE23
  replace hM14 := hM14.ext hE23
  replace hM15 := hM15.ext hE23
  replace hM17 := hM17.ext hE23
  replace hO19 := hO19.ext hE23
  replace hO20 := hO20.ext hE23
  replace hO21 := hO21.ext hE23
  replace hT := Ext.tr hT hE23
  clear qbz0_0 qbz0_1
  replace bz0 := bz0.ext hE23
  have qbz0_0 : w23.cell? ⟨w.heap.size, 0, none⟩ = some (.int .i64 j_aM) := bz0.cell 0
  have qbz0_1 : w23.cell? ⟨w.heap.size, 1, none⟩ = some (v_aM) := bz0.cell 1
  clear qbxw6_0 qbxw6_1
  replace bxw6 := bxw6.ext hE23
  have qbxw6_0 : w23.cell? ⟨w6.heap.size, 0, none⟩ = some (.int .i64 j_aM) := bxw6.cell 0
  have qbxw6_1 : w23.cell? ⟨w6.heap.size, 1, none⟩ = some (.slice A6 aM.length c6) := bxw6.cell 1
  clear hE23
  go_wp2
  go_ret
  exact ⟨rfl, hT⟩
end Go.Proofs.Ytojmfjdbggpllaa
