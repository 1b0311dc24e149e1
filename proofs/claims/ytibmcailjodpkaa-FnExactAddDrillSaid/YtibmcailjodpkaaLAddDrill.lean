/- The walk of the law FnExactAddDrill: it returns true; nothing that was there has turned. -/
import Derived.Test.YtibmcailjodpkaaAddI
namespace Go.Proofs.Ytibmcailjodpkaa
set_option linter.unusedVariables false
open Go.RowKit
set_option maxRecDepth 100000 in
set_option maxHeartbeats 1000000 in
theorem lawAddDrill (w : World) (aList : List Drill) (v_aList : Value) (hv_aList : Sl 0 w.heap.size w 5 v_aList aList.length (flat Drill.enc aList)) (hs_aList : ∀ x ∈ aList, x.crew.size ≤ maxLen) (aX : Drill) (hs_aX : aX.crew.size ≤ maxLen) :
    Calls Try.prog 9 #[v_aList, .agg #[.int .i64 aX.day, .string aX.crew, .int .i64 aX.persons, .int .i64 aX.seconds, .int .i64 aX.missing]] w fun e w' => e = .returned (.bool true) ∧ Ext w w' := by
  go_enter Try.func9, Try.ntmps9
  have hT : Ext w w := Below.refl _ _
  go_wp2_with fail
  generalize hG : (w.alloc _) = wz
  replace hT : Ext w wz := by rw [← hG]; exact Ext.new _ _
  have zz : w.heap.size + 1 ≤ wz.heap.size := by rw [← hG]; simp
  have bz0 : Blk wz (w.heap.size) 48 #[.int .i64 aX.day, .string aX.crew, .int .i64 aX.persons, .int .i64 aX.seconds, .int .i64 aX.missing] := by
    rw [← hG]
    have h1 := Blk.new w 48 #[.int .i64 aX.day, .string aX.crew, .int .i64 aX.persons, .int .i64 aX.seconds, .int .i64 aX.missing]
    simpa using h1
  clear hG
  have qbz0_0 : wz.cell? ⟨w.heap.size, 0, none⟩ = some (.int .i64 aX.day) := bz0.cell 0
  have qbz0_1 : wz.cell? ⟨w.heap.size, 1, none⟩ = some (.string aX.crew) := bz0.cell 1
  have qbz0_2 : wz.cell? ⟨w.heap.size, 2, none⟩ = some (.int .i64 aX.persons) := bz0.cell 2
  have qbz0_3 : wz.cell? ⟨w.heap.size, 3, none⟩ = some (.int .i64 aX.seconds) := bz0.cell 3
  have qbz0_4 : wz.cell? ⟨w.heap.size, 4, none⟩ = some (.int .i64 aX.missing) := bz0.cell 4
  refine (szDrillS aList _ _ _ _ _ (hv_aList.ext hT) hs_aList ⟨by omega, by omega⟩).mono ?_
  rintro e w1 ⟨⟨r1, rfl, hr1⟩, hE1⟩
  have z1 : wz.heap.size ≤ w1.heap.size := hE1.size
  replace hT := Ext.tr hT hE1
  clear qbz0_0 qbz0_1 qbz0_2 qbz0_3 qbz0_4
  replace bz0 := bz0.ext hE1
  have qbz0_0 : w1.cell? ⟨w.heap.size, 0, none⟩ = some (.int .i64 aX.day) := bz0.cell 0
  have qbz0_1 : w1.cell? ⟨w.heap.size, 1, none⟩ = some (.string aX.crew) := bz0.cell 1
  have qbz0_2 : w1.cell? ⟨w.heap.size, 2, none⟩ = some (.int .i64 aX.persons) := bz0.cell 2
  have qbz0_3 : w1.cell? ⟨w.heap.size, 3, none⟩ = some (.int .i64 aX.seconds) := bz0.cell 3
  have qbz0_4 : w1.cell? ⟨w.heap.size, 4, none⟩ = some (.int .i64 aX.missing) := bz0.cell 4
  clear hE1
  by_cases hn1 : r1 < 0
  · go_wp2
    go_ret
    exact ⟨rfl, hT⟩
  obtain ⟨hr1a, hn_aList, hb_aList⟩ := hr1 (by omega)
  have hr1b : 0 ≤ r1 := by omega
  go_wp2_with fail
  refine (szDrill aX r1 _ hs_aX ⟨by omega, by omega⟩).mono ?_
  rintro e w2 ⟨rfl, hE2⟩
  have z2 : w1.heap.size ≤ w2.heap.size := hE2.size
  replace hT := Ext.tr hT hE2
  clear qbz0_0 qbz0_1 qbz0_2 qbz0_3 qbz0_4
  replace bz0 := bz0.ext hE2
  have qbz0_0 : w2.cell? ⟨w.heap.size, 0, none⟩ = some (.int .i64 aX.day) := bz0.cell 0
  have qbz0_1 : w2.cell? ⟨w.heap.size, 1, none⟩ = some (.string aX.crew) := bz0.cell 1
  have qbz0_2 : w2.cell? ⟨w.heap.size, 2, none⟩ = some (.int .i64 aX.persons) := bz0.cell 2
  have qbz0_3 : w2.cell? ⟨w.heap.size, 3, none⟩ = some (.int .i64 aX.seconds) := bz0.cell 3
  have qbz0_4 : w2.cell? ⟨w.heap.size, 4, none⟩ = some (.int .i64 aX.missing) := bz0.cell 4
  clear hE2
  by_cases hn2 : szF (r1) aX.crew.size < 0
  · go_wp2
    go_ret
    exact ⟨rfl, hT⟩
  have hr2 := szF_bd _ _ hn2
  obtain ⟨hr2e, hr2b⟩ := hr2
  rw [hr2e]
  clear hr2e hn2
  go_wp2_with fail
  clear qbz0_0 qbz0_1 qbz0_2 qbz0_3 qbz0_4
  have qbz0_0 : ∀ W, Ext w2 W → W.cell? ⟨w.heap.size, 0, none⟩ = some (.int .i64 aX.day) := fun W hW => (bz0.ext hW).cell 0
  have qbz0_1 : ∀ W, Ext w2 W → W.cell? ⟨w.heap.size, 1, none⟩ = some (.string aX.crew) := fun W hW => (bz0.ext hW).cell 1
  have qbz0_2 : ∀ W, Ext w2 W → W.cell? ⟨w.heap.size, 2, none⟩ = some (.int .i64 aX.persons) := fun W hW => (bz0.ext hW).cell 2
  have qbz0_3 : ∀ W, Ext w2 W → W.cell? ⟨w.heap.size, 3, none⟩ = some (.int .i64 aX.seconds) := fun W hW => (bz0.ext hW).cell 3
  have qbz0_4 : ∀ W, Ext w2 W → W.cell? ⟨w.heap.size, 4, none⟩ = some (.int .i64 aX.missing) := fun W hW => (bz0.ext hW).cell 4
  go_region_held3 (fun W => Ext w2 W) (first | assumption | exact Ext.drewN _ 1) (first | (go_at_call 36; have hs5 := hS4; refine (specAddDrill aList aX _ _ _ _ hO3.sl hO3.shape hs_aList hn_aList hs_aX).mono ?_; rintro e w5 ⟨⟨v5, rfl, hO5⟩, hE5⟩; have hS5 : Ext w2 w5 := Ext.tr hS4 hE5; have z5 : w4.heap.size ≤ w5.heap.size := hE5.size; replace hO3 := hO3.ext hE5; replace hT := Ext.tr hT hE5) | (go_at_call 37; have hs4 := hS3; refine (toDrill aX _).mono ?_; rintro e w4 ⟨rfl, hE4⟩; have hS4 : Ext w2 w4 := Ext.tr hS3 hE4; have z4 : w3.heap.size ≤ w4.heap.size := hE4.size; replace hO3 := hO3.ext hE4; replace hT := Ext.tr hT hE4) | (go_at_call 13; have hD3 : Ext w2 w2.drew := Ext.drewN _ 1; replace hT := Ext.tr hT hD3; refine (toDrillS aList _ _ _ _ (hv_aList.ext hT) hn_aList).mono ?_; rintro e w3 ⟨⟨v3, rfl, hO3⟩, hE3⟩; have hS3 : Ext w2 w3 := Ext.tr hD3 hE3; have z3 : w2.heap.size ≤ w3.heap.size := hS3.size; replace hO3 : Own w2.heap.size w3.heap.size w3 _ _ _ _ _ := hO3; replace hT := Ext.tr hT hE3))
  clear qbz0_0 qbz0_1 qbz0_2 qbz0_3 qbz0_4
  replace bz0 := bz0.ext hS5
  have qbz0_0 : w5.cell? ⟨w.heap.size, 0, none⟩ = some (.int .i64 aX.day) := bz0.cell 0
  have qbz0_1 : w5.cell? ⟨w.heap.size, 1, none⟩ = some (.string aX.crew) := bz0.cell 1
  have qbz0_2 : w5.cell? ⟨w.heap.size, 2, none⟩ = some (.int .i64 aX.persons) := bz0.cell 2
  have qbz0_3 : w5.cell? ⟨w.heap.size, 3, none⟩ = some (.int .i64 aX.seconds) := bz0.cell 3
  have qbz0_4 : w5.cell? ⟨w.heap.size, 4, none⟩ = some (.int .i64 aX.missing) := bz0.cell 4
  go_wp2_with fail
  refine (toDrillS aList _ _ _ _ (hv_aList.ext hT) hn_aList).mono ?_
  rintro e w6 ⟨⟨v6, rfl, hO6⟩, hE6⟩
  have z6 : w5.heap.size ≤ w6.heap.size := hE6.size
  replace hO3 := hO3.ext hE6
  replace hO5 := hO5.ext hE6
  replace hT := Ext.tr hT hE6
  clear qbz0_0 qbz0_1 qbz0_2 qbz0_3 qbz0_4
  replace bz0 := bz0.ext hE6
  have qbz0_0 : w6.cell? ⟨w.heap.size, 0, none⟩ = some (.int .i64 aX.day) := bz0.cell 0
  have qbz0_1 : w6.cell? ⟨w.heap.size, 1, none⟩ = some (.string aX.crew) := bz0.cell 1
  have qbz0_2 : w6.cell? ⟨w.heap.size, 2, none⟩ = some (.int .i64 aX.persons) := bz0.cell 2
  have qbz0_3 : w6.cell? ⟨w.heap.size, 3, none⟩ = some (.int .i64 aX.seconds) := bz0.cell 3
  have qbz0_4 : w6.cell? ⟨w.heap.size, 4, none⟩ = some (.int .i64 aX.missing) := bz0.cell 4
  clear hE6
  go_wp2_with fail
  refine (toDrill aX _).mono ?_
  rintro e w7 ⟨rfl, hE7⟩
  have z7 : w6.heap.size ≤ w7.heap.size := hE7.size
  replace hO3 := hO3.ext hE7
  replace hO5 := hO5.ext hE7
  replace hO6 := hO6.ext hE7
  replace hT := Ext.tr hT hE7
  clear qbz0_0 qbz0_1 qbz0_2 qbz0_3 qbz0_4
  replace bz0 := bz0.ext hE7
  have qbz0_0 : w7.cell? ⟨w.heap.size, 0, none⟩ = some (.int .i64 aX.day) := bz0.cell 0
  have qbz0_1 : w7.cell? ⟨w.heap.size, 1, none⟩ = some (.string aX.crew) := bz0.cell 1
  have qbz0_2 : w7.cell? ⟨w.heap.size, 2, none⟩ = some (.int .i64 aX.persons) := bz0.cell 2
  have qbz0_3 : w7.cell? ⟨w.heap.size, 3, none⟩ = some (.int .i64 aX.seconds) := bz0.cell 3
  have qbz0_4 : w7.cell? ⟨w.heap.size, 4, none⟩ = some (.int .i64 aX.missing) := bz0.cell 4
  clear hE7
  go_wp2_with fail
  refine (implAddDrill aList aX _ _ _ _ hO6.sl hO6.shape hs_aList hn_aList hs_aX).mono ?_
  rintro e w8 ⟨⟨v8, rfl, hO8⟩, hE8⟩
  have z8 : w7.heap.size ≤ w8.heap.size := hE8.size
  replace hO3 := hO3.ext hE8
  replace hO5 := hO5.ext hE8
  replace hO6 := hO6.ext hE8
  replace hT := Ext.tr hT hE8
  clear qbz0_0 qbz0_1 qbz0_2 qbz0_3 qbz0_4
  replace bz0 := bz0.ext hE8
  have qbz0_0 : w8.cell? ⟨w.heap.size, 0, none⟩ = some (.int .i64 aX.day) := bz0.cell 0
  have qbz0_1 : w8.cell? ⟨w.heap.size, 1, none⟩ = some (.string aX.crew) := bz0.cell 1
  have qbz0_2 : w8.cell? ⟨w.heap.size, 2, none⟩ = some (.int .i64 aX.persons) := bz0.cell 2
  have qbz0_3 : w8.cell? ⟨w.heap.size, 3, none⟩ = some (.int .i64 aX.seconds) := bz0.cell 3
  have qbz0_4 : w8.cell? ⟨w.heap.size, 4, none⟩ = some (.int .i64 aX.missing) := bz0.cell 4
  clear hE8
  go_wp2_with fail
  refine (eqDrillS ((addR aList aX).1) _ _ _ _ _ _ _ hO8.sl hO5.sl hO8.2.1).mono ?_
  rintro e w9 ⟨rfl, hE9⟩
  have z9 : w8.heap.size ≤ w9.heap.size := hE9.size
  replace hO3 := hO3.ext hE9
  replace hO5 := hO5.ext hE9
  replace hO6 := hO6.ext hE9
  replace hO8 := hO8.ext hE9
  replace hT := Ext.tr hT hE9
  clear qbz0_0 qbz0_1 qbz0_2 qbz0_3 qbz0_4
  replace bz0 := bz0.ext hE9
  have qbz0_0 : w9.cell? ⟨w.heap.size, 0, none⟩ = some (.int .i64 aX.day) := bz0.cell 0
  have qbz0_1 : w9.cell? ⟨w.heap.size, 1, none⟩ = some (.string aX.crew) := bz0.cell 1
  have qbz0_2 : w9.cell? ⟨w.heap.size, 2, none⟩ = some (.int .i64 aX.persons) := bz0.cell 2
  have qbz0_3 : w9.cell? ⟨w.heap.size, 3, none⟩ = some (.int .i64 aX.seconds) := bz0.cell 3
  have qbz0_4 : w9.cell? ⟨w.heap.size, 4, none⟩ = some (.int .i64 aX.missing) := bz0.cell 4
  clear hE9
  go_wp2_with fail
  refine (toDrillS aList _ _ _ _ (hv_aList.ext hT) hn_aList).mono ?_
  rintro e w10 ⟨⟨v10, rfl, hO10⟩, hE10⟩
  have z10 : w9.heap.size ≤ w10.heap.size := hE10.size
  replace hO3 := hO3.ext hE10
  replace hO5 := hO5.ext hE10
  replace hO6 := hO6.ext hE10
  replace hO8 := hO8.ext hE10
  replace hT := Ext.tr hT hE10
  clear qbz0_0 qbz0_1 qbz0_2 qbz0_3 qbz0_4
  replace bz0 := bz0.ext hE10
  have qbz0_0 : w10.cell? ⟨w.heap.size, 0, none⟩ = some (.int .i64 aX.day) := bz0.cell 0
  have qbz0_1 : w10.cell? ⟨w.heap.size, 1, none⟩ = some (.string aX.crew) := bz0.cell 1
  have qbz0_2 : w10.cell? ⟨w.heap.size, 2, none⟩ = some (.int .i64 aX.persons) := bz0.cell 2
  have qbz0_3 : w10.cell? ⟨w.heap.size, 3, none⟩ = some (.int .i64 aX.seconds) := bz0.cell 3
  have qbz0_4 : w10.cell? ⟨w.heap.size, 4, none⟩ = some (.int .i64 aX.missing) := bz0.cell 4
  clear hE10
  go_wp2_with fail
  refine (eqDrillS (aList) _ _ _ _ _ _ _ hO6.sl hO10.sl (by omega)).mono ?_
  rintro e w11 ⟨rfl, hE11⟩
  have z11 : w10.heap.size ≤ w11.heap.size := hE11.size
  replace hO3 := hO3.ext hE11
  replace hO5 := hO5.ext hE11
  replace hO6 := hO6.ext hE11
  replace hO8 := hO8.ext hE11
  replace hO10 := hO10.ext hE11
  replace hT := Ext.tr hT hE11
  clear qbz0_0 qbz0_1 qbz0_2 qbz0_3 qbz0_4
  replace bz0 := bz0.ext hE11
  have qbz0_0 : w11.cell? ⟨w.heap.size, 0, none⟩ = some (.int .i64 aX.day) := bz0.cell 0
  have qbz0_1 : w11.cell? ⟨w.heap.size, 1, none⟩ = some (.string aX.crew) := bz0.cell 1
  have qbz0_2 : w11.cell? ⟨w.heap.size, 2, none⟩ = some (.int .i64 aX.persons) := bz0.cell 2
  have qbz0_3 : w11.cell? ⟨w.heap.size, 3, none⟩ = some (.int .i64 aX.seconds) := bz0.cell 3
  have qbz0_4 : w11.cell? ⟨w.heap.size, 4, none⟩ = some (.int .i64 aX.missing) := bz0.cell 4
  clear hE11
  clear hO10
  go_wp2_with fail
  refine (markDrillS (1) _ _ _ _ _ _ hO6 (by omega) (by have := hO6.2.1; omega)).mono ?_
  rintro e w12 ⟨rfl, hM12, hK12⟩
  have z12 : w11.heap.size ≤ w12.heap.size := hK12.size
  replace hO3 := hO3.keep hK12 (by omega)
  replace hO5 := hO5.keep hK12 (by omega)
  replace hO8 := hO8.keep hK12 (by omega)
  replace hT := hK12.ext hT (by omega)
  clear qbz0_0 qbz0_1 qbz0_2 qbz0_3 qbz0_4
  replace bz0 := bz0.keep hK12 (by omega)
  have qbz0_0 : w12.cell? ⟨w.heap.size, 0, none⟩ = some (.int .i64 aX.day) := bz0.cell 0
  have qbz0_1 : w12.cell? ⟨w.heap.size, 1, none⟩ = some (.string aX.crew) := bz0.cell 1
  have qbz0_2 : w12.cell? ⟨w.heap.size, 2, none⟩ = some (.int .i64 aX.persons) := bz0.cell 2
  have qbz0_3 : w12.cell? ⟨w.heap.size, 3, none⟩ = some (.int .i64 aX.seconds) := bz0.cell 3
  have qbz0_4 : w12.cell? ⟨w.heap.size, 4, none⟩ = some (.int .i64 aX.missing) := bz0.cell 4
  clear hK12
  clear hO6
  have hb12 := hM12.2.1
  go_wp2_with fail
  refine (eqDrillS ((addR aList aX).1) _ _ _ _ _ _ _ hO8.sl hO5.sl hO8.2.1).mono ?_
  rintro e w13 ⟨rfl, hE13⟩
  have z13 : w12.heap.size ≤ w13.heap.size := hE13.size
  replace hO3 := hO3.ext hE13
  replace hO5 := hO5.ext hE13
  replace hM12 := hM12.ext hE13
  replace hO8 := hO8.ext hE13
  replace hT := Ext.tr hT hE13
  clear qbz0_0 qbz0_1 qbz0_2 qbz0_3 qbz0_4
  replace bz0 := bz0.ext hE13
  have qbz0_0 : w13.cell? ⟨w.heap.size, 0, none⟩ = some (.int .i64 aX.day) := bz0.cell 0
  have qbz0_1 : w13.cell? ⟨w.heap.size, 1, none⟩ = some (.string aX.crew) := bz0.cell 1
  have qbz0_2 : w13.cell? ⟨w.heap.size, 2, none⟩ = some (.int .i64 aX.persons) := bz0.cell 2
  have qbz0_3 : w13.cell? ⟨w.heap.size, 3, none⟩ = some (.int .i64 aX.seconds) := bz0.cell 3
  have qbz0_4 : w13.cell? ⟨w.heap.size, 4, none⟩ = some (.int .i64 aX.missing) := bz0.cell 4
  clear hE13
  go_wp2_with fail
  refine (markDrillS (1) _ _ _ _ _ _ hO8 (by omega) (by have := hO8.2.1; omega)).mono ?_
  rintro e w14 ⟨rfl, hM14, hK14⟩
  have z14 : w13.heap.size ≤ w14.heap.size := hK14.size
  replace hO3 := hO3.keep hK14 (by omega)
  replace hO5 := hO5.keep hK14 (by omega)
  replace hM12 := hM12.keep hK14 (by omega)
  replace hT := hK14.ext hT (by omega)
  clear qbz0_0 qbz0_1 qbz0_2 qbz0_3 qbz0_4
  replace bz0 := bz0.keep hK14 (by omega)
  have qbz0_0 : w14.cell? ⟨w.heap.size, 0, none⟩ = some (.int .i64 aX.day) := bz0.cell 0
  have qbz0_1 : w14.cell? ⟨w.heap.size, 1, none⟩ = some (.string aX.crew) := bz0.cell 1
  have qbz0_2 : w14.cell? ⟨w.heap.size, 2, none⟩ = some (.int .i64 aX.persons) := bz0.cell 2
  have qbz0_3 : w14.cell? ⟨w.heap.size, 3, none⟩ = some (.int .i64 aX.seconds) := bz0.cell 3
  have qbz0_4 : w14.cell? ⟨w.heap.size, 4, none⟩ = some (.int .i64 aX.missing) := bz0.cell 4
  clear hK14
  clear hO8
  have hb14 := hM14.2.1
  go_wp2_with fail
  refine (heldDrillS (1) _ _ _ _ _ hM14.sl hM14.2.1 (by omega) (by have := hM14.2.1; omega)).mono ?_
  rintro e w15 ⟨rfl, hE15⟩
  have z15 : w14.heap.size ≤ w15.heap.size := hE15.size
  replace hO3 := hO3.ext hE15
  replace hO5 := hO5.ext hE15
  replace hM12 := hM12.ext hE15
  replace hM14 := hM14.ext hE15
  replace hT := Ext.tr hT hE15
  clear qbz0_0 qbz0_1 qbz0_2 qbz0_3 qbz0_4
  replace bz0 := bz0.ext hE15
  have qbz0_0 : w15.cell? ⟨w.heap.size, 0, none⟩ = some (.int .i64 aX.day) := bz0.cell 0
  have qbz0_1 : w15.cell? ⟨w.heap.size, 1, none⟩ = some (.string aX.crew) := bz0.cell 1
  have qbz0_2 : w15.cell? ⟨w.heap.size, 2, none⟩ = some (.int .i64 aX.persons) := bz0.cell 2
  have qbz0_3 : w15.cell? ⟨w.heap.size, 3, none⟩ = some (.int .i64 aX.seconds) := bz0.cell 3
  have qbz0_4 : w15.cell? ⟨w.heap.size, 4, none⟩ = some (.int .i64 aX.missing) := bz0.cell 4
  clear hE15
  go_wp2_with fail
  clear qbz0_0 qbz0_1 qbz0_2 qbz0_3 qbz0_4
  have qbz0_0 : ∀ W, Ext w15 W → W.cell? ⟨w.heap.size, 0, none⟩ = some (.int .i64 aX.day) := fun W hW => (bz0.ext hW).cell 0
  have qbz0_1 : ∀ W, Ext w15 W → W.cell? ⟨w.heap.size, 1, none⟩ = some (.string aX.crew) := fun W hW => (bz0.ext hW).cell 1
  have qbz0_2 : ∀ W, Ext w15 W → W.cell? ⟨w.heap.size, 2, none⟩ = some (.int .i64 aX.persons) := fun W hW => (bz0.ext hW).cell 2
  have qbz0_3 : ∀ W, Ext w15 W → W.cell? ⟨w.heap.size, 3, none⟩ = some (.int .i64 aX.seconds) := fun W hW => (bz0.ext hW).cell 3
  have qbz0_4 : ∀ W, Ext w15 W → W.cell? ⟨w.heap.size, 4, none⟩ = some (.int .i64 aX.missing) := fun W hW => (bz0.ext hW).cell 4
  go_region_held3 (fun W => Ext w15 W) (first | assumption | exact Ext.drewN _ 1) (first | (go_at_call 38; have hs18 := hS17; refine (implAddDrill aList aX _ _ _ _ hO16.sl hO16.shape hs_aList hn_aList hs_aX).mono ?_; rintro e w18 ⟨⟨v18, rfl, hO18⟩, hE18⟩; have hS18 : Ext w15 w18 := Ext.tr hS17 hE18; have z18 : w17.heap.size ≤ w18.heap.size := hE18.size; replace hO3 := hO3.ext hE18; replace hO5 := hO5.ext hE18; replace hM12 := hM12.ext hE18; replace hM14 := hM14.ext hE18; replace hO16 := hO16.ext hE18; replace hT := Ext.tr hT hE18) | (go_at_call 37; have hs17 := hS16; refine (toDrill aX _).mono ?_; rintro e w17 ⟨rfl, hE17⟩; have hS17 : Ext w15 w17 := Ext.tr hS16 hE17; have z17 : w16.heap.size ≤ w17.heap.size := hE17.size; replace hO3 := hO3.ext hE17; replace hO5 := hO5.ext hE17; replace hM12 := hM12.ext hE17; replace hM14 := hM14.ext hE17; replace hO16 := hO16.ext hE17; replace hT := Ext.tr hT hE17) | (go_at_call 13; have hD16 : Ext w15 w15.drew := Ext.drewN _ 1; replace hT := Ext.tr hT hD16; replace hO3 := hO3.ext hD16; replace hO5 := hO5.ext hD16; replace hM12 := hM12.ext hD16; replace hM14 := hM14.ext hD16; refine (toDrillS aList _ _ _ _ (hv_aList.ext hT) hn_aList).mono ?_; rintro e w16 ⟨⟨v16, rfl, hO16⟩, hE16⟩; have hS16 : Ext w15 w16 := Ext.tr hD16 hE16; have z16 : w15.heap.size ≤ w16.heap.size := hS16.size; replace hO16 : Own w15.heap.size w16.heap.size w16 _ _ _ _ _ := hO16; replace hO3 := hO3.ext hE16; replace hO5 := hO5.ext hE16; replace hM12 := hM12.ext hE16; replace hM14 := hM14.ext hE16; replace hT := Ext.tr hT hE16))
  clear qbz0_0 qbz0_1 qbz0_2 qbz0_3 qbz0_4
  replace bz0 := bz0.ext hS18
  have qbz0_0 : w18.cell? ⟨w.heap.size, 0, none⟩ = some (.int .i64 aX.day) := bz0.cell 0
  have qbz0_1 : w18.cell? ⟨w.heap.size, 1, none⟩ = some (.string aX.crew) := bz0.cell 1
  have qbz0_2 : w18.cell? ⟨w.heap.size, 2, none⟩ = some (.int .i64 aX.persons) := bz0.cell 2
  have qbz0_3 : w18.cell? ⟨w.heap.size, 3, none⟩ = some (.int .i64 aX.seconds) := bz0.cell 3
  have qbz0_4 : w18.cell? ⟨w.heap.size, 4, none⟩ = some (.int .i64 aX.missing) := bz0.cell 4
  go_wp2_with fail
  refine (eqDrillS ((addR aList aX).1) _ _ _ _ _ _ _ hO18.sl hO5.sl hO18.2.1).mono ?_
  rintro e w19 ⟨rfl, hE19⟩
  have z19 : w18.heap.size ≤ w19.heap.size := hE19.size
  replace hO3 := hO3.ext hE19
  replace hO5 := hO5.ext hE19
  replace hM12 := hM12.ext hE19
  replace hM14 := hM14.ext hE19
  replace hO16 := hO16.ext hE19
  replace hO18 := hO18.ext hE19
  replace hT := Ext.tr hT hE19
  clear qbz0_0 qbz0_1 qbz0_2 qbz0_3 qbz0_4
  replace bz0 := bz0.ext hE19
  have qbz0_0 : w19.cell? ⟨w.heap.size, 0, none⟩ = some (.int .i64 aX.day) := bz0.cell 0
  have qbz0_1 : w19.cell? ⟨w.heap.size, 1, none⟩ = some (.string aX.crew) := bz0.cell 1
  have qbz0_2 : w19.cell? ⟨w.heap.size, 2, none⟩ = some (.int .i64 aX.persons) := bz0.cell 2
  have qbz0_3 : w19.cell? ⟨w.heap.size, 3, none⟩ = some (.int .i64 aX.seconds) := bz0.cell 3
  have qbz0_4 : w19.cell? ⟨w.heap.size, 4, none⟩ = some (.int .i64 aX.missing) := bz0.cell 4
  clear hE19
  go_wp2_with fail
  refine (heldDrillS (1) _ _ _ _ _ hM14.sl hM14.2.1 (by omega) (by have := hM14.2.1; omega)).mono ?_
  rintro e w20 ⟨rfl, hE20⟩
  have z20 : w19.heap.size ≤ w20.heap.size := hE20.size
  replace hO3 := hO3.ext hE20
  replace hO5 := hO5.ext hE20
  replace hM12 := hM12.ext hE20
  replace hM14 := hM14.ext hE20
  replace hO16 := hO16.ext hE20
  replace hO18 := hO18.ext hE20
  replace hT := Ext.tr hT hE20
  clear qbz0_0 qbz0_1 qbz0_2 qbz0_3 qbz0_4
  replace bz0 := bz0.ext hE20
  have qbz0_0 : w20.cell? ⟨w.heap.size, 0, none⟩ = some (.int .i64 aX.day) := bz0.cell 0
  have qbz0_1 : w20.cell? ⟨w.heap.size, 1, none⟩ = some (.string aX.crew) := bz0.cell 1
  have qbz0_2 : w20.cell? ⟨w.heap.size, 2, none⟩ = some (.int .i64 aX.persons) := bz0.cell 2
  have qbz0_3 : w20.cell? ⟨w.heap.size, 3, none⟩ = some (.int .i64 aX.seconds) := bz0.cell 3
  have qbz0_4 : w20.cell? ⟨w.heap.size, 4, none⟩ = some (.int .i64 aX.missing) := bz0.cell 4
  clear hE20
  go_wp2
  go_ret
  exact ⟨rfl, hT⟩
end Go.Proofs.Ytibmcailjodpkaa
