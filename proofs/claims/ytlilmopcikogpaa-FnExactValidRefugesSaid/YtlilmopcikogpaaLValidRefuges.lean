/- The walk of the law FnExactValidRefuges: it returns true; nothing that was there has turned. -/
import Derived.Test.YtlilmopcikogpaaMRefuge
namespace Go.Proofs.Ytlilmopcikogpaa
set_option linter.unusedVariables false
open Go.RowKit
set_option maxRecDepth 100000 in
set_option maxHeartbeats 1000000 in
theorem lawValidRefuges (w : World) (j_aM : Int) (aM : List Airway) (v_aM : Value) (hv_aM : Sl 0 w.heap.size w 7 v_aM aM.length (flat Airway.enc aM)) (hs_aM : ∀ x ∈ aM, x.id.size ≤ maxLen) (aList : List Refuge) (v_aList : Value) (hv_aList : Sl 0 w.heap.size w 4 v_aList aList.length (flat Refuge.enc aList)) (hs_aList : ∀ x ∈ aList, x.id.size ≤ maxLen) :
    Calls Try.prog 8 #[.agg #[.int .i64 j_aM, v_aM], v_aList] w fun e w' => e = .returned (.bool true) ∧ Ext w w' := by
  go_enter Try.func8, Try.ntmps8
  have hT : Ext w w := Below.refl _ _
  go_wp2_with fail
  generalize hG : (w.alloc _) = wz
  replace hT : Ext w wz := by rw [← hG]; exact Ext.new _ _
  have zz : w.heap.size + 1 ≤ wz.heap.size := by rw [← hG]; simp
  have bz0 : Blk wz (w.heap.size) 24 #[.int .i64 j_aM, v_aM] := by
    rw [← hG]
    have h1 := Blk.new w 24 #[.int .i64 j_aM, v_aM]
    simpa using h1
  clear hG
  have qbz0_0 : wz.cell? ⟨w.heap.size, 0, none⟩ = some (.int .i64 j_aM) := bz0.cell 0
  have qbz0_1 : wz.cell? ⟨w.heap.size, 1, none⟩ = some (v_aM) := bz0.cell 1
  refine (szMine j_aM aM _ _ _ _ _ (hv_aM.ext hT) hs_aM ⟨by omega, by omega⟩).mono ?_
  rintro e w1 ⟨⟨r1, rfl, hr1⟩, hE1⟩
  have z1 : wz.heap.size ≤ w1.heap.size := hE1.size
  replace hT := Ext.tr hT hE1
  clear qbz0_0 qbz0_1
  replace bz0 := bz0.ext hE1
  have qbz0_0 : w1.cell? ⟨w.heap.size, 0, none⟩ = some (.int .i64 j_aM) := bz0.cell 0
  have qbz0_1 : w1.cell? ⟨w.heap.size, 1, none⟩ = some (v_aM) := bz0.cell 1
  clear hE1
  by_cases hn1 : r1 < 0
  · go_wp2
    go_ret
    exact ⟨rfl, hT⟩
  obtain ⟨hr1a, hn_aM, hb_aM⟩ := hr1 (by omega)
  have hr1b : 0 ≤ r1 := by omega
  go_wp2_with fail
  refine (szRefugeS aList _ _ _ _ _ (hv_aList.ext hT) hs_aList ⟨by omega, by omega⟩).mono ?_
  rintro e w2 ⟨⟨r2, rfl, hr2⟩, hE2⟩
  have z2 : w1.heap.size ≤ w2.heap.size := hE2.size
  replace hT := Ext.tr hT hE2
  clear qbz0_0 qbz0_1
  replace bz0 := bz0.ext hE2
  have qbz0_0 : w2.cell? ⟨w.heap.size, 0, none⟩ = some (.int .i64 j_aM) := bz0.cell 0
  have qbz0_1 : w2.cell? ⟨w.heap.size, 1, none⟩ = some (v_aM) := bz0.cell 1
  clear hE2
  by_cases hn2 : r2 < 0
  · go_wp2
    go_ret
    exact ⟨rfl, hT⟩
  obtain ⟨hr2a, hn_aList, hb_aList⟩ := hr2 (by omega)
  have hr2b : 0 ≤ r2 := by omega
  go_wp2_with fail
  refine (toMine j_aM aM _ _ _ _ (hv_aM.ext hT) hn_aM).mono ?_
  rintro e w3 ⟨⟨v3, rfl, hO3⟩, hE3⟩
  have z3 : w2.heap.size ≤ w3.heap.size := hE3.size
  replace hT := Ext.tr hT hE3
  clear qbz0_0 qbz0_1
  replace bz0 := bz0.ext hE3
  have qbz0_0 : w3.cell? ⟨w.heap.size, 0, none⟩ = some (.int .i64 j_aM) := bz0.cell 0
  have qbz0_1 : w3.cell? ⟨w.heap.size, 1, none⟩ = some (v_aM) := bz0.cell 1
  clear hE3
  go_wp2_with fail
  refine (toRefugeS aList _ _ _ _ (hv_aList.ext hT) hn_aList).mono ?_
  rintro e w4 ⟨⟨v4, rfl, hO4⟩, hE4⟩
  have z4 : w3.heap.size ≤ w4.heap.size := hE4.size
  replace hO3 := hO3.ext hE4
  replace hT := Ext.tr hT hE4
  clear qbz0_0 qbz0_1
  replace bz0 := bz0.ext hE4
  have qbz0_0 : w4.cell? ⟨w.heap.size, 0, none⟩ = some (.int .i64 j_aM) := bz0.cell 0
  have qbz0_1 : w4.cell? ⟨w.heap.size, 1, none⟩ = some (v_aM) := bz0.cell 1
  clear hE4
  go_wp2_with fail
  refine (refugesSpecW j_aM aM aList _ _ _ _ _ _ _ hO3.sl hs_aM hn_aM hO4.sl hs_aList hn_aList).mono ?_
  rintro e w5 ⟨rfl, hE5⟩
  have z5 : w4.heap.size ≤ w5.heap.size := hE5.size
  replace hO3 := hO3.ext hE5
  replace hO4 := hO4.ext hE5
  replace hT := Ext.tr hT hE5
  clear qbz0_0 qbz0_1
  replace bz0 := bz0.ext hE5
  have qbz0_0 : w5.cell? ⟨w.heap.size, 0, none⟩ = some (.int .i64 j_aM) := bz0.cell 0
  have qbz0_1 : w5.cell? ⟨w.heap.size, 1, none⟩ = some (v_aM) := bz0.cell 1
  clear hE5
  go_wp2_with fail
  refine (toMine j_aM aM _ _ _ _ (hv_aM.ext hT) hn_aM).mono ?_
  rintro e w6 ⟨⟨v6, rfl, hO6⟩, hE6⟩
  have z6 : w5.heap.size ≤ w6.heap.size := hE6.size
  replace hO3 := hO3.ext hE6
  replace hO4 := hO4.ext hE6
  replace hT := Ext.tr hT hE6
  clear qbz0_0 qbz0_1
  replace bz0 := bz0.ext hE6
  have qbz0_0 : w6.cell? ⟨w.heap.size, 0, none⟩ = some (.int .i64 j_aM) := bz0.cell 0
  have qbz0_1 : w6.cell? ⟨w.heap.size, 1, none⟩ = some (v_aM) := bz0.cell 1
  clear hE6
  have hl6 := hO6.sl
  obtain ⟨_, _, A6, c6, rfl, _, _, _⟩ := hl6
  go_wp2_with fail
  generalize hG : World.alloc w6 _ = xw6
  have hX : Ext w6 xw6 := by rw [← hG]; exact Ext.new _ _
  have zxw6 : w6.heap.size < xw6.heap.size := by rw [← hG]; simp
  have bxw6 : Blk xw6 w6.heap.size 31 #[.int .i64 j_aM, .slice A6 aM.length c6] := by rw [← hG]; exact Blk.new _ _ _
  clear hG
  replace bz0 := bz0.ext hX
  clear qbz0_0 qbz0_1
  have qbz0_0 : xw6.cell? ⟨w.heap.size, 0, none⟩ = some (.int .i64 j_aM) := bz0.cell 0
  have qbz0_1 : xw6.cell? ⟨w.heap.size, 1, none⟩ = some (v_aM) := bz0.cell 1
  have qbxw6_0 : xw6.cell? ⟨w6.heap.size, 0, none⟩ = some (.int .i64 j_aM) := bxw6.cell 0
  have qbxw6_1 : xw6.cell? ⟨w6.heap.size, 1, none⟩ = some (.slice A6 aM.length c6) := bxw6.cell 1
  replace hO3 := hO3.ext hX
  replace hO4 := hO4.ext hX
  replace hO6 := hO6.ext hX
  replace hT := Ext.tr hT hX
  clear hX
  refine (toRefugeS aList _ _ _ _ (hv_aList.ext hT) hn_aList).mono ?_
  rintro e w7 ⟨⟨v7, rfl, hO7⟩, hE7⟩
  have z7 : xw6.heap.size ≤ w7.heap.size := hE7.size
  replace hO3 := hO3.ext hE7
  replace hO4 := hO4.ext hE7
  replace hO6 := hO6.ext hE7
  replace hT := Ext.tr hT hE7
  clear qbz0_0 qbz0_1
  replace bz0 := bz0.ext hE7
  have qbz0_0 : w7.cell? ⟨w.heap.size, 0, none⟩ = some (.int .i64 j_aM) := bz0.cell 0
  have qbz0_1 : w7.cell? ⟨w.heap.size, 1, none⟩ = some (v_aM) := bz0.cell 1
  clear qbxw6_0 qbxw6_1
  replace bxw6 := bxw6.ext hE7
  have qbxw6_0 : w7.cell? ⟨w6.heap.size, 0, none⟩ = some (.int .i64 j_aM) := bxw6.cell 0
  have qbxw6_1 : w7.cell? ⟨w6.heap.size, 1, none⟩ = some (.slice A6 aM.length c6) := bxw6.cell 1
  clear hE7
  go_wp2_with fail
  refine (refugesImpl j_aM aM aList _ _ _ _ _ _ _ hO6.sl hs_aM hn_aM hO7.sl hs_aList hn_aList).mono ?_
  rintro e w8 ⟨rfl, hE8⟩
  have z8 : w7.heap.size ≤ w8.heap.size := hE8.size
  replace hO3 := hO3.ext hE8
  replace hO4 := hO4.ext hE8
  replace hO6 := hO6.ext hE8
  replace hO7 := hO7.ext hE8
  replace hT := Ext.tr hT hE8
  clear qbz0_0 qbz0_1
  replace bz0 := bz0.ext hE8
  have qbz0_0 : w8.cell? ⟨w.heap.size, 0, none⟩ = some (.int .i64 j_aM) := bz0.cell 0
  have qbz0_1 : w8.cell? ⟨w.heap.size, 1, none⟩ = some (v_aM) := bz0.cell 1
  clear qbxw6_0 qbxw6_1
  replace bxw6 := bxw6.ext hE8
  have qbxw6_0 : w8.cell? ⟨w6.heap.size, 0, none⟩ = some (.int .i64 j_aM) := bxw6.cell 0
  have qbxw6_1 : w8.cell? ⟨w6.heap.size, 1, none⟩ = some (.slice A6 aM.length c6) := bxw6.cell 1
  clear hE8
  go_wp2_with fail
  clear qbz0_0 qbz0_1
  have qbz0_0 : ∀ W, Ext w8 W → W.cell? ⟨w.heap.size, 0, none⟩ = some (.int .i64 j_aM) := fun W hW => (bz0.ext hW).cell 0
  have qbz0_1 : ∀ W, Ext w8 W → W.cell? ⟨w.heap.size, 1, none⟩ = some (v_aM) := fun W hW => (bz0.ext hW).cell 1
  clear qbxw6_0 qbxw6_1
  have qbxw6_0 : ∀ W, Ext w8 W → W.cell? ⟨w6.heap.size, 0, none⟩ = some (.int .i64 j_aM) := fun W hW => (bxw6.ext hW).cell 0
  have qbxw6_1 : ∀ W, Ext w8 W → W.cell? ⟨w6.heap.size, 1, none⟩ = some (.slice A6 aM.length c6) := fun W hW => (bxw6.ext hW).cell 1
  go_region_held3 (fun W => Ext w8 W) (first | assumption | exact Ext.drewN _ 1 | exact Ext.tr (by assumption) hE9 | exact Ext.tr (by assumption) hE10) (first | (go_at_call 11; refine (toMine j_aM aM _ _ _ _ (hv_aM.ext (Ext.tr hT (by assumption))) hn_aM).mono ?_; rintro e w9 ⟨⟨v9, rfl, hO9⟩, hE9⟩) | (go_at_call 14; refine (eqMine j_aM (aM) _ _ _ _ _ _ _ (hO6.sl.ext (by assumption)) hO9.sl (by omega)).mono ?_; rintro e w10 ⟨rfl, hE10⟩))
  have hE10x : Ext w8 w10 := by assumption
  clear hO9
  have z10 : w8.heap.size ≤ w10.heap.size := hE10x.size
  replace hO3 := hO3.ext hE10x
  replace hO4 := hO4.ext hE10x
  replace hO6 := hO6.ext hE10x
  replace hO7 := hO7.ext hE10x
  replace hT := Ext.tr hT hE10x
  clear qbz0_0 qbz0_1
  replace bz0 := bz0.ext hE10x
  have qbz0_0 : w10.cell? ⟨w.heap.size, 0, none⟩ = some (.int .i64 j_aM) := bz0.cell 0
  have qbz0_1 : w10.cell? ⟨w.heap.size, 1, none⟩ = some (v_aM) := bz0.cell 1
  clear qbxw6_0 qbxw6_1
  replace bxw6 := bxw6.ext hE10x
  have qbxw6_0 : w10.cell? ⟨w6.heap.size, 0, none⟩ = some (.int .i64 j_aM) := bxw6.cell 0
  have qbxw6_1 : w10.cell? ⟨w6.heap.size, 1, none⟩ = some (.slice A6 aM.length c6) := bxw6.cell 1
  go_wp2_with fail
  refine (toRefugeS aList _ _ _ _ (hv_aList.ext hT) hn_aList).mono ?_
  rintro e w11 ⟨⟨v11, rfl, hO11⟩, hE11⟩
  have z11 : w10.heap.size ≤ w11.heap.size := hE11.size
  replace hO3 := hO3.ext hE11
  replace hO4 := hO4.ext hE11
  replace hO6 := hO6.ext hE11
  replace hO7 := hO7.ext hE11
  replace hT := Ext.tr hT hE11
  clear qbz0_0 qbz0_1
  replace bz0 := bz0.ext hE11
  have qbz0_0 : w11.cell? ⟨w.heap.size, 0, none⟩ = some (.int .i64 j_aM) := bz0.cell 0
  have qbz0_1 : w11.cell? ⟨w.heap.size, 1, none⟩ = some (v_aM) := bz0.cell 1
  clear qbxw6_0 qbxw6_1
  replace bxw6 := bxw6.ext hE11
  have qbxw6_0 : w11.cell? ⟨w6.heap.size, 0, none⟩ = some (.int .i64 j_aM) := bxw6.cell 0
  have qbxw6_1 : w11.cell? ⟨w6.heap.size, 1, none⟩ = some (.slice A6 aM.length c6) := bxw6.cell 1
  clear hE11
  go_wp2_with fail
  refine (eqRefugeS (aList) _ _ _ _ _ _ _ hO7.sl hO11.sl (by omega)).mono ?_
  rintro e w12 ⟨rfl, hE12⟩
  have z12 : w11.heap.size ≤ w12.heap.size := hE12.size
  replace hO3 := hO3.ext hE12
  replace hO4 := hO4.ext hE12
  replace hO6 := hO6.ext hE12
  replace hO7 := hO7.ext hE12
  replace hO11 := hO11.ext hE12
  replace hT := Ext.tr hT hE12
  clear qbz0_0 qbz0_1
  replace bz0 := bz0.ext hE12
  have qbz0_0 : w12.cell? ⟨w.heap.size, 0, none⟩ = some (.int .i64 j_aM) := bz0.cell 0
  have qbz0_1 : w12.cell? ⟨w.heap.size, 1, none⟩ = some (v_aM) := bz0.cell 1
  clear qbxw6_0 qbxw6_1
  replace bxw6 := bxw6.ext hE12
  have qbxw6_0 : w12.cell? ⟨w6.heap.size, 0, none⟩ = some (.int .i64 j_aM) := bxw6.cell 0
  have qbxw6_1 : w12.cell? ⟨w6.heap.size, 1, none⟩ = some (.slice A6 aM.length c6) := bxw6.cell 1
  clear hE12
  clear hO11
  go_wp2
  go_ret
  exact ⟨rfl, hT⟩
end Go.Proofs.Ytlilmopcikogpaa
