/- The walk of the law FnExactDrillText: it returns true; nothing that was there has turned. -/
import Derived.Test.YtibmcailjodpkaaDoorTxuDrill
namespace Go.Proofs.YtibmcailjodpkaaDoor
set_option linter.unusedVariables false
open Go.RowKit
theorem hgT : Tryd.prog.globalNamed "internal/strconv.uint64pow10" = some 0 := by kernel_rfl
set_option maxRecDepth 100000 in
set_option maxHeartbeats 1000000 in
theorem lawDrillText (w : World) (aX : Drill) (hs_aX : aX.crew.size ≤ maxLen) (ht : tabP w) :
    Calls Tryd.prog 3 #[.agg #[.int .i64 aX.day, .string aX.crew, .int .i64 aX.persons, .int .i64 aX.seconds, .int .i64 aX.missing]] w fun e w' => e = .returned (.bool true) ∧ Ext w w' := by
  go_enter Tryd.func3, Tryd.ntmps3
  have hT : Ext w w := Below.refl _ _
  go_wp2_with fail
  generalize hG : (w.alloc _) = wz
  replace hT : Ext w wz := by rw [← hG]; exact Ext.new _ _
  have zz : w.heap.size + 1 ≤ wz.heap.size := by rw [← hG]; simp
  have bz0 : Blk wz (w.heap.size) 23 #[.int .i64 aX.day, .string aX.crew, .int .i64 aX.persons, .int .i64 aX.seconds, .int .i64 aX.missing] := by
    rw [← hG]
    have h1 := Blk.new w 23 #[.int .i64 aX.day, .string aX.crew, .int .i64 aX.persons, .int .i64 aX.seconds, .int .i64 aX.missing]
    simpa using h1
  clear hG
  have qbz0_0 : wz.cell? ⟨w.heap.size, 0, none⟩ = some (.int .i64 aX.day) := bz0.cell 0
  have qbz0_1 : wz.cell? ⟨w.heap.size, 1, none⟩ = some (.string aX.crew) := bz0.cell 1
  have qbz0_2 : wz.cell? ⟨w.heap.size, 2, none⟩ = some (.int .i64 aX.persons) := bz0.cell 2
  have qbz0_3 : wz.cell? ⟨w.heap.size, 3, none⟩ = some (.int .i64 aX.seconds) := bz0.cell 3
  have qbz0_4 : wz.cell? ⟨w.heap.size, 4, none⟩ = some (.int .i64 aX.missing) := bz0.cell 4
  refine (szDrill aX 1048576 _ hs_aX ⟨by omega, by omega⟩).mono ?_
  rintro e w1 ⟨rfl, hE1⟩
  have z1 : wz.heap.size ≤ w1.heap.size := hE1.size
  replace hT := Ext.tr hT hE1
  clear qbz0_0 qbz0_1 qbz0_2 qbz0_3 qbz0_4
  replace bz0 := bz0.ext hE1
  have qbz0_0 : w1.cell? ⟨w.heap.size, 0, none⟩ = some (.int .i64 aX.day) := bz0.cell 0
  have qbz0_1 : w1.cell? ⟨w.heap.size, 1, none⟩ = some (.string aX.crew) := bz0.cell 1
  have qbz0_2 : w1.cell? ⟨w.heap.size, 2, none⟩ = some (.int .i64 aX.persons) := bz0.cell 2
  have qbz0_3 : w1.cell? ⟨w.heap.size, 3, none⟩ = some (.int .i64 aX.seconds) := bz0.cell 3
  have qbz0_4 : w1.cell? ⟨w.heap.size, 4, none⟩ = some (.int .i64 aX.missing) := bz0.cell 4
  clear hE1
  by_cases hn1 : szF (1048576) aX.crew.size < 0
  · go_wp2
    go_ret
    exact ⟨rfl, hT⟩
  have hr1 := szF_bd _ _ hn1
  obtain ⟨hr1e, hr1b⟩ := hr1
  rw [hr1e]
  clear hr1e hn1
  go_wp2_with fail
  refine (toDrill aX _).mono ?_
  rintro e w2 ⟨rfl, hE2⟩
  have z2 : w1.heap.size ≤ w2.heap.size := hE2.size
  replace hT := Ext.tr hT hE2
  clear qbz0_0 qbz0_1 qbz0_2 qbz0_3 qbz0_4
  replace bz0 := bz0.ext hE2
  have qbz0_0 : w2.cell? ⟨w.heap.size, 0, none⟩ = some (.int .i64 aX.day) := bz0.cell 0
  have qbz0_1 : w2.cell? ⟨w.heap.size, 1, none⟩ = some (.string aX.crew) := bz0.cell 1
  have qbz0_2 : w2.cell? ⟨w.heap.size, 2, none⟩ = some (.int .i64 aX.persons) := bz0.cell 2
  have qbz0_3 : w2.cell? ⟨w.heap.size, 3, none⟩ = some (.int .i64 aX.seconds) := bz0.cell 3
  have qbz0_4 : w2.cell? ⟨w.heap.size, 4, none⟩ = some (.int .i64 aX.missing) := bz0.cell 4
  clear hE2
  go_wp2_with fail
  refine (specDrillText aX _ hs_aX).mono ?_
  rintro e w3 ⟨rfl, hE3⟩
  have z3 : w2.heap.size ≤ w3.heap.size := hE3.size
  replace hT := Ext.tr hT hE3
  clear qbz0_0 qbz0_1 qbz0_2 qbz0_3 qbz0_4
  replace bz0 := bz0.ext hE3
  have qbz0_0 : w3.cell? ⟨w.heap.size, 0, none⟩ = some (.int .i64 aX.day) := bz0.cell 0
  have qbz0_1 : w3.cell? ⟨w.heap.size, 1, none⟩ = some (.string aX.crew) := bz0.cell 1
  have qbz0_2 : w3.cell? ⟨w.heap.size, 2, none⟩ = some (.int .i64 aX.persons) := bz0.cell 2
  have qbz0_3 : w3.cell? ⟨w.heap.size, 3, none⟩ = some (.int .i64 aX.seconds) := bz0.cell 3
  have qbz0_4 : w3.cell? ⟨w.heap.size, 4, none⟩ = some (.int .i64 aX.missing) := bz0.cell 4
  clear hE3
  go_wp2_with fail
  refine (toDrill aX _).mono ?_
  rintro e w4 ⟨rfl, hE4⟩
  have z4 : w3.heap.size ≤ w4.heap.size := hE4.size
  replace hT := Ext.tr hT hE4
  clear qbz0_0 qbz0_1 qbz0_2 qbz0_3 qbz0_4
  replace bz0 := bz0.ext hE4
  have qbz0_0 : w4.cell? ⟨w.heap.size, 0, none⟩ = some (.int .i64 aX.day) := bz0.cell 0
  have qbz0_1 : w4.cell? ⟨w.heap.size, 1, none⟩ = some (.string aX.crew) := bz0.cell 1
  have qbz0_2 : w4.cell? ⟨w.heap.size, 2, none⟩ = some (.int .i64 aX.persons) := bz0.cell 2
  have qbz0_3 : w4.cell? ⟨w.heap.size, 3, none⟩ = some (.int .i64 aX.seconds) := bz0.cell 3
  have qbz0_4 : w4.cell? ⟨w.heap.size, 4, none⟩ = some (.int .i64 aX.missing) := bz0.cell 4
  clear hE4
  go_wp2_with fail
  refine (implDrillText aX _ hs_aX (tab_ext hgT ht hT)).mono ?_
  rintro e w5 ⟨rfl, hE5⟩
  have z5 : w4.heap.size ≤ w5.heap.size := hE5.size
  replace hT := Ext.tr hT hE5
  clear qbz0_0 qbz0_1 qbz0_2 qbz0_3 qbz0_4
  replace bz0 := bz0.ext hE5
  have qbz0_0 : w5.cell? ⟨w.heap.size, 0, none⟩ = some (.int .i64 aX.day) := bz0.cell 0
  have qbz0_1 : w5.cell? ⟨w.heap.size, 1, none⟩ = some (.string aX.crew) := bz0.cell 1
  have qbz0_2 : w5.cell? ⟨w.heap.size, 2, none⟩ = some (.int .i64 aX.persons) := bz0.cell 2
  have qbz0_3 : w5.cell? ⟨w.heap.size, 3, none⟩ = some (.int .i64 aX.seconds) := bz0.cell 3
  have qbz0_4 : w5.cell? ⟨w.heap.size, 4, none⟩ = some (.int .i64 aX.missing) := bz0.cell 4
  clear hE5
  go_wp2
  go_ret
  exact ⟨rfl, hT⟩
end Go.Proofs.YtibmcailjodpkaaDoor
