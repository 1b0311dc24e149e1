/- The walk of the law FnExactWantText: it returns true; nothing that was there has turned. -/
import Derived.Test.YtojmfjdbggpllaaDoorTxtWant
namespace Go.Proofs.YtojmfjdbggpllaaDoor
set_option linter.unusedVariables false
open Go.RowKit
theorem hgT : Tryd.prog.globalNamed "internal/strconv.uint64pow10" = some 0 := by kernel_rfl
set_option maxRecDepth 100000 in
set_option maxHeartbeats 1000000 in
theorem lawWantText (w : World) (aX : Want) (ht : tabP w) :
    Calls Tryd.prog 3 #[.agg #[.int .i64 aX.airway, .int .i64 aX.least, .int .i64 aX.most]] w fun e w' => e = .returned (.bool true) ∧ Ext w w' := by
  go_enter Tryd.func3, Tryd.ntmps3
  have hT : Ext w w := Below.refl _ _
  go_wp2_with fail
  generalize hG : (w.alloc _) = wz
  replace hT : Ext w wz := by rw [← hG]; exact Ext.new _ _
  have zz : w.heap.size + 1 ≤ wz.heap.size := by rw [← hG]; simp
  have bz0 : Blk wz (w.heap.size) 23 #[.int .i64 aX.airway, .int .i64 aX.least, .int .i64 aX.most] := by
    rw [← hG]
    have h1 := Blk.new w 23 #[.int .i64 aX.airway, .int .i64 aX.least, .int .i64 aX.most]
    simpa using h1
  clear hG
  have qbz0_0 : wz.cell? ⟨w.heap.size, 0, none⟩ = some (.int .i64 aX.airway) := bz0.cell 0
  have qbz0_1 : wz.cell? ⟨w.heap.size, 1, none⟩ = some (.int .i64 aX.least) := bz0.cell 1
  have qbz0_2 : wz.cell? ⟨w.heap.size, 2, none⟩ = some (.int .i64 aX.most) := bz0.cell 2
  refine (toWant aX _).mono ?_
  rintro e w1 ⟨rfl, hE1⟩
  have z1 : wz.heap.size ≤ w1.heap.size := hE1.size
  replace hT := Ext.tr hT hE1
  clear qbz0_0 qbz0_1 qbz0_2
  replace bz0 := bz0.ext hE1
  have qbz0_0 : w1.cell? ⟨w.heap.size, 0, none⟩ = some (.int .i64 aX.airway) := bz0.cell 0
  have qbz0_1 : w1.cell? ⟨w.heap.size, 1, none⟩ = some (.int .i64 aX.least) := bz0.cell 1
  have qbz0_2 : w1.cell? ⟨w.heap.size, 2, none⟩ = some (.int .i64 aX.most) := bz0.cell 2
  clear hE1
  go_wp2_with fail
  refine (specWantText aX _).mono ?_
  rintro e w2 ⟨rfl, hE2⟩
  have z2 : w1.heap.size ≤ w2.heap.size := hE2.size
  replace hT := Ext.tr hT hE2
  clear qbz0_0 qbz0_1 qbz0_2
  replace bz0 := bz0.ext hE2
  have qbz0_0 : w2.cell? ⟨w.heap.size, 0, none⟩ = some (.int .i64 aX.airway) := bz0.cell 0
  have qbz0_1 : w2.cell? ⟨w.heap.size, 1, none⟩ = some (.int .i64 aX.least) := bz0.cell 1
  have qbz0_2 : w2.cell? ⟨w.heap.size, 2, none⟩ = some (.int .i64 aX.most) := bz0.cell 2
  clear hE2
  go_wp2_with fail
  refine (toWant aX _).mono ?_
  rintro e w3 ⟨rfl, hE3⟩
  have z3 : w2.heap.size ≤ w3.heap.size := hE3.size
  replace hT := Ext.tr hT hE3
  clear qbz0_0 qbz0_1 qbz0_2
  replace bz0 := bz0.ext hE3
  have qbz0_0 : w3.cell? ⟨w.heap.size, 0, none⟩ = some (.int .i64 aX.airway) := bz0.cell 0
  have qbz0_1 : w3.cell? ⟨w.heap.size, 1, none⟩ = some (.int .i64 aX.least) := bz0.cell 1
  have qbz0_2 : w3.cell? ⟨w.heap.size, 2, none⟩ = some (.int .i64 aX.most) := bz0.cell 2
  clear hE3
  go_wp2_with fail
  refine (implWantText aX _ (tab_ext hgT ht hT)).mono ?_
  rintro e w4 ⟨rfl, hE4⟩
  have z4 : w3.heap.size ≤ w4.heap.size := hE4.size
  replace hT := Ext.tr hT hE4
  clear qbz0_0 qbz0_1 qbz0_2
  replace bz0 := bz0.ext hE4
  have qbz0_0 : w4.cell? ⟨w.heap.size, 0, none⟩ = some (.int .i64 aX.airway) := bz0.cell 0
  have qbz0_1 : w4.cell? ⟨w.heap.size, 1, none⟩ = some (.int .i64 aX.least) := bz0.cell 1
  have qbz0_2 : w4.cell? ⟨w.heap.size, 2, none⟩ = some (.int .i64 aX.most) := bz0.cell 2
  clear hE4
  go_wp2
  go_ret
  exact ⟨rfl, hT⟩
end Go.Proofs.YtojmfjdbggpllaaDoor
