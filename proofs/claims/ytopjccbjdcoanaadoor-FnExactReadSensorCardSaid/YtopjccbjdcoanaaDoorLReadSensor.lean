/- The walk of the law FnExactReadSensor: it returns true; nothing that was there has turned. -/
import Derived.Test.YtopjccbjdcoanaaDoorRdC
namespace Go.Proofs.YtopjccbjdcoanaaDoor
set_option linter.unusedVariables false
open Go.RowKit
set_option maxRecDepth 100000 in
set_option maxHeartbeats 1000000 in
theorem lawReadSensor (s : ByteArray) (w : World) (hsm : s.size ≤ maxLen) (he : envP w) :
    Calls Tryd.prog 4 #[.string s] w fun e w' => e = .returned (.bool true) ∧ Ext w w' := by
  unfold maxLen at hsm
  by_cases hg : 1048576 < s.size
  · go_enter Tryd.func4, Tryd.ntmps4
    go_wp2
    go_ret
    exact ⟨rfl, Below.refl _ _⟩
  have hs : s.size ≤ 1048576 := by omega
  have HSP := hid (fun W => specReadSensor s W hs)
  have HIM := hid (fun W (hW : Ext w W) => implReadSensor s W hs (he.ext hW))
  obtain ⟨x, HX⟩ : ∃ x, Hid (rdX s.data.toList = x) := ⟨_, hid rfl⟩
  obtain ⟨o, HO⟩ : ∃ o, Hid (rdO s.data.toList = o) := ⟨_, hid rfl⟩
  rw [HX.out, HO.out] at HSP HIM
  have HEQ := hid (fun W => eqSensor x W)
  obtain ⟨x0, x1, x2, x3, x4⟩ := x
  unfold aggS at HSP HIM
  simp only at HSP HIM HEQ
  clear he HX HO
  go_enter Tryd.func4, Tryd.ntmps4
  go_wp2_with fail
  refine (HSP.out w).mono ?_
  rintro e w1 ⟨rfl, hE1⟩
  go_wp2_with fail
  generalize hG : World.alloc _ _ = wb
  have hE2 : Ext w1 wb := by rw [← hG]; exact Ext.new _ _
  have HB : Hid (Blk wb w1.heap.size 26 #[.string x0, .int .i64 x1, .int .i64 x2, .int .i64 x3, .int .i64 x4]) := by
    refine hid ?_; rw [← hG]; exact Blk.new _ _ _
  clear hG
  refine (HIM.out wb (Ext.tr hE1 hE2)).mono ?_
  rintro e w3 ⟨rfl, hE3⟩
  have HB3 := hid (HB.out.ext hE3)
  have b0 : w3.cell? ⟨w1.heap.size, 0, none⟩ = some (.string x0) := HB3.out.cell 0
  have b1 : w3.cell? ⟨w1.heap.size, 1, none⟩ = some (.int .i64 x1) := HB3.out.cell 1
  have b2 : w3.cell? ⟨w1.heap.size, 2, none⟩ = some (.int .i64 x2) := HB3.out.cell 2
  have b3 : w3.cell? ⟨w1.heap.size, 3, none⟩ = some (.int .i64 x3) := HB3.out.cell 3
  have b4 : w3.cell? ⟨w1.heap.size, 4, none⟩ = some (.int .i64 x4) := HB3.out.cell 4
  have hlt := HB3.out.lt
  go_wp2_with fail
  refine (HEQ.out _).mono ?_
  rintro e w4 ⟨rfl, hE4⟩
  have hEN : Ext w w4 := Ext.tr hE1 (Ext.tr hE2 (Ext.tr hE3 (Ext.tr (Ext.new _ _) hE4)))
  go_wp2
  go_ret
  exact ⟨rfl, hEN⟩
end Go.Proofs.YtopjccbjdcoanaaDoor
