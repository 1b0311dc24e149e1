/- A bent sensor. A contract that tells bounds alone. -/
import Derived.Test.YtopjccbjdcoanaaDrawC
namespace Go.Proofs.Ytopjccbjdcoanaa
set_option linter.unusedVariables false
open Go.RowKit
set_option maxRecDepth 100000 in
set_option maxHeartbeats 4000000 in
theorem bend (g n : Nat) (x : Sensor) (hx : Small x) (w : World) (h : Src g n w) (hn : n ≤ 1073741824) :
    Calls Try.prog 84 #[.pointer (some ⟨g, 0, none⟩), sAgg x] w fun e w' => (∃ y : Sensor, e = .returned (sAgg y) ∧ y.id = x.id ∧ Small y) ∧ SrcTo g (n + 8) w w' := by
  have hg := h.lt
  have H := hid h
  obtain ⟨⟨hx1, hx2⟩, ⟨hx3, hx4⟩, ⟨hx5, hx6⟩, ⟨hx7, hx8⟩⟩ := hx
  clear h
  unfold sAgg
  go_enter Try.func84, Try.ntmps84
  go_wp2_with fail
  generalize hA : (w.alloc (.cells #[.string x.id, .int .i64 x.junction, .int .i64 x.limit, .int .i64 x.delay, .int .i64 x.release] 40)).alloc _ = wa
  have HL0 := hid (show Blk wa w.heap.size 40 #[.string x.id, .int .i64 x.junction, .int .i64 x.limit, .int .i64 x.delay, .int .i64 x.release] by rw [← hA]; exact (Blk.new _ _ _).ext (Ext.new _ _))
  have HB0 := hid (show Blk wa (w.heap.size + 1) 40 _ by rw [← hA]; have := Blk.new (w.alloc (.cells #[.string x.id, .int .i64 x.junction, .int .i64 x.limit, .int .i64 x.delay, .int .i64 x.release] 40)); simpa using this _ _)
  have HSa := hid (show SrcTo g n w wa by rw [← hA]; exact SrcTo.of H.out (Ext.tr (Ext.new _ _) (Ext.new _ _)))
  clear hA
  refine (srcPick g n 20 wa HSa.out.1 (by omega) ⟨by omega, by omega⟩).mono ?_
  rintro e w1 ⟨⟨q, rfl, hq0, hq1⟩, hS⟩
  have HS := hid (HSa.out.tr hS)
  have HL := hid (HL0.out.keep hS.2 (.inr (by omega)))
  have HB := hid (HB0.out.keep hS.2 (.inr (by omega)))
  have hltB := HB.out.lt
  clear hS HL0 HB0 HSa
  generalize hLe : w.heap.size = L at *
  generalize hRe : L + 1 = R at *
  have hgw : g < w.heap.size := by omega
  have hR : w.heap.size ≤ R := by omega
  have hL : w.heap.size ≤ L := by omega
  have hLl := HL.out.lt
  have hcc : q = 0 ∨ q = 1 ∨ q = 2 ∨ q = 3 ∨ (¬ q = 0 ∧ ¬ q = 1 ∧ ¬ q = 2 ∧ ¬ q = 3) := by omega
  rcases hcc with rfl | rfl | rfl | rfl | ⟨hq0, hq1, hq2, hq3⟩
  · go_wp2_with fail
    refine (amongLit g (n + 2) [-1, 15, 16] w w1 HS.out (by omega) (by simp) _ rfl _ rfl hgw).mono ?_
    rintro e w3 ⟨⟨y, rfl, hy⟩, hS, hK⟩
    have hyb : y = -1 ∨ y = 15 ∨ y = 16 := by simpa using hy
    have HSn := hid hS
    have HLn := hid (HL.out.keep hK (.inr (by omega)))
    have HBn := hid (HB.out.keep hK (.inr (by omega)))
    clear hS hK hy HS HL HB
    have f_ := HLn.out.frozen 1
    have hLl := HLn.out.lt
    have hRl := HBn.out.lt
    have a0 : w3.cell? ⟨L, 0, none⟩ = some (.string x.id) := HLn.out.cell 0
    have a1 : w3.cell? ⟨L, 1, none⟩ = some (.int .i64 x.junction) := HLn.out.cell 1
    have a2 : w3.cell? ⟨L, 2, none⟩ = some (.int .i64 x.limit) := HLn.out.cell 2
    have a3 : w3.cell? ⟨L, 3, none⟩ = some (.int .i64 x.delay) := HLn.out.cell 3
    have a4 : w3.cell? ⟨L, 4, none⟩ = some (.int .i64 x.release) := HLn.out.cell 4
    have b0 := HBn.out.cell 0
    have b1 := HBn.out.cell 1
    have b2 := HBn.out.cell 2
    have b3 := HBn.out.cell 3
    have b4 := HBn.out.cell 4
    simp at b0 b1 b2 b3 b4
    have f0 := HBn.out.frozen 0
    have f1 := HBn.out.frozen 1
    have f2 := HBn.out.frozen 2
    have f3 := HBn.out.frozen 3
    have f4 := HBn.out.frozen 4
    have hLR : ¬ L = R := by omega
    have hRL : ¬ R = L := by omega
    go_wp2
    (try simp only [Exit.inBlock, Exit.then])
    have HB := hid (show Blk (w3.setCell ⟨L, 1, none⟩ (.int .i64 y)) R 40 _ from HBn.out.keep ((KeepI.refl L (L + 1) w3).set_ (g := L) (m := 1) (Nat.le_refl _) (Nat.lt_succ_self _) (.int .i64 y)) (.inr (by omega)))
    have HS := hid (HSn.out.store (i := 1) hgw hL (.int .i64 y))
    have HB8 := hid (((((HB.out.set_ 0 (.string x.id)).set_ 1 (.int .i64 y)).set_ 2 (.int .i64 x.limit)).set_ 3 (.int .i64 x.delay)).set_ 4 (.int .i64 x.release))
    refine bodyPost_ret (results_cell_row rfl _ _ R 40 _ (0, 0) _ rfl HB8.out Try.underlying40 rfl (by kernel_rfl)) rfl ?_
    exact ⟨⟨⟨x.id, y, x.limit, x.delay, x.release⟩, rfl, rfl, ⟨by dsimp only; omega, by dsimp only; omega⟩, ⟨by dsimp only; omega, by dsimp only; omega⟩, ⟨by dsimp only; omega, by dsimp only; omega⟩, ⟨by dsimp only; omega, by dsimp only; omega⟩⟩, ((((HS.out.more (by omega)).store hgw hR _ |>.store hgw hR _).store hgw hR _).store hgw hR _).store hgw hR _⟩
  · go_wp2_with fail
    refine (amongLit g (n + 2) [-1, 1000000, 1000001] w w1 HS.out (by omega) (by simp) _ rfl _ rfl hgw).mono ?_
    rintro e w3 ⟨⟨y, rfl, hy⟩, hS, hK⟩
    have hyb : y = -1 ∨ y = 1000000 ∨ y = 1000001 := by simpa using hy
    have HSn := hid hS
    have HLn := hid (HL.out.keep hK (.inr (by omega)))
    have HBn := hid (HB.out.keep hK (.inr (by omega)))
    clear hS hK hy HS HL HB
    have f_ := HLn.out.frozen 2
    have hLl := HLn.out.lt
    have hRl := HBn.out.lt
    have a0 : w3.cell? ⟨L, 0, none⟩ = some (.string x.id) := HLn.out.cell 0
    have a1 : w3.cell? ⟨L, 1, none⟩ = some (.int .i64 x.junction) := HLn.out.cell 1
    have a2 : w3.cell? ⟨L, 2, none⟩ = some (.int .i64 x.limit) := HLn.out.cell 2
    have a3 : w3.cell? ⟨L, 3, none⟩ = some (.int .i64 x.delay) := HLn.out.cell 3
    have a4 : w3.cell? ⟨L, 4, none⟩ = some (.int .i64 x.release) := HLn.out.cell 4
    have b0 := HBn.out.cell 0
    have b1 := HBn.out.cell 1
    have b2 := HBn.out.cell 2
    have b3 := HBn.out.cell 3
    have b4 := HBn.out.cell 4
    simp at b0 b1 b2 b3 b4
    have f0 := HBn.out.frozen 0
    have f1 := HBn.out.frozen 1
    have f2 := HBn.out.frozen 2
    have f3 := HBn.out.frozen 3
    have f4 := HBn.out.frozen 4
    have hLR : ¬ L = R := by omega
    have hRL : ¬ R = L := by omega
    go_wp2
    (try simp only [Exit.inBlock, Exit.then])
    have HB := hid (show Blk (w3.setCell ⟨L, 2, none⟩ (.int .i64 y)) R 40 _ from HBn.out.keep ((KeepI.refl L (L + 1) w3).set_ (g := L) (m := 2) (Nat.le_refl _) (Nat.lt_succ_self _) (.int .i64 y)) (.inr (by omega)))
    have HS := hid (HSn.out.store (i := 2) hgw hL (.int .i64 y))
    have HB8 := hid (((((HB.out.set_ 0 (.string x.id)).set_ 1 (.int .i64 x.junction)).set_ 2 (.int .i64 y)).set_ 3 (.int .i64 x.delay)).set_ 4 (.int .i64 x.release))
    refine bodyPost_ret (results_cell_row rfl _ _ R 40 _ (0, 0) _ rfl HB8.out Try.underlying40 rfl (by kernel_rfl)) rfl ?_
    exact ⟨⟨⟨x.id, x.junction, y, x.delay, x.release⟩, rfl, rfl, ⟨by dsimp only; omega, by dsimp only; omega⟩, ⟨by dsimp only; omega, by dsimp only; omega⟩, ⟨by dsimp only; omega, by dsimp only; omega⟩, ⟨by dsimp only; omega, by dsimp only; omega⟩⟩, ((((HS.out.more (by omega)).store hgw hR _ |>.store hgw hR _).store hgw hR _).store hgw hR _).store hgw hR _⟩
  · go_wp2_with fail
    refine (amongLit g (n + 2) [0, 60, 61] w w1 HS.out (by omega) (by simp) _ rfl _ rfl hgw).mono ?_
    rintro e w3 ⟨⟨y, rfl, hy⟩, hS, hK⟩
    have hyb : y = 0 ∨ y = 60 ∨ y = 61 := by simpa using hy
    have HSn := hid hS
    have HLn := hid (HL.out.keep hK (.inr (by omega)))
    have HBn := hid (HB.out.keep hK (.inr (by omega)))
    clear hS hK hy HS HL HB
    have f_ := HLn.out.frozen 3
    have hLl := HLn.out.lt
    have hRl := HBn.out.lt
    have a0 : w3.cell? ⟨L, 0, none⟩ = some (.string x.id) := HLn.out.cell 0
    have a1 : w3.cell? ⟨L, 1, none⟩ = some (.int .i64 x.junction) := HLn.out.cell 1
    have a2 : w3.cell? ⟨L, 2, none⟩ = some (.int .i64 x.limit) := HLn.out.cell 2
    have a3 : w3.cell? ⟨L, 3, none⟩ = some (.int .i64 x.delay) := HLn.out.cell 3
    have a4 : w3.cell? ⟨L, 4, none⟩ = some (.int .i64 x.release) := HLn.out.cell 4
    have b0 := HBn.out.cell 0
    have b1 := HBn.out.cell 1
    have b2 := HBn.out.cell 2
    have b3 := HBn.out.cell 3
    have b4 := HBn.out.cell 4
    simp at b0 b1 b2 b3 b4
    have f0 := HBn.out.frozen 0
    have f1 := HBn.out.frozen 1
    have f2 := HBn.out.frozen 2
    have f3 := HBn.out.frozen 3
    have f4 := HBn.out.frozen 4
    have hLR : ¬ L = R := by omega
    have hRL : ¬ R = L := by omega
    go_wp2
    (try simp only [Exit.inBlock, Exit.then])
    have HB := hid (show Blk (w3.setCell ⟨L, 3, none⟩ (.int .i64 y)) R 40 _ from HBn.out.keep ((KeepI.refl L (L + 1) w3).set_ (g := L) (m := 3) (Nat.le_refl _) (Nat.lt_succ_self _) (.int .i64 y)) (.inr (by omega)))
    have HS := hid (HSn.out.store (i := 3) hgw hL (.int .i64 y))
    have HB8 := hid (((((HB.out.set_ 0 (.string x.id)).set_ 1 (.int .i64 x.junction)).set_ 2 (.int .i64 x.limit)).set_ 3 (.int .i64 y)).set_ 4 (.int .i64 x.release))
    refine bodyPost_ret (results_cell_row rfl _ _ R 40 _ (0, 0) _ rfl HB8.out Try.underlying40 rfl (by kernel_rfl)) rfl ?_
    exact ⟨⟨⟨x.id, x.junction, x.limit, y, x.release⟩, rfl, rfl, ⟨by dsimp only; omega, by dsimp only; omega⟩, ⟨by dsimp only; omega, by dsimp only; omega⟩, ⟨by dsimp only; omega, by dsimp only; omega⟩, ⟨by dsimp only; omega, by dsimp only; omega⟩⟩, ((((HS.out.more (by omega)).store hgw hR _ |>.store hgw hR _).store hgw hR _).store hgw hR _).store hgw hR _⟩
  · have HD := hid (HS.out.1.ext (Ext.drewN w1 1))
    have HSD := hid (HS.out.ext (Ext.drewN w1 1))
    have c2 : w1.cell? ⟨L, 2, none⟩ = some (.int .i64 x.limit) := HL.out.cell 2
    have c4 : w1.cell? ⟨L, 4, none⟩ = some (.int .i64 x.release) := HL.out.cell 4
    have f4 := HL.out.frozen 4
    go_wp2_with fail
    go_region_law (first | (go_simp; go_at_call 48; refine (amongLit g (n + 2) [0, 1] w (w1.drewN 1) HSD.out (by omega) (by simp) _ rfl _ rfl hgw).mono ?_; rintro e w3 ⟨⟨y, rfl, hy⟩, hS3, hK3⟩; have HLn := hid ((HL.out.ext (Ext.drewN w1 1)).keep hK3 (.inr (by omega))); have d2 : w3.cell? ⟨L, 2, none⟩ = some (.int .i64 x.limit) := HLn.out.cell 2; have d4 : w3.cell? ⟨L, 4, none⟩ = some (.int .i64 x.release) := HLn.out.cell 4; have e4 := HLn.out.frozen 4))
    all_goals
      have hyb : y = 0 ∨ y = 1 := by simpa using hy
      have hwr := wrapId (x.limit + y) (by omega) (by omega)
      rw [hwr]
      have HBn := hid ((HB.out.ext (Ext.drewN w1 1)).keep hK3 (.inr (by omega)))
      have HSn := hid hS3
      clear HL HB HS HSD HD
      have HL := hid (HLn.out.set_ 4 (.int .i64 (x.limit + y)))
      have HB := hid (show Blk (w3.setCell ⟨L, 4, none⟩ (.int .i64 (x.limit + y))) R 40 _ from HBn.out.keep ((KeepI.refl L (L + 1) w3).set_ (g := L) (m := 4) (Nat.le_refl _) (Nat.lt_succ_self _) (.int .i64 (x.limit + y))) (.inr (by omega)))
      have HS := hid (HSn.out.store (i := 4) hgw hL (.int .i64 (x.limit + y)))
      change Hid (Blk _ L _ #[.string x.id, .int .i64 x.junction, .int .i64 x.limit, .int .i64 x.delay, .int .i64 (x.limit + y)]) at HL
      clear hS3 hK3 hy c2 c4 f4 d2 d4 e4 HSn HLn HBn hwr
      generalize w3.setCell ⟨L, 4, none⟩ (.int .i64 (x.limit + y)) = w7 at *
      have a0 : w7.cell? ⟨L, 0, none⟩ = some (.string x.id) := HL.out.cell 0
      have a1 : w7.cell? ⟨L, 1, none⟩ = some (.int .i64 x.junction) := HL.out.cell 1
      have a2 : w7.cell? ⟨L, 2, none⟩ = some (.int .i64 x.limit) := HL.out.cell 2
      have a3 : w7.cell? ⟨L, 3, none⟩ = some (.int .i64 x.delay) := HL.out.cell 3
      have a4 : w7.cell? ⟨L, 4, none⟩ = some (.int .i64 (x.limit + y)) := HL.out.cell 4
      have b0 := HB.out.cell 0
      have b1 := HB.out.cell 1
      have b2 := HB.out.cell 2
      have b3 := HB.out.cell 3
      have b4 := HB.out.cell 4
      simp at b0 b1 b2 b3 b4
      have f0 := HB.out.frozen 0
      have f1 := HB.out.frozen 1
      have f2 := HB.out.frozen 2
      have f3 := HB.out.frozen 3
      have f4 := HB.out.frozen 4
      go_wp2
      (try simp only [Exit.inBlock, Exit.then])
      have HB8 := hid (((((HB.out.set_ 0 (.string x.id)).set_ 1 (.int .i64 x.junction)).set_ 2 (.int .i64 x.limit)).set_ 3 (.int .i64 x.delay)).set_ 4 (.int .i64 (x.limit + y)))
      refine bodyPost_ret (results_cell_row rfl _ _ R 40 _ (0, 0) _ rfl HB8.out Try.underlying40 rfl (by kernel_rfl)) rfl ?_
      exact ⟨⟨⟨x.id, x.junction, x.limit, x.delay, (x.limit + y)⟩, rfl, rfl, ⟨by dsimp only; omega, by dsimp only; omega⟩, ⟨by dsimp only; omega, by dsimp only; omega⟩, ⟨by dsimp only; omega, by dsimp only; omega⟩, ⟨by dsimp only; omega, by dsimp only; omega⟩⟩, ((((HS.out.more (by omega)).store hgw hR _ |>.store hgw hR _).store hgw hR _).store hgw hR _).store hgw hR _⟩
  · have e0 : (q == 0) = false := by simpa using hq0
    have e1 : (q == 1) = false := by simpa using hq1
    have e2 : (q == 2) = false := by simpa using hq2
    have e3 : (q == 3) = false := by simpa using hq3
    clear hq0 hq1 hq2 hq3
    have a0 : w1.cell? ⟨L, 0, none⟩ = some (.string x.id) := HL.out.cell 0
    have a1 : w1.cell? ⟨L, 1, none⟩ = some (.int .i64 x.junction) := HL.out.cell 1
    have a2 : w1.cell? ⟨L, 2, none⟩ = some (.int .i64 x.limit) := HL.out.cell 2
    have a3 : w1.cell? ⟨L, 3, none⟩ = some (.int .i64 x.delay) := HL.out.cell 3
    have a4 : w1.cell? ⟨L, 4, none⟩ = some (.int .i64 x.release) := HL.out.cell 4
    have b0 := HB.out.cell 0
    have b1 := HB.out.cell 1
    have b2 := HB.out.cell 2
    have b3 := HB.out.cell 3
    have b4 := HB.out.cell 4
    simp at b0 b1 b2 b3 b4
    have f0 := HB.out.frozen 0
    have f1 := HB.out.frozen 1
    have f2 := HB.out.frozen 2
    have f3 := HB.out.frozen 3
    have f4 := HB.out.frozen 4
    go_wp2
    (try simp only [Exit.inBlock, Exit.then])
    have HB8 := hid (((((HB.out.set_ 0 (.string x.id)).set_ 1 (.int .i64 x.junction)).set_ 2 (.int .i64 x.limit)).set_ 3 (.int .i64 x.delay)).set_ 4 (.int .i64 x.release))
    refine bodyPost_ret (results_cell_row rfl _ _ R 40 _ (0, 0) _ rfl HB8.out Try.underlying40 rfl (by kernel_rfl)) rfl ?_
    exact ⟨⟨⟨x.id, x.junction, x.limit, x.delay, x.release⟩, rfl, rfl, ⟨by dsimp only; omega, by dsimp only; omega⟩, ⟨by dsimp only; omega, by dsimp only; omega⟩, ⟨by dsimp only; omega, by dsimp only; omega⟩, ⟨by dsimp only; omega, by dsimp only; omega⟩⟩, ((((HS.out.more (by omega)).store hgw hR _ |>.store hgw hR _).store hgw hR _).store hgw hR _).store hgw hR _⟩
end Go.Proofs.Ytopjccbjdcoanaa
