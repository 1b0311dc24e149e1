/- Drawn sensors. Contracts that tell bounds alone. -/
import Derived.Test.YtopjccbjdcoanaaDrawB
import Derived.Test.YtopjccbjdcoanaaXSensor
import Derived.Deep.RegionLaw
import Derived.Laws.Rows
namespace Go.Proofs.Ytopjccbjdcoanaa
set_option linter.unusedVariables false
open Go.RowKit
/-- a drawn sensor's numbers are small -/
def Small (x : Sensor) : Prop := (-1 ≤ x.junction ∧ x.junction ≤ 100) ∧ (-1 ≤ x.limit ∧ x.limit ≤ 1000001) ∧ (0 ≤ x.delay ∧ x.delay ≤ 100) ∧ (-100 ≤ x.release ∧ x.release ≤ 1000002)
def sAgg (x : Sensor) : Value := .agg #[.string x.id, .int .i64 x.junction, .int .i64 x.limit, .int .i64 x.delay, .int .i64 x.release]
theorem SrcTo.store {g n p i : Nat} {w0 w : World} (h : SrcTo g n w0 w) (hg : g < w0.heap.size) (hp : w0.heap.size ≤ p) (u : Value) : SrcTo g n w0 (w.setCell ⟨p, i, none⟩ u) :=
  h.below (Below.setCell (Below.refl w0.heap.size w) (p := ⟨p, i, none⟩) hp u) (Nat.le_refl _) h.size hg
theorem wrapId (x : Int) (h0 : -9223372036854775808 ≤ x) (h1 : x ≤ 9223372036854775807) : IntKind.i64.wrap x = x := by rw [IntKind.wrap_i64]; omega
set_option maxRecDepth 100000 in
set_option maxHeartbeats 2000000 in
theorem drawOne (g n : Nat) (sid : ByteArray) (w : World) (h : Src g n w) (hn : n ≤ 1073741824) :
    Calls Try.prog 85 #[.pointer (some ⟨g, 0, none⟩), .string sid] w fun e w' => (∃ x : Sensor, e = .returned (sAgg x) ∧ x.id = sid ∧ Small x) ∧ SrcTo g (n + 8) w w' := by
  have hg := h.lt
  have H := hid h
  clear h
  go_enter Try.func85, Try.ntmps85
  go_wp2_with fail
  generalize hA : w.alloc _ = wa
  have HB0 := hid (show Blk wa w.heap.size 40 _ by rw [← hA]; exact Blk.new _ _ _)
  have HSa := hid (show SrcTo g n w wa by rw [← hA]; exact SrcTo.of H.out (Ext.new _ _))
  clear hA
  refine (srcPick g n 6 wa HSa.out.1 (by omega) ⟨by omega, by omega⟩).mono ?_
  rintro e w1 ⟨⟨j, rfl, hj0, hj1⟩, hS⟩
  have HS1 := hid (HSa.out.tr hS)
  have HB1 := hid (HB0.out.keep hS.2 (.inr (by omega)))
  clear hS
  go_wp2_with fail
  refine (srcPick g (n + 2) 10 w1 HS1.out.1 (by omega) ⟨by omega, by omega⟩).mono ?_
  rintro e w2 ⟨⟨l, rfl, hl0, hl1⟩, hS⟩
  have HS2 := hid (HS1.out.tr hS)
  have HB2 := hid (HB1.out.keep hS.2 (.inr (by omega)))
  have hlt2 := HB2.out.lt
  clear hS HB0 HB1
  go_wp2_with fail
  generalize hwb : w2.alloc (.cells #[.string sid, .int .i64 j, .int .i64 (5 + l), .int .i64 0, .int .i64 0] 40) = wb
  have hbz : wb.heap.size = w2.heap.size + 1 := by rw [← hwb]; simp
  have HL3 := hid (show Blk wb w2.heap.size 40 #[.string sid, .int .i64 j, .int .i64 (5 + l), .int .i64 0, .int .i64 0] by rw [← hwb]; exact Blk.new _ _ _)
  have HS3 := hid (show SrcTo g (n + 4) w wb by rw [← hwb]; exact HS2.out.ext (Ext.new _ _))
  have HB3 := hid (show Blk wb w.heap.size 40 _ by rw [← hwb]; exact HB2.out.ext (Ext.new _ _))
  clear hwb HS2 HB2 HS1 HSa
  rw [← hbz]
  refine (amongLit g (n + 4) [1, 1, 2, 3] w wb HS3.out (by omega) (by simp) _ rfl _ rfl hg).mono ?_
  rintro e w3 ⟨⟨d, rfl, hd⟩, hS, hK⟩
  have hdb : 1 ≤ d ∧ d ≤ 3 := by
    simp only [List.mem_cons, List.not_mem_nil, or_false] at hd
    omega
  obtain ⟨hd0, hd1⟩ := hdb
  have HS4 := hid hS
  have HL4 := hid (HL3.out.keep hK (.inr (by omega)))
  have HB4 := hid (HB3.out.keep hK (.inr (by omega)))
  have hz4 := hS.size
  clear hS hK hd HL3 HB3 HS3
  have c3 := HL4.out.cell 3
  have f3 := HL4.out.frozen 3
  have hlL := HL4.out.lt
  have hgL : g < w2.heap.size := by omega
  have hwL : w.heap.size < w2.heap.size := hlt2
  generalize w2.heap.size = L at *
  go_wp2_with fail
  have HL5 := hid (HL4.out.set_ 3 (.int .i64 d))
  have HB5 := hid (show Blk (w3.setCell ⟨L, 3, none⟩ (.int .i64 d)) w.heap.size 40 _ from HB4.out.keep ((KeepI.refl L (L + 1) w3).set_ (g := L) (m := 3) (Nat.le_refl _) (Nat.lt_succ_self _) (.int .i64 d)) (.inl hwL))
  have HS5 := hid (HS4.out.below (Below.setCell (Below.refl L w3) (p := ⟨L, 3, none⟩) (Nat.le_refl _) (.int .i64 d)) (by omega) (by omega) hgL)
  change Hid (Blk _ L _ #[.string sid, .int .i64 j, .int .i64 (5 + l), .int .i64 d, .int .i64 0]) at HL5
  generalize w3.setCell ⟨L, 3, none⟩ (.int .i64 d) = w5 at *
  clear c3 f3 HL4 HB4 HS4
  have c2 := HL5.out.cell 2
  have c4 := HL5.out.cell 4
  have f4 := HL5.out.frozen 4
  change w5.cell? ⟨L, 2, none⟩ = some (.int .i64 (5 + l)) at c2
  change w5.cell? ⟨L, 4, none⟩ = some (.int .i64 0) at c4
  have HD := hid (HS5.out.1.ext (Ext.drewN w5 1))
  go_region_law (first | (go_simp; go_at_call 46; refine (srcPick g (n + 4 + 2) 5 _ HD.out (by omega) ⟨by omega, by omega⟩).mono ?_; rintro e w6 ⟨⟨r, rfl, hr0, hr1⟩, hS6⟩; have HL6 := hid ((HL5.out.ext (Ext.drewN w5 1)).keep hS6.2 (.inr (by omega))); have d2 : w6.cell? ⟨L, 2, none⟩ = some (.int .i64 (5 + l)) := HL6.out.cell 2; have d4 : w6.cell? ⟨L, 4, none⟩ = some (.int .i64 0) := HL6.out.cell 4; have e4 := HL6.out.frozen 4))
  all_goals
    have hwr := wrapId (5 + l - r) (by omega) (by omega)
    rw [hwr]
    have HL7 := hid (HL6.out.set_ 4 (.int .i64 (5 + l - r)))
    change Hid (Blk _ L _ #[.string sid, .int .i64 j, .int .i64 (5 + l), .int .i64 d, .int .i64 (5 + l - r)]) at HL7
    have HB6 := hid ((HB5.out.ext (Ext.drewN w5 1)).keep hS6.2 (.inr (by omega)))
    have HB7 := hid (show Blk (w6.setCell ⟨L, 4, none⟩ (.int .i64 (5 + l - r))) w.heap.size 40 _ from HB6.out.keep ((KeepI.refl L (L + 1) w6).set_ (g := L) (m := 4) (Nat.le_refl _) (Nat.lt_succ_self _) (.int .i64 (5 + l - r))) (.inl hwL))
    have HS7 := hid (((HS5.out.ext (Ext.drewN w5 1)).tr hS6).store (i := 4) hg (Nat.le_of_lt hwL) (.int .i64 (5 + l - r)))
    clear hS6 HL6 HB6 HS5 HL5 HB5 c2 c4 f4 d2 d4 e4 HD hwr
    generalize w6.setCell ⟨L, 4, none⟩ (.int .i64 (5 + l - r)) = w7 at *
    have a0 : w7.cell? ⟨L, 0, none⟩ = some (.string sid) := HL7.out.cell 0
    have a1 : w7.cell? ⟨L, 1, none⟩ = some (.int .i64 j) := HL7.out.cell 1
    have a2 : w7.cell? ⟨L, 2, none⟩ = some (.int .i64 (5 + l)) := HL7.out.cell 2
    have a3 : w7.cell? ⟨L, 3, none⟩ = some (.int .i64 d) := HL7.out.cell 3
    have a4 : w7.cell? ⟨L, 4, none⟩ = some (.int .i64 (5 + l - r)) := HL7.out.cell 4
    have b0 := HB7.out.cell 0
    have b1 := HB7.out.cell 1
    have b2 := HB7.out.cell 2
    have b3 := HB7.out.cell 3
    have b4 := HB7.out.cell 4
    simp at b0 b1 b2 b3 b4
    have f0 := HB7.out.frozen 0
    have f1 := HB7.out.frozen 1
    have f2 := HB7.out.frozen 2
    have f3 := HB7.out.frozen 3
    have f4 := HB7.out.frozen 4
    go_wp2
    (try simp only [Exit.inBlock, Exit.then])
    have HB8 := hid (((((HB7.out.set_ 0 (.string sid)).set_ 1 (.int .i64 j)).set_ 2 (.int .i64 (5 + l))).set_ 3 (.int .i64 d)).set_ 4 (.int .i64 (5 + l - r)))
    refine bodyPost_ret (results_cell_row rfl _ _ w.heap.size 40 _ (0, 0) _ rfl HB8.out Try.underlying40 rfl (by kernel_rfl)) rfl ?_
    exact ⟨⟨⟨sid, j, 5 + l, d, 5 + l - r⟩, rfl, rfl, ⟨by dsimp only; omega, by dsimp only; omega⟩, ⟨by dsimp only; omega, by dsimp only; omega⟩, ⟨by dsimp only; omega, by dsimp only; omega⟩, ⟨by dsimp only; omega, by dsimp only; omega⟩⟩, ((((HS7.out.store hg (Nat.le_refl _) _).store hg (Nat.le_refl _) _).store hg (Nat.le_refl _) _).store hg (Nat.le_refl _) _).store hg (Nat.le_refl _) _⟩
end Go.Proofs.Ytopjccbjdcoanaa
