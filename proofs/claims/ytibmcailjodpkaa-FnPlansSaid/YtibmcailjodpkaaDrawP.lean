/- Drawn drills. Contracts that tell bounds alone. -/
import Derived.Test.YtibmcailjodpkaaDrawA
import Derived.Test.YtibmcailjodpkaaXDrill
import Derived.Deep.RegionLaw
import Derived.Laws.Rows
namespace Go.Proofs.Ytibmcailjodpkaa
set_option linter.unusedVariables false
open Go.RowKit
theorem SrcTo.store {g n p i : Nat} {w0 w : World} (h : SrcTo g n w0 w) (hg : g < w0.heap.size) (hp : w0.heap.size ≤ p) (u : Value) : SrcTo g n w0 (w.setCell ⟨p, i, none⟩ u) :=
  h.below (Below.setCell (Below.refl w0.heap.size w) (p := ⟨p, i, none⟩) hp u) (Nat.le_refl _) h.size hg
theorem wrapId (x : Int) (h0 : -9223372036854775808 ≤ x) (h1 : x ≤ 9223372036854775807) : IntKind.i64.wrap x = x := by rw [IntKind.wrap_i64]; omega
/-- a literal list of texts handed to 'text' -/
theorem textLit (g n : Nat) (xs : List ByteArray) (w0 w : World) (h : SrcTo g n w0 w) (hn : n ≤ 549755813888) (hx : 1 ≤ xs.length ∧ xs.length ≤ 1000) (cs : Array Value) (hc : cs = (flat (fun s => [Value.string s]) xs).toArray) (k : Nat) (hk : k = xs.length) (hg : g < w0.heap.size) :
    Calls Try.prog 91 #[.pointer (some ⟨g, 0, none⟩), .slice (some ⟨w.heap.size, 0, none⟩) k k] (w.alloc (.cells cs 9)) fun e w' => (∃ r : ByteArray, e = .returned (.string r) ∧ r ∈ xs) ∧ SrcTo g (n + 2) w0 w' ∧ KeepI g (g + 1) w w' := by
  subst hk
  have hz := h.size
  refine (srcText g n xs w.heap.size (w.heap.size + 1) _ _ (h.1.ext (Ext.new _ _)) hn (lit_slT w 9 xs cs hc hx.2) (.inr (by omega)) ⟨hx.1, by omega⟩).mono ?_
  rintro e w' ⟨hr, hS⟩
  exact ⟨hr, (h.ext (Ext.new _ _)).tr hS, (Ext.new w _).keep.tr hS.2⟩
/-- a drawn drill's numbers are small -/
def SmallD (x : Drill) : Prop := x.crew.size ≤ 10 ∧ (-1 ≤ x.day ∧ x.day ≤ 100001) ∧ (0 ≤ x.persons ∧ x.persons ≤ 201) ∧ (-1 ≤ x.seconds ∧ x.seconds ≤ 36001) ∧ (0 ≤ x.missing ∧ x.missing ≤ 300)
def dAgg (x : Drill) : Value := .agg #[.int .i64 x.day, .string x.crew, .int .i64 x.persons, .int .i64 x.seconds, .int .i64 x.missing]
theorem drawCrew (g n : Nat) (w : World) (h : Src g n w) (hn : n ≤ 2147483648) :
    Calls Try.prog 100 #[.pointer (some ⟨g, 0, none⟩)] w fun e w' => (∃ s : ByteArray, e = .returned (.string s) ∧ s.size ≤ 10) ∧ SrcTo g (n + 2) w w' := by
  have hg := h.lt
  have H := hid (SrcTo.of h (Below.refl _ _))
  clear h
  go_enter Try.func100, Try.ntmps100
  go_wp2_with fail
  refine (textLit g n [⟨#[101, 97, 115, 116]⟩, ⟨#[110, 111, 114, 116, 104]⟩, ⟨#[115, 111, 117, 116, 104]⟩, ⟨#[119, 101, 115, 116]⟩] w w H.out (by omega) (by simp) _ rfl _ rfl hg).mono ?_
  rintro e w1 ⟨⟨s, rfl, hs⟩, hS, _⟩
  have HSZ : Hid (s.size ≤ 10) := hid (by
    simp only [List.mem_cons, List.not_mem_nil, or_false] at hs
    rcases hs with rfl | rfl | rfl | rfl <;> decide)
  have HS := hid hS
  clear hs hS
  go_wp2
  go_ret
  exact ⟨⟨s, rfl, HSZ.out⟩, HS.out⟩
set_option maxRecDepth 100000 in
set_option maxHeartbeats 2000000 in
theorem drillOne (g n : Nat) (w : World) (h : Src g n w) (hn : n ≤ 1073741824) :
    Calls Try.prog 87 #[.pointer (some ⟨g, 0, none⟩)] w fun e w' => (∃ x : Drill, e = .returned (dAgg x) ∧ SmallD x) ∧ SrcTo g (n + 10) w w' := by
  have hg := h.lt
  have H := hid h
  clear h
  go_enter Try.func87, Try.ntmps87
  go_wp2_with fail
  generalize hA : w.alloc _ = wa
  have HB0 := hid (show Blk wa w.heap.size 52 _ by rw [← hA]; exact Blk.new _ _ _)
  have HSa := hid (show SrcTo g n w wa by rw [← hA]; exact SrcTo.of H.out (Ext.new _ _))
  clear hA
  refine (srcPick g n 60 wa HSa.out.1 (by omega) ⟨by omega, by omega⟩).mono ?_
  rintro e w1 ⟨⟨dy, rfl, hj0, hj1⟩, hS⟩
  have HS1 := hid (HSa.out.tr hS)
  have HB1 := hid (HB0.out.keep hS.2 (.inr (by omega)))
  clear hS HSa HB0
  go_wp2_with fail
  refine (drawCrew g (n + 2) w1 HS1.out.1 (by omega)).mono ?_
  rintro e w2 ⟨⟨s, rfl, hs⟩, hS⟩
  have HS2 := hid (HS1.out.tr hS)
  have HB2 := hid (HB1.out.keep hS.2 (.inr (by omega)))
  clear hS HS1 HB1
  go_wp2_with fail
  refine (srcPick g (n + 4) 20 w2 HS2.out.1 (by omega) ⟨by omega, by omega⟩).mono ?_
  rintro e w3 ⟨⟨p, rfl, hp0, hp1⟩, hS⟩
  have HS3 := hid (HS2.out.tr hS)
  have HB3 := hid (HB2.out.keep hS.2 (.inr (by omega)))
  have hlt2 := HB3.out.lt
  clear hS HS2 HB2
  go_wp2_with fail
  generalize hwb : w3.alloc _ = wb
  have hbz : wb.heap.size = w3.heap.size + 1 := by rw [← hwb]; simp
  have HL4 := hid (show Blk wb w3.heap.size 52 #[.int .i64 dy, .string s, .int .i64 (1 + p), .int .i64 0, .int .i64 0] by rw [← hwb]; exact Blk.new _ _ _)
  have HS4 := hid (show SrcTo g (n + 6) w wb by rw [← hwb]; exact HS3.out.ext (Ext.new _ _))
  have HB4 := hid (show Blk wb w.heap.size 52 _ by rw [← hwb]; exact HB3.out.ext (Ext.new _ _))
  clear hwb HS3 HB3
  have hL : w.heap.size ≤ w3.heap.size := Nat.le_of_lt hlt2
  generalize hLe : w3.heap.size = L at *
  refine (srcPick g (n + 6) 900 wb HS4.out.1 (by omega) ⟨by omega, by omega⟩).mono ?_
  rintro e w4 ⟨⟨se, rfl, hs0, hs1⟩, hS⟩
  have HSn := hid (HS4.out.tr hS)
  have HLn := hid (HL4.out.keep hS.2 (.inr (by omega)))
  have HBn := hid (HB4.out.keep hS.2 (.inr (by omega)))
  clear hS HS4 HL4 HB4
  have f_ := HLn.out.frozen 3
  have c_ := HLn.out.cell 3
  simp at c_
  go_wp2_with fail
  have HL5 := hid (HLn.out.set_ 3 (.int .i64 (100 + se)))
  have HB5 : Hid (Blk (w4.setCell ⟨L, 3, none⟩ (.int .i64 (100 + se))) w.heap.size 52 _) := hid (HBn.out.keep ((KeepI.refl L (L + 1) w4).set_ (g := L) (m := 3) (Nat.le_refl _) (Nat.lt_succ_self _) (.int .i64 (100 + se))) (.inl (by omega)))
  have HS5 := hid (HSn.out.store (i := 3) hg hL (.int .i64 (100 + se)))
  have hz5 := HS5.out.size
  change Hid (Blk _ L _ #[.int .i64 dy, .string s, .int .i64 (1 + p), .int .i64 (100 + se), .int .i64 0]) at HL5
  clear f_ c_ HLn HBn HSn
  generalize hw5 : w4.setCell ⟨L, 3, none⟩ (.int .i64 (100 + se)) = w5 at *
  have hw5z : w4.heap.size = w5.heap.size := by rw [← hw5]; simp [World.setCell]
  clear hw5
  try rw [hw5z]
  clear hw5z
  refine (amongLit g (n + 6 + 2) [0, 0, 0, 1] w w5 HS5.out (by omega) (by simp) _ rfl _ rfl hg).mono ?_
  rintro e w6 ⟨⟨mi, rfl, hm⟩, hS, hK⟩
  have hmb : mi = 0 ∨ mi = 1 := by simpa using hm
  have HSn := hid hS
  have HLn := hid (HL5.out.keep hK (.inr (by omega)))
  have HBn := hid (HB5.out.keep hK (.inr (by omega)))
  clear hS hK hm HS5 HL5 HB5
  have f_ := HLn.out.frozen 4
  have hLl := HLn.out.lt
  have hRl := HBn.out.lt
  have hgw := hg
  have hR : w.heap.size ≤ w.heap.size := Nat.le_refl _
  have hLR : ¬ L = w.heap.size := by omega
  have hRL : ¬ w.heap.size = L := by omega
  have a0 : w6.cell? ⟨L, 0, none⟩ = some (.int .i64 dy) := HLn.out.cell 0
  have a1 : w6.cell? ⟨L, 1, none⟩ = some (.string s) := HLn.out.cell 1
  have a2 : w6.cell? ⟨L, 2, none⟩ = some (.int .i64 (1 + p)) := HLn.out.cell 2
  have a3 : w6.cell? ⟨L, 3, none⟩ = some (.int .i64 (100 + se)) := HLn.out.cell 3
  have a4 : w6.cell? ⟨L, 4, none⟩ = some (.int .i64 0) := HLn.out.cell 4
  have b0 := HBn.out.cell 0
  have b1 := HBn.out.cell 1
  have b2 := HBn.out.cell 2
  have b3 := HBn.out.cell 3
  have b4 := HBn.out.cell 4
  simp at b0 b1 b2 b3 b4
  have f0 := HBn.out.frozen 0
  have f1 := HBn.out.frozen 1
  have f2 := HBn.out.frozen 2
  have f3 := HBn.out.frozen 3
  have f4 := HBn.out.frozen 4
  go_wp2
  (try simp only [Exit.inBlock, Exit.then])
  have HB : Hid (Blk (w6.setCell ⟨L, 4, none⟩ (.int .i64 mi)) w.heap.size 52 _) := hid (HBn.out.keep ((KeepI.refl L (L + 1) w6).set_ (g := L) (m := 4) (Nat.le_refl _) (Nat.lt_succ_self _) (.int .i64 mi)) (.inl (by omega)))
  have HS := hid (HSn.out.store (i := 4) hgw hL (.int .i64 mi))
  have HB8 := hid (((((HB.out.set_ 0 (.int .i64 dy)).set_ 1 (.string s)).set_ 2 (.int .i64 (1 + p))).set_ 3 (.int .i64 (100 + se))).set_ 4 (.int .i64 mi))
  refine bodyPost_ret (results_cell_row rfl _ _ w.heap.size 52 _ (0, 0) _ rfl HB8.out Try.underlying52 rfl (by kernel_rfl)) rfl ?_
  exact ⟨⟨⟨dy, s, (1 + p), (100 + se), mi⟩, rfl, hs, ⟨by dsimp only; omega, by dsimp only; omega⟩, ⟨by dsimp only; omega, by dsimp only; omega⟩, ⟨by dsimp only; omega, by dsimp only; omega⟩, ⟨by dsimp only; omega, by dsimp only; omega⟩⟩, ((((HS.out.more (by omega)).store hgw hR _ |>.store hgw hR _).store hgw hR _).store hgw hR _).store hgw hR _⟩
set_option maxRecDepth 100000 in
set_option maxHeartbeats 4000000 in
theorem bendD (g n : Nat) (x : Drill) (hx : SmallD x) (w : World) (h : Src g n w) (hn : n ≤ 1073741824) :
    Calls Try.prog 88 #[.pointer (some ⟨g, 0, none⟩), dAgg x] w fun e w' => (∃ y : Drill, e = .returned (dAgg y) ∧ SmallD y) ∧ SrcTo g (n + 8) w w' := by
  have hg := h.lt
  have H := hid h
  obtain ⟨hxs, ⟨hx1, hx2⟩, ⟨hx3, hx4⟩, ⟨hx5, hx6⟩, ⟨hx7, hx8⟩⟩ := hx
  clear h
  unfold dAgg
  go_enter Try.func88, Try.ntmps88
  go_wp2_with fail
  generalize hA : (w.alloc (.cells #[.int .i64 x.day, .string x.crew, .int .i64 x.persons, .int .i64 x.seconds, .int .i64 x.missing] 52)).alloc _ = wa
  have HL0 := hid (show Blk wa w.heap.size 52 #[.int .i64 x.day, .string x.crew, .int .i64 x.persons, .int .i64 x.seconds, .int .i64 x.missing] by rw [← hA]; exact (Blk.new _ _ _).ext (Ext.new _ _))
  have HB0 := hid (show Blk wa (w.heap.size + 1) 52 _ by rw [← hA]; have := Blk.new (w.alloc (.cells #[.int .i64 x.day, .string x.crew, .int .i64 x.persons, .int .i64 x.seconds, .int .i64 x.missing] 52)); simpa using this _ _)
  have HSa := hid (show SrcTo g n w wa by rw [← hA]; exact SrcTo.of H.out (Ext.tr (Ext.new _ _) (Ext.new _ _)))
  clear hA
  refine (srcPick g n 20 wa HSa.out.1 (by omega) ⟨by omega, by omega⟩).mono ?_
  rintro e w1 ⟨⟨q, rfl, hq0, hq1⟩, hS⟩
  have HS := hid (HSa.out.tr hS)
  have HL := hid (HL0.out.keep hS.2 (.inr (by omega)))
  have HB := hid (HB0.out.keep hS.2 (.inr (by omega)))
  have hltB := HB.out.lt
  clear hS HL0 HB0 HSa
  generalize hLe : w.heap.size = L at *
  generalize hRe : L + 1 = R at *
  have hgw : g < w.heap.size := by omega
  have hR : w.heap.size ≤ R := by omega
  have hL : w.heap.size ≤ L := by omega
  have hLl := HL.out.lt
  have hcc : q = 0 ∨ q = 1 ∨ q = 2 ∨ q = 3 ∨ (¬ q = 0 ∧ ¬ q = 1 ∧ ¬ q = 2 ∧ ¬ q = 3) := by omega
  rcases hcc with rfl | rfl | rfl | rfl | ⟨hq0, hq1, hq2, hq3⟩
  · go_wp2_with fail
    refine (amongLit g (n + 2) [-1, 100000, 100001] w w1 HS.out (by omega) (by simp) _ rfl _ rfl hgw).mono ?_
    rintro e w3 ⟨⟨y, rfl, hy⟩, hS, hK⟩
    have hyb : y = -1 ∨ y = 100000 ∨ y = 100001 := by simpa using hy
    have HSn := hid hS
    have HLn := hid (HL.out.keep hK (.inr (by omega)))
    have HBn := hid (HB.out.keep hK (.inr (by omega)))
    clear hS hK hy HS HL HB
    have f_ := HLn.out.frozen 0
    have hLl := HLn.out.lt
    have hRl := HBn.out.lt
    have a0 : w3.cell? ⟨L, 0, none⟩ = some (.int .i64 x.day) := HLn.out.cell 0
    have a1 : w3.cell? ⟨L, 1, none⟩ = some (.string x.crew) := HLn.out.cell 1
    have a2 : w3.cell? ⟨L, 2, none⟩ = some (.int .i64 x.persons) := HLn.out.cell 2
    have a3 : w3.cell? ⟨L, 3, none⟩ = some (.int .i64 x.seconds) := HLn.out.cell 3
    have a4 : w3.cell? ⟨L, 4, none⟩ = some (.int .i64 x.missing) := HLn.out.cell 4
    have b0 := HBn.out.cell 0
    have b1 := HBn.out.cell 1
    have b2 := HBn.out.cell 2
    have b3 := HBn.out.cell 3
    have b4 := HBn.out.cell 4
    simp at b0 b1 b2 b3 b4
    have f0 := HBn.out.frozen 0
    have f1 := HBn.out.frozen 1
    have f2 := HBn.out.frozen 2
    have f3 := HBn.out.frozen 3
    have f4 := HBn.out.frozen 4
    have hLR : ¬ L = R := by omega
    have hRL : ¬ R = L := by omega
    go_wp2
    (try simp only [Exit.inBlock, Exit.then])
    have HB : Hid (Blk (w3.setCell ⟨L, 0, none⟩ (.int .i64 y)) R 52 _) := hid (HBn.out.keep ((KeepI.refl L (L + 1) w3).set_ (g := L) (m := 0) (Nat.le_refl _) (Nat.lt_succ_self _) (.int .i64 y)) (.inr (by omega)))
    have HS := hid (HSn.out.store (i := 0) hgw hL (.int .i64 y))
    have HB8 := hid (((((HB.out.set_ 0 (.int .i64 y)).set_ 1 (.string x.crew)).set_ 2 (.int .i64 x.persons)).set_ 3 (.int .i64 x.seconds)).set_ 4 (.int .i64 x.missing))
    refine bodyPost_ret (results_cell_row rfl _ _ R 52 _ (0, 0) _ rfl HB8.out Try.underlying52 rfl (by kernel_rfl)) rfl ?_
    exact ⟨⟨⟨y, x.crew, x.persons, x.seconds, x.missing⟩, rfl, hxs, ⟨by dsimp only; omega, by dsimp only; omega⟩, ⟨by dsimp only; omega, by dsimp only; omega⟩, ⟨by dsimp only; omega, by dsimp only; omega⟩, ⟨by dsimp only; omega, by dsimp only; omega⟩⟩, ((((HS.out.more (by omega)).store hgw hR _ |>.store hgw hR _).store hgw hR _).store hgw hR _).store hgw hR _⟩
  · go_wp2_with fail
    refine (amongLit g (n + 2) [0, 200, 201] w w1 HS.out (by omega) (by simp) _ rfl _ rfl hgw).mono ?_
    rintro e w3 ⟨⟨y, rfl, hy⟩, hS, hK⟩
    have hyb : y = 0 ∨ y = 200 ∨ y = 201 := by simpa using hy
    have HSn := hid hS
    have HLn := hid (HL.out.keep hK (.inr (by omega)))
    have HBn := hid (HB.out.keep hK (.inr (by omega)))
    clear hS hK hy HS HL HB
    have f_ := HLn.out.frozen 2
    have hLl := HLn.out.lt
    have hRl := HBn.out.lt
    have a0 : w3.cell? ⟨L, 0, none⟩ = some (.int .i64 x.day) := HLn.out.cell 0
    have a1 : w3.cell? ⟨L, 1, none⟩ = some (.string x.crew) := HLn.out.cell 1
    have a2 : w3.cell? ⟨L, 2, none⟩ = some (.int .i64 x.persons) := HLn.out.cell 2
    have a3 : w3.cell? ⟨L, 3, none⟩ = some (.int .i64 x.seconds) := HLn.out.cell 3
    have a4 : w3.cell? ⟨L, 4, none⟩ = some (.int .i64 x.missing) := HLn.out.cell 4
    have b0 := HBn.out.cell 0
    have b1 := HBn.out.cell 1
    have b2 := HBn.out.cell 2
    have b3 := HBn.out.cell 3
    have b4 := HBn.out.cell 4
    simp at b0 b1 b2 b3 b4
    have f0 := HBn.out.frozen 0
    have f1 := HBn.out.frozen 1
    have f2 := HBn.out.frozen 2
    have f3 := HBn.out.frozen 3
    have f4 := HBn.out.frozen 4
    have hLR : ¬ L = R := by omega
    have hRL : ¬ R = L := by omega
    go_wp2
    (try simp only [Exit.inBlock, Exit.then])
    have HB : Hid (Blk (w3.setCell ⟨L, 2, none⟩ (.int .i64 y)) R 52 _) := hid (HBn.out.keep ((KeepI.refl L (L + 1) w3).set_ (g := L) (m := 2) (Nat.le_refl _) (Nat.lt_succ_self _) (.int .i64 y)) (.inr (by omega)))
    have HS := hid (HSn.out.store (i := 2) hgw hL (.int .i64 y))
    have HB8 := hid (((((HB.out.set_ 0 (.int .i64 x.day)).set_ 1 (.string x.crew)).set_ 2 (.int .i64 y)).set_ 3 (.int .i64 x.seconds)).set_ 4 (.int .i64 x.missing))
    refine bodyPost_ret (results_cell_row rfl _ _ R 52 _ (0, 0) _ rfl HB8.out Try.underlying52 rfl (by kernel_rfl)) rfl ?_
    exact ⟨⟨⟨x.day, x.crew, y, x.seconds, x.missing⟩, rfl, hxs, ⟨by dsimp only; omega, by dsimp only; omega⟩, ⟨by dsimp only; omega, by dsimp only; omega⟩, ⟨by dsimp only; omega, by dsimp only; omega⟩, ⟨by dsimp only; omega, by dsimp only; omega⟩⟩, ((((HS.out.more (by omega)).store hgw hR _ |>.store hgw hR _).store hgw hR _).store hgw hR _).store hgw hR _⟩
  · go_wp2_with fail
    refine (amongLit g (n + 2) [-1, 36000, 36001] w w1 HS.out (by omega) (by simp) _ rfl _ rfl hgw).mono ?_
    rintro e w3 ⟨⟨y, rfl, hy⟩, hS, hK⟩
    have hyb : y = -1 ∨ y = 36000 ∨ y = 36001 := by simpa using hy
    have HSn := hid hS
    have HLn := hid (HL.out.keep hK (.inr (by omega)))
    have HBn := hid (HB.out.keep hK (.inr (by omega)))
    clear hS hK hy HS HL HB
    have f_ := HLn.out.frozen 3
    have hLl := HLn.out.lt
    have hRl := HBn.out.lt
    have a0 : w3.cell? ⟨L, 0, none⟩ = some (.int .i64 x.day) := HLn.out.cell 0
    have a1 : w3.cell? ⟨L, 1, none⟩ = some (.string x.crew) := HLn.out.cell 1
    have a2 : w3.cell? ⟨L, 2, none⟩ = some (.int .i64 x.persons) := HLn.out.cell 2
    have a3 : w3.cell? ⟨L, 3, none⟩ = some (.int .i64 x.seconds) := HLn.out.cell 3
    have a4 : w3.cell? ⟨L, 4, none⟩ = some (.int .i64 x.missing) := HLn.out.cell 4
    have b0 := HBn.out.cell 0
    have b1 := HBn.out.cell 1
    have b2 := HBn.out.cell 2
    have b3 := HBn.out.cell 3
    have b4 := HBn.out.cell 4
    simp at b0 b1 b2 b3 b4
    have f0 := HBn.out.frozen 0
    have f1 := HBn.out.frozen 1
    have f2 := HBn.out.frozen 2
    have f3 := HBn.out.frozen 3
    have f4 := HBn.out.frozen 4
    have hLR : ¬ L = R := by omega
    have hRL : ¬ R = L := by omega
    go_wp2
    (try simp only [Exit.inBlock, Exit.then])
    have HB : Hid (Blk (w3.setCell ⟨L, 3, none⟩ (.int .i64 y)) R 52 _) := hid (HBn.out.keep ((KeepI.refl L (L + 1) w3).set_ (g := L) (m := 3) (Nat.le_refl _) (Nat.lt_succ_self _) (.int .i64 y)) (.inr (by omega)))
    have HS := hid (HSn.out.store (i := 3) hgw hL (.int .i64 y))
    have HB8 := hid (((((HB.out.set_ 0 (.int .i64 x.day)).set_ 1 (.string x.crew)).set_ 2 (.int .i64 x.persons)).set_ 3 (.int .i64 y)).set_ 4 (.int .i64 x.missing))
    refine bodyPost_ret (results_cell_row rfl _ _ R 52 _ (0, 0) _ rfl HB8.out Try.underlying52 rfl (by kernel_rfl)) rfl ?_
    exact ⟨⟨⟨x.day, x.crew, x.persons, y, x.missing⟩, rfl, hxs, ⟨by dsimp only; omega, by dsimp only; omega⟩, ⟨by dsimp only; omega, by dsimp only; omega⟩, ⟨by dsimp only; omega, by dsimp only; omega⟩, ⟨by dsimp only; omega, by dsimp only; omega⟩⟩, ((((HS.out.more (by omega)).store hgw hR _ |>.store hgw hR _).store hgw hR _).store hgw hR _).store hgw hR _⟩
  · have HD := hid (HS.out.1.ext (Ext.drewN w1 1))
    have HSD := hid (HS.out.ext (Ext.drewN w1 1))
    have c2 : w1.cell? ⟨L, 2, none⟩ = some (.int .i64 x.persons) := HL.out.cell 2
    have c4 : w1.cell? ⟨L, 4, none⟩ = some (.int .i64 x.missing) := HL.out.cell 4
    have f4 := HL.out.frozen 4
    go_wp2_with fail
    go_region_law (first | (go_simp; go_at_call 89; refine (amongLit g (n + 2) [0, 1] w (w1.drewN 1) HSD.out (by omega) (by simp) _ rfl _ rfl hgw).mono ?_; rintro e w3 ⟨⟨y, rfl, hy⟩, hS3, hK3⟩; have HLn := hid ((HL.out.ext (Ext.drewN w1 1)).keep hK3 (.inr (by omega))); have d2 : w3.cell? ⟨L, 2, none⟩ = some (.int .i64 x.persons) := HLn.out.cell 2; have d4 : w3.cell? ⟨L, 4, none⟩ = some (.int .i64 x.missing) := HLn.out.cell 4; have e4 := HLn.out.frozen 4))
    all_goals
      have hyb : y = 0 ∨ y = 1 := by simpa using hy
      have hwr := wrapId (x.persons + y) (by omega) (by omega)
      rw [hwr]
      have HBn := hid ((HB.out.ext (Ext.drewN w1 1)).keep hK3 (.inr (by omega)))
      have HSn := hid hS3
      clear HL HB HS HSD HD
      have HL := hid (HLn.out.set_ 4 (.int .i64 (x.persons + y)))
      have HB : Hid (Blk (w3.setCell ⟨L, 4, none⟩ (.int .i64 (x.persons + y))) R 52 _) := hid (HBn.out.keep ((KeepI.refl L (L + 1) w3).set_ (g := L) (m := 4) (Nat.le_refl _) (Nat.lt_succ_self _) (.int .i64 (x.persons + y))) (.inr (by omega)))
      have HS := hid (HSn.out.store (i := 4) hgw hL (.int .i64 (x.persons + y)))
      change Hid (Blk _ L _ #[.int .i64 x.day, .string x.crew, .int .i64 x.persons, .int .i64 x.seconds, .int .i64 (x.persons + y)]) at HL
      clear hS3 hK3 hy c2 c4 f4 d2 d4 e4 HSn HLn HBn hwr
      generalize w3.setCell ⟨L, 4, none⟩ (.int .i64 (x.persons + y)) = w7 at *
      have a0 : w7.cell? ⟨L, 0, none⟩ = some (.int .i64 x.day) := HL.out.cell 0
      have a1 : w7.cell? ⟨L, 1, none⟩ = some (.string x.crew) := HL.out.cell 1
      have a2 : w7.cell? ⟨L, 2, none⟩ = some (.int .i64 x.persons) := HL.out.cell 2
      have a3 : w7.cell? ⟨L, 3, none⟩ = some (.int .i64 x.seconds) := HL.out.cell 3
      have a4 : w7.cell? ⟨L, 4, none⟩ = some (.int .i64 (x.persons + y)) := HL.out.cell 4
      have b0 := HB.out.cell 0
      have b1 := HB.out.cell 1
      have b2 := HB.out.cell 2
      have b3 := HB.out.cell 3
      have b4 := HB.out.cell 4
      simp at b0 b1 b2 b3 b4
      have f0 := HB.out.frozen 0
      have f1 := HB.out.frozen 1
      have f2 := HB.out.frozen 2
      have f3 := HB.out.frozen 3
      have f4 := HB.out.frozen 4
      go_wp2
      (try simp only [Exit.inBlock, Exit.then])
      have HB8 := hid (((((HB.out.set_ 0 (.int .i64 x.day)).set_ 1 (.string x.crew)).set_ 2 (.int .i64 x.persons)).set_ 3 (.int .i64 x.seconds)).set_ 4 (.int .i64 (x.persons + y)))
      refine bodyPost_ret (results_cell_row rfl _ _ R 52 _ (0, 0) _ rfl HB8.out Try.underlying52 rfl (by kernel_rfl)) rfl ?_
      exact ⟨⟨⟨x.day, x.crew, x.persons, x.seconds, (x.persons + y)⟩, rfl, hxs, ⟨by dsimp only; omega, by dsimp only; omega⟩, ⟨by dsimp only; omega, by dsimp only; omega⟩, ⟨by dsimp only; omega, by dsimp only; omega⟩, ⟨by dsimp only; omega, by dsimp only; omega⟩⟩, ((((HS.out.more (by omega)).store hgw hR _ |>.store hgw hR _).store hgw hR _).store hgw hR _).store hgw hR _⟩
  · have e0 : (q == 0) = false := by simpa using hq0
    have e1 : (q == 1) = false := by simpa using hq1
    have e2 : (q == 2) = false := by simpa using hq2
    have e3 : (q == 3) = false := by simpa using hq3
    clear hq0 hq1 hq2 hq3
    have a0 : w1.cell? ⟨L, 0, none⟩ = some (.int .i64 x.day) := HL.out.cell 0
    have a1 : w1.cell? ⟨L, 1, none⟩ = some (.string x.crew) := HL.out.cell 1
    have a2 : w1.cell? ⟨L, 2, none⟩ = some (.int .i64 x.persons) := HL.out.cell 2
    have a3 : w1.cell? ⟨L, 3, none⟩ = some (.int .i64 x.seconds) := HL.out.cell 3
    have a4 : w1.cell? ⟨L, 4, none⟩ = some (.int .i64 x.missing) := HL.out.cell 4
    have b0 := HB.out.cell 0
    have b1 := HB.out.cell 1
    have b2 := HB.out.cell 2
    have b3 := HB.out.cell 3
    have b4 := HB.out.cell 4
    simp at b0 b1 b2 b3 b4
    have f0 := HB.out.frozen 0
    have f1 := HB.out.frozen 1
    have f2 := HB.out.frozen 2
    have f3 := HB.out.frozen 3
    have f4 := HB.out.frozen 4
    go_wp2
    (try simp only [Exit.inBlock, Exit.then])
    have HB8 := hid (((((HB.out.set_ 0 (.int .i64 x.day)).set_ 1 (.string x.crew)).set_ 2 (.int .i64 x.persons)).set_ 3 (.int .i64 x.seconds)).set_ 4 (.int .i64 x.missing))
    refine bodyPost_ret (results_cell_row rfl _ _ R 52 _ (0, 0) _ rfl HB8.out Try.underlying52 rfl (by kernel_rfl)) rfl ?_
    exact ⟨⟨⟨x.day, x.crew, x.persons, x.seconds, x.missing⟩, rfl, hxs, ⟨by dsimp only; omega, by dsimp only; omega⟩, ⟨by dsimp only; omega, by dsimp only; omega⟩, ⟨by dsimp only; omega, by dsimp only; omega⟩, ⟨by dsimp only; omega, by dsimp only; omega⟩⟩, ((((HS.out.more (by omega)).store hgw hR _ |>.store hgw hR _).store hgw hR _).store hgw hR _).store hgw hR _⟩
end Go.Proofs.Ytibmcailjodpkaa
