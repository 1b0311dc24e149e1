/- Choices out of bytes: contracts of the draws' source that tell bounds alone. Plain otherwise. -/
import Derived.Test.YtopjccbjdcoanaaNums
import Derived.Test.YtopjccbjdcoanaaOk
import Derived.BigQuiet
import Derived.Laws.BitsAllLaws
namespace Go.Proofs.Ytopjccbjdcoanaa
set_option linter.unusedVariables false
open Go.RowKit
def encB (b : Int) : List Value := [.int .u8 b]
theorem encB_len (b : Int) : (encB b).length = 1 := rfl
theorem cellsB {xs : List Int} {w : World} {b off : Nat} (hc : ∀ j u, (flat encB xs)[j]? = some u → w.cell? ⟨b, off + j, none⟩ = some u) (i : Nat) (hi : i < xs.length) : w.cell? ⟨b, off + i, none⟩ = some (.int .u8 xs[i]) := by
  have := cell_flat encB_len hc i hi 0 _ (by omega) rfl
  simpa using this
def SrcC (cv : Value) (at_ seed : Int) : Array Value := #[cv, .int .i64 at_, .int .u64 seed]
/-- block g is a source of choices that has read at most n bytes; its bytes lie below it -/
def Src (g n : Nat) (w : World) : Prop := ∃ (lo hi : Nat) (cv : Value) (bs : List Int) (k : Nat) (seed : Int), hi ≤ g ∧ Sl lo hi w 1 cv bs.length (flat encB bs) ∧ (∀ b ∈ bs, 0 ≤ b ∧ b ≤ 255) ∧ Blk w g 101 (SrcC cv k seed) ∧ k ≤ n ∧ 0 ≤ seed ∧ seed < 18446744073709551616
theorem Src.ext {g n : Nat} {w w' : World} (h : Src g n w) (hE : Ext w w') : Src g n w' := by
  obtain ⟨lo, hi, cv, bs, k, seed, h1, h2, h3, h4, h5⟩ := h
  exact ⟨lo, hi, cv, bs, k, seed, h1, h2.ext hE, h3, h4.ext hE, h5⟩
theorem Src.more {g n m : Nat} {w : World} (h : Src g n w) (hm : n ≤ m) : Src g m w := by
  obtain ⟨lo, hi, cv, bs, k, seed, h1, h2, h3, h4, h5, h6⟩ := h
  exact ⟨lo, hi, cv, bs, k, seed, h1, h2, h3, h4, by omega, h6⟩
theorem Src.lt {g n : Nat} {w : World} (h : Src g n w) : g < w.heap.size := by
  obtain ⟨_, _, _, _, _, _, _, _, _, h4, _⟩ := h; exact h4.lt
theorem Src.keep {g n a b : Nat} {w w' : World} (h : Src g n w) (hK : KeepI a b w w') (hg : g < a) : Src g n w' := by
  obtain ⟨lo, hi, cv, bs, k, seed, h1, h2, h3, h4, h5⟩ := h
  exact ⟨lo, hi, cv, bs, k, seed, h1, h2.keep hK (.inl (by omega)), h3, h4.keep hK (.inl hg), h5⟩
/-- what a draw leaves: the source, and all other blocks as they were -/
def SrcTo (g n : Nat) (w w' : World) : Prop := Src g n w' ∧ KeepI g (g + 1) w w'
theorem l00From (bs : List Int) (lo hi : Nat) (v : Value) (w : World) (hv : Sl lo hi w 1 v bs.length (flat encB bs)) (hb : ∀ b ∈ bs, 0 ≤ b ∧ b ≤ 255) :
    Calls Try.prog 45 #[v] w fun e w' => e = .returned (.pointer (some ⟨w.heap.size, 0, none⟩)) ∧ Src w.heap.size 0 w' ∧ Ext w w' := by
  obtain ⟨hhi, _, A, c, rfl, hnc, hcm, hcell⟩ := id hv
  have HB := hid hb
  clear hb
  go_enter Try.func45, Try.ntmps45
  go_wp2
  go_ret
  exact ⟨rfl, ⟨lo, hi, _, bs, 0, 0, hhi, hv.ext (Ext.new _ _), HB.out, Blk.new _ _ _, Nat.le_refl _, by decide, by decide⟩, Ext.new _ _⟩
theorem low8_bd (x : Int) (h0 : 0 ≤ x) (h1 : x < 18446744073709551616) : 0 ≤ wrap64 (bits BinOp.and IntKind.u64 x 255) ∧ wrap64 (bits BinOp.and IntKind.u64 x 255) ≤ 255 := by
  rw [u64_and x 255 h0 h1 (by omega) (by omega)]
  have h : x.toNat &&& (255 : Int).toNat ≤ 255 := Nat.and_le_right
  unfold wrap64
  omega
theorem u64_bd (n : Int) : 0 ≤ IntKind.u64.wrap n ∧ IntKind.u64.wrap n < 18446744073709551616 := by rw [IntKind.wrap_u64]; omega
set_option maxRecDepth 100000 in
set_option maxHeartbeats 1000000 in
theorem srcNext (g n : Nat) (w : World) (h : Src g n w) (hn : n ≤ 1099511627776) :
    Calls Try.prog 88 #[.pointer (some ⟨g, 0, none⟩)] w fun e w' => (∃ r : Int, e = .returned (.int .i64 r) ∧ 0 ≤ r ∧ r ≤ 255) ∧ SrcTo g (n + 1) w w' := by
  obtain ⟨lo, hi, cv, bs, k, seed, hhg, hv, hbd, hB, hk, hs0, hs1⟩ := h
  obtain ⟨hhi, _, A, c, rfl, hnc, hcm, hcell⟩ := id hv
  have HV := hid hv
  have HBD := hid hbd
  have HB := hid hB
  have q0 : w.cell? ⟨g, 0, none⟩ = some (.slice A bs.length c) := hB.cell 0
  have q1 : w.cell? ⟨g, 1, none⟩ = some (.int .i64 k) := hB.cell 1
  have q2 : w.cell? ⟨g, 2, none⟩ = some (.int .u64 seed) := hB.cell 2
  have f1 := hB.frozen 1
  have f2 := hB.frozen 2
  have hlt := hB.lt
  clear hv hbd hB
  unfold maxLen at hcm
  by_cases hkl : k < bs.length
  · obtain ⟨b, off, rfl, hb1, hb2, hc⟩ := hcell (by omega)
    have c0 := cellsB hc k hkl
    have hbd := HBD.out bs[k] (List.getElem_mem _)
    generalize bs[k] = x at *
    obtain ⟨hx0, hx1⟩ := hbd
    clear hc
    go_enter Try.func88, Try.ntmps88
    go_wp2
    go_quiet (fail)
    rename Nat => n1
    go_wp2
    go_quiet (fail)
    go_wp2
    have hsd := u64_bd (IntKind.u64.wrap (IntKind.u64.wrap (seed * 6364136223846793005) + x) + 1442695040888963407)
    generalize IntKind.u64.wrap (IntKind.u64.wrap (IntKind.u64.wrap (seed * 6364136223846793005) + x) + 1442695040888963407) = sd at *
    have HB3 : Hid (Blk (((w.drewN (n1 + nq)).setCell ⟨g, 1, none⟩ (.int .i64 (k + 1))).setCell ⟨g, 2, none⟩ (.int .u64 sd)) g 101 (SrcC (.slice (some ⟨b, off, none⟩) bs.length c) (k + 1 : Nat) sd)) := hid (((HB.out.ext (Ext.drewN w (n1 + nq))).set_ 1 _).set_ 2 _)
    have HK : Hid (KeepI g (g + 1) w (((w.drewN (n1 + nq)).setCell ⟨g, 1, none⟩ (.int .i64 (k + 1))).setCell ⟨g, 2, none⟩ (.int .u64 sd))) := hid ((((Ext.drewN w (n1 + nq)).keep).set_ (Nat.le_refl _) (Nat.lt_succ_self _) _).set_ (Nat.le_refl _) (Nat.lt_succ_self _) _)
    generalize ((w.drewN (n1 + nq)).setCell ⟨g, 1, none⟩ (.int .i64 (k + 1))).setCell ⟨g, 2, none⟩ (.int .u64 sd) = w3 at *
    clear q0 q1 q2 f1 f2 c0
    have q0 : w3.cell? ⟨g, 0, none⟩ = some (.slice (some ⟨b, off, none⟩) bs.length c) := HB3.out.cell 0
    have q1 : w3.cell? ⟨g, 1, none⟩ = some (.int .i64 (k + 1 : Nat)) := HB3.out.cell 1
    go_quiet (fail)
    go_wp2
    go_ret
    exact ⟨⟨x, rfl, hx0, hx1⟩, ⟨lo, hi, _, bs, k + 1, sd, hhg, (HV.out.keep HK.out (.inl hhg)).ext (Ext.drewN _ _), HBD.out, HB3.out.ext (Ext.drewN _ _), by omega, hsd.1, hsd.2⟩, HK.out.trE (Ext.drewN _ _)⟩
  · clear hcell
    go_enter Try.func88, Try.ntmps88
    go_wp2
    go_quiet (fail)
    go_wp2
    have hsd := u64_bd (IntKind.u64.wrap (IntKind.u64.wrap (seed * 6364136223846793005)) + 1442695040888963407)
    generalize IntKind.u64.wrap (IntKind.u64.wrap (IntKind.u64.wrap (seed * 6364136223846793005)) + 1442695040888963407) = sd at *
    have HB3 : Hid (Blk (((w.drewN nq).setCell ⟨g, 1, none⟩ (.int .i64 (k + 1))).setCell ⟨g, 2, none⟩ (.int .u64 sd)) g 101 (SrcC (.slice A bs.length c) (k + 1 : Nat) sd)) := hid (((HB.out.ext (Ext.drewN w nq)).set_ 1 _).set_ 2 _)
    have HK : Hid (KeepI g (g + 1) w (((w.drewN nq).setCell ⟨g, 1, none⟩ (.int .i64 (k + 1))).setCell ⟨g, 2, none⟩ (.int .u64 sd))) := hid ((((Ext.drewN w nq).keep).set_ (Nat.le_refl _) (Nat.lt_succ_self _) _).set_ (Nat.le_refl _) (Nat.lt_succ_self _) _)
    generalize ((w.drewN nq).setCell ⟨g, 1, none⟩ (.int .i64 (k + 1))).setCell ⟨g, 2, none⟩ (.int .u64 sd) = w3 at *
    clear q0 q1 q2 f1 f2
    have q0 : w3.cell? ⟨g, 0, none⟩ = some (.slice A bs.length c) := HB3.out.cell 0
    have q1 : w3.cell? ⟨g, 1, none⟩ = some (.int .i64 (k + 1 : Nat)) := HB3.out.cell 1
    have q2 : w3.cell? ⟨g, 2, none⟩ = some (.int .u64 sd) := HB3.out.cell 2
    go_quiet (fail)
    go_wp2
    go_ret
    have hlo := low8_bd (sd / 1099511627776) (by omega) (by omega)
    exact ⟨⟨_, rfl, hlo.1, hlo.2⟩, ⟨lo, hi, _, bs, k + 1, sd, hhg, (HV.out.keep HK.out (.inl hhg)).ext (Ext.drewN _ _), HBD.out, HB3.out.ext (Ext.drewN _ _), by omega, hsd.1, hsd.2⟩, HK.out.trE (Ext.drewN _ _)⟩
theorem SrcTo.tr {g n m : Nat} {w w1 w2 : World} (h : SrcTo g n w w1) (h' : SrcTo g m w1 w2) : SrcTo g m w w2 := ⟨h'.1, h.2.tr h'.2⟩
theorem SrcTo.ext {g n : Nat} {w w1 w2 : World} (h : SrcTo g n w w1) (h' : Ext w1 w2) : SrcTo g n w w2 := ⟨h.1.ext h', h.2.trE h'⟩
theorem SrcTo.of {g n : Nat} {w w' : World} (h : Src g n w) (hE : Ext w w') : SrcTo g n w w' := ⟨h.ext hE, hE.keep⟩
theorem SrcTo.more {g n m : Nat} {w w' : World} (h : SrcTo g n w w') (hm : n ≤ m) : SrcTo g m w w' := ⟨h.1.more hm, h.2⟩
set_option maxRecDepth 100000 in
set_option maxHeartbeats 1000000 in
theorem srcPick (g n : Nat) (m : Int) (w : World) (h : Src g n w) (hn : n ≤ 549755813888) (hm : 1 ≤ m ∧ m ≤ 1000000) :
    Calls Try.prog 46 #[.pointer (some ⟨g, 0, none⟩), .int .i64 m] w fun e w' => (∃ r : Int, e = .returned (.int .i64 r) ∧ 0 ≤ r ∧ r < m) ∧ SrcTo g (n + 2) w w' := by
  obtain ⟨hm0, hm1⟩ := hm
  have H := hid h
  clear h
  by_cases h1 : m ≤ 1
  · obtain rfl : m = 1 := by omega
    go_enter Try.func46, Try.ntmps46
    go_wp2
    go_ret
    exact ⟨⟨0, rfl, by omega, by omega⟩, (SrcTo.of H.out (Below.refl _ _)).more (by omega)⟩
  by_cases h2 : 200 < m
  · go_enter Try.func46, Try.ntmps46
    go_wp2_with fail
    refine (srcNext g n w H.out (by omega)).mono ?_
    rintro e w1 ⟨⟨r, rfl, hr0, hr1⟩, hS⟩
    have HS := hid hS
    clear hS
    go_wp2_with fail
    refine (srcNext g (n + 1) w1 HS.out.1 (by omega)).mono ?_
    rintro e w2 ⟨⟨r2, rfl, hr2, hr3⟩, hS2⟩
    have HS2 := hid (HS.out.tr hS2)
    clear hS2
    go_wp2
    go_ret
    exact ⟨⟨(r * 256 + r2) % m, rfl, Int.emod_nonneg _ (by omega), Int.emod_lt_of_pos _ (by omega)⟩, HS2.out⟩
  · go_enter Try.func46, Try.ntmps46
    go_wp2_with fail
    refine (srcNext g n w H.out (by omega)).mono ?_
    rintro e w1 ⟨⟨r, rfl, hr0, hr1⟩, hS⟩
    have HS := hid hS
    clear hS
    go_wp2
    go_ret
    exact ⟨⟨r % m, rfl, Int.emod_nonneg _ (by omega), Int.emod_lt_of_pos _ (by omega)⟩, HS.out.more (by omega)⟩
theorem srcOne (g n : Nat) (m : Int) (w : World) (h : Src g n w) (hn : n ≤ 549755813888) (hm : 1 ≤ m ∧ m ≤ 1000000) :
    Calls Try.prog 64 #[.pointer (some ⟨g, 0, none⟩), .int .i64 m] w fun e w' => (∃ b : Bool, e = .returned (.bool b)) ∧ SrcTo g (n + 2) w w' := by
  have HP := hid (srcPick g n m w h hn hm)
  clear h
  go_enter Try.func64, Try.ntmps64
  go_wp2_with fail
  refine HP.out.mono ?_
  rintro e w1 ⟨⟨r, rfl, hr0, hr1⟩, hS⟩
  have HS := hid hS
  clear hS
  go_wp2
  go_ret
  exact ⟨⟨_, rfl⟩, HS.out⟩
theorem srcAmong (g n : Nat) (xs : List Int) (lo hi : Nat) (v : Value) (w : World) (h : Src g n w) (hn : n ≤ 549755813888) (hv : Sl lo hi w 1 v xs.length (flat encI xs)) (hd : hi ≤ g ∨ g < lo) (hx : 1 ≤ xs.length ∧ xs.length ≤ 1000000) :
    Calls Try.prog 48 #[.pointer (some ⟨g, 0, none⟩), v] w fun e w' => (∃ r : Int, e = .returned (.int .i64 r) ∧ r ∈ xs) ∧ SrcTo g (n + 2) w w' := by
  obtain ⟨hx0, hx1⟩ := hx
  have HP := hid (srcPick g n xs.length w h hn ⟨by omega, by omega⟩)
  have HV := hid hv
  obtain ⟨_, _, A, c, rfl, _, _, _⟩ := id hv
  clear h hv
  go_enter Try.func48, Try.ntmps48
  go_wp2_with fail
  refine HP.out.mono ?_
  rintro e w1 ⟨⟨r, rfl, hr0, hr1⟩, hS⟩
  have HS := hid hS
  obtain ⟨k, rfl⟩ := Int.eq_ofNat_of_zero_le hr0
  have hk : k < xs.length := by omega
  obtain ⟨_, _, A', c', he, _, _, hc⟩ := HV.out.keep hS.2 (by omega)
  simp only [Value.slice.injEq, true_and] at he
  obtain ⟨rfl, rfl⟩ := he
  obtain ⟨b, off, rfl, _, _, hcell⟩ := hc (by omega)
  have c0 := cellsI hcell k hk
  clear hS hc hcell
  go_wp2
  go_ret
  exact ⟨⟨_, rfl, List.getElem_mem hk⟩, HS.out⟩
/-- a literal list, just made -/
theorem lit_sl (w : World) (t : TypeId) (xs : List Int) (cs : Array Value) (h : cs = (flat encI xs).toArray) (hn : xs.length ≤ 1000) : Sl w.heap.size (w.heap.size + 1) (w.alloc (.cells cs t)) 1 (.slice (some ⟨w.heap.size, 0, none⟩) xs.length xs.length) xs.length (flat encI xs) := by
  subst h
  refine ⟨by simp, by rw [flat_length encI_len], _, xs.length, rfl, Nat.le_refl _, by unfold maxLen; omega, fun _ => ⟨w.heap.size, 0, rfl, Nat.le_refl _, Nat.lt_succ_self _, fun j u hu => ?_⟩⟩
  have hb := Blk.new w t (flat encI xs).toArray
  rw [Nat.zero_add, hb.cell j]
  simpa using hu
theorem lit_slT (w : World) (t : TypeId) (xs : List ByteArray) (cs : Array Value) (h : cs = (flat (fun s => [Value.string s]) xs).toArray) (hn : xs.length ≤ 1000) : Sl w.heap.size (w.heap.size + 1) (w.alloc (.cells cs t)) 1 (.slice (some ⟨w.heap.size, 0, none⟩) xs.length xs.length) xs.length (flat (fun s => [Value.string s]) xs) := by
  subst h
  refine ⟨by simp, by rw [flat_length (K := 1) (fun _ => rfl)], _, xs.length, rfl, Nat.le_refl _, by unfold maxLen; omega, fun _ => ⟨w.heap.size, 0, rfl, Nat.le_refl _, Nat.lt_succ_self _, fun j u hu => ?_⟩⟩
  have hb := Blk.new w t (flat (fun s => [Value.string s]) xs).toArray
  rw [Nat.zero_add, hb.cell j]
  simpa using hu
end Go.Proofs.Ytopjccbjdcoanaa
