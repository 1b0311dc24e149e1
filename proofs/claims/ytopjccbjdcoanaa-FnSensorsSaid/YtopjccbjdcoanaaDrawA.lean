/- Drawn lists of numbers: the times of places, series of readings. Contracts that tell sizes alone. -/
import Derived.Test.YtopjccbjdcoanaaDraw
import Derived.Test.YtopjccbjdcoanaaApp
import Derived.Laws.OwnMore
namespace Go.Proofs.Ytopjccbjdcoanaa
set_option linter.unusedVariables false
open Go.RowKit
theorem row_keep {w w' : World} {base e K n a b : Nat} {v : Value} {xs : List Value} (h : w.ownsRow base e K v n xs) (hK : KeepI a b w w') (hb : b ≤ base) : w'.ownsRow base e K v n xs := by
  refine ⟨h.1, ?_⟩
  rcases h.2 with h0 | ⟨g, cap, cur, h1, h2, hg, h3⟩
  · exact .inl h0
  · exact .inr ⟨g, cap, cur, h1, h2, (hK.block g (Array.getElem?_eq_some_iff.1 hg).1 (.inr (by omega))).trans hg, h3⟩
theorem KeepI.below {lo hi base : Nat} {w0 w w' : World} (h : KeepI lo hi w0 w) (hB : Below base w w') (hb : w0.heap.size ≤ base) : KeepI lo hi w0 w' :=
  ⟨hB.os.trans h.os, hB.tape.trans h.tape, hB.output.trans h.output, Nat.le_trans h.size hB.size, fun k hk hn => (hB.block k (by omega)).trans (h.block k hk hn)⟩
theorem Src.below {g n base : Nat} {w w' : World} (h : Src g n w) (hB : Below base w w') (hg : g < base) (hb : base ≤ w.heap.size) : Src g n w' := by
  obtain ⟨lo, hi, cv, bs, k, seed, h1, h2, h3, h4, h5⟩ := h
  have hK : KeepI base w'.heap.size w w' := ⟨hB.os, hB.tape, hB.output, hB.size, fun k hk hn => hB.block k (by have := hB.size; omega)⟩
  exact ⟨lo, hi, cv, bs, k, seed, h1, h2.keep hK (.inl (by omega)), h3, h4.keep hK (.inl hg), h5⟩
theorem SrcTo.below {g n base : Nat} {w0 w w' : World} (h : SrcTo g n w0 w) (hB : Below base w w') (h0 : w0.heap.size ≤ base) (hb : base ≤ w.heap.size) (hg : g < base) : SrcTo g n w0 w' := ⟨h.1.below hB hg hb, h.2.below hB h0⟩
theorem SrcTo.size {g n : Nat} {w w' : World} (h : SrcTo g n w w') : w.heap.size ≤ w'.heap.size := h.2.size
/-- a literal list handed to 'among' -/
theorem amongLit (g n : Nat) (xs : List Int) (w0 w : World) (h : SrcTo g n w0 w) (hn : n ≤ 549755813888) (hx : 1 ≤ xs.length ∧ xs.length ≤ 1000) (cs : Array Value) (hc : cs = (flat encI xs).toArray) (k : Nat) (hk : k = xs.length) (hg : g < w0.heap.size) :
    Calls Try.prog 48 #[.pointer (some ⟨g, 0, none⟩), .slice (some ⟨w.heap.size, 0, none⟩) k k] (w.alloc (.cells cs 2)) fun e w' => (∃ r : Int, e = .returned (.int .i64 r) ∧ r ∈ xs) ∧ SrcTo g (n + 2) w0 w' ∧ KeepI g (g + 1) w w' := by
  subst hk
  have hz := h.size
  refine (srcAmong g n xs w.heap.size (w.heap.size + 1) _ _ (h.1.ext (Ext.new _ _)) hn (lit_sl w 2 xs cs hc hx.2) (.inr (by omega)) ⟨hx.1, by omega⟩).mono ?_
  rintro e w' ⟨hr, hS⟩
  exact ⟨hr, (h.ext (Ext.new _ _)).tr hS, (Ext.new w _).keep.tr hS.2⟩
set_option maxRecDepth 100000 in
set_option maxHeartbeats 1000000 in
theorem drawTimes (g n m : Nat) (w : World) (h : Src g n w) (hn : n ≤ 1073741824) (hm : m ≤ 16) :
    Calls Try.prog 47 #[.pointer (some ⟨g, 0, none⟩), .int .i64 m] w fun e w' => (∃ (v' : Value) (xs : List Int), e = .returned v' ∧ xs.length ≤ 17 ∧ w'.ownsRow w.heap.size 2 1 v' xs.length (flat encI xs)) ∧ SrcTo g (n + 36) w w' := by
  have hg := h.lt
  have H := hid h
  clear h
  go_enter Try.func47, Try.ntmps47
  go_wp2
  go_loopw [5, 6] (fun u i W => ∃ (k : Nat) (xs : List Int), k ≤ m ∧ i = .int .i64 k ∧ Hid (xs.length = k) ∧ Hid (W.ownsRow w.heap.size 2 1 u k (flat encI xs)) ∧ Hid (SrcTo g (n + 2 * k) w W)) (fun _ i _ => m - (intOf i).toNat)
  case atStart => exact ⟨0, [], Nat.zero_le _, rfl, hid rfl, hid (own_empty _ _ _ _ (Nat.le_refl _)), hid (SrcTo.of H.out (Ext.new _ _))⟩
  case round =>
    obtain ⟨k, xs, hk, rfl, HL, HO, HS⟩ := hrel
    by_cases hlt : k < m
    · go_wp2_with fail
      refine (amongLit g (n + 2 * k) [-1, 0, 5, 20, 60, 61] w wr HS.out (by omega) (by simp) _ rfl _ rfl hg).mono ?_
      rintro e w2 ⟨⟨r, rfl, hr⟩, hS2, hK2⟩
      have HS2 := hid hS2
      have HO2 := hid (row_keep HO.out hK2 (by omega))
      have hz2 := hS2.size
      clear hS2 hK2
      go_wp2_with (at_builtin; refine wp_append1 w2 rfl (.tmp 13) (.tmp 17) _ rfl w.heap.size 2 1 8 _ Try.underlying27 infoInt rfl (by omega) (by omega) _ _ _ HO2.out rfl [.int .i64 r] rfl (by simp [Value.oneCell']) _ rfl rfl (by omega) hz2 ?_; intro v' w' ho' hb')
      go_roundw
      case rel => exact ⟨k + 1, xs ++ [r], by omega, by go_num, hid (by simp [HL.out]), hid (by rw [flat_snoc]; exact ho'), hid ((HS2.out.below hb' (Nat.le_refl _) hz2 hg).more (by omega))⟩
      case measure => simp [intOf]; omega
    · obtain rfl : k = m := by omega
      go_wp2_with fail
      refine (srcOne g (n + 2 * k) 24 wr HS.out.1 (by omega) ⟨by omega, by omega⟩).mono ?_
      rintro e w2 ⟨⟨b, rfl⟩, hS2⟩
      have HS2 := hid (HS.out.tr hS2)
      have HO2 := hid (row_keep HO.out hS2.2 (by omega))
      have hz2 := HS2.out.size
      clear hS2
      cases b
      · go_wp2
        go_ret
        exact ⟨⟨_, xs, rfl, by rw [HL.out]; omega, by rw [HL.out]; exact HO2.out⟩, HS2.out.more (by omega)⟩
      · go_wp2_with fail
        refine (amongLit g (n + 2 * k + 2) [-2, 0] w w2 HS2.out (by omega) (by simp) _ rfl _ rfl hg).mono ?_
        rintro e w3 ⟨⟨r, rfl, hr⟩, hS3, hK3⟩
        have HS3 := hid hS3
        have HO3 := hid (row_keep HO2.out hK3 (by omega))
        have hz3 := hS3.size
        clear hS3 hK3
        go_wp2_with (at_builtin; refine wp_append1 w3 rfl (.tmp 21) (.tmp 25) _ rfl w.heap.size 2 1 8 _ Try.underlying27 infoInt rfl (by omega) (by omega) _ _ _ HO3.out rfl [.int .i64 r] rfl (by simp [Value.oneCell']) _ rfl rfl (by omega) hz3 ?_; intro v' w' ho' hb')
        go_ret
        exact ⟨⟨_, xs ++ [r], rfl, by simp [HL.out]; omega, by rw [flat_snoc, List.length_append, HL.out]; exact ho'⟩, (HS3.out.below hb' (Nat.le_refl _) hz3 hg).more (by omega)⟩
end Go.Proofs.Ytopjccbjdcoanaa
