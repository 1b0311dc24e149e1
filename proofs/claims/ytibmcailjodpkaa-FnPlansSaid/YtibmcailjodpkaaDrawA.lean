/- Drawn lists of numbers: the times of places, series of readings. Contracts that tell sizes alone. -/
import Derived.Test.YtibmcailjodpkaaDraw
import Derived.Test.YtibmcailjodpkaaApp
import Derived.Laws.OwnMore
namespace Go.Proofs.Ytibmcailjodpkaa
set_option linter.unusedVariables false
open Go.RowKit
theorem row_keep {w w' : World} {base e K n a b : Nat} {v : Value} {xs : List Value} (h : w.ownsRow base e K v n xs) (hK : KeepI a b w w') (hb : b ≤ base) : w'.ownsRow base e K v n xs := by
  refine ⟨h.1, ?_⟩
  rcases h.2 with h0 | ⟨g, cap, cur, h1, h2, hg, h3⟩
  · exact .inl h0
  · exact .inr ⟨g, cap, cur, h1, h2, (hK.block g (Array.getElem?_eq_some_iff.1 hg).1 (.inr (by omega))).trans hg, h3⟩
theorem KeepI.below {lo hi base : Nat} {w0 w w' : World} (h : KeepI lo hi w0 w) (hB : Below base w w') (hb : w0.heap.size ≤ base) : KeepI lo hi w0 w' :=
  ⟨hB.os.trans h.os, hB.tape.trans h.tape, hB.output.trans h.output, Nat.le_trans h.size hB.size, fun k hk hn => (hB.block k (by omega)).trans (h.block k hk hn)⟩
theorem Src.below {g n base : Nat} {w w' : World} (h : Src g n w) (hB : Below base w w') (hg : g < base) (hb : base ≤ w.heap.size) : Src g n w' := by
  obtain ⟨lo, hi, cv, bs, k, seed, h1, h2, h3, h4, h5⟩ := h
  have hK : KeepI base w'.heap.size w w' := ⟨hB.os, hB.tape, hB.output, hB.size, fun k hk hn => hB.block k (by have := hB.size; omega)⟩
  exact ⟨lo, hi, cv, bs, k, seed, h1, h2.keep hK (.inl (by omega)), h3, h4.keep hK (.inl hg), h5⟩
theorem SrcTo.below {g n base : Nat} {w0 w w' : World} (h : SrcTo g n w0 w) (hB : Below base w w') (h0 : w0.heap.size ≤ base) (hb : base ≤ w.heap.size) (hg : g < base) : SrcTo g n w0 w' := ⟨h.1.below hB hg hb, h.2.below hB h0⟩
theorem SrcTo.size {g n : Nat} {w w' : World} (h : SrcTo g n w w') : w.heap.size ≤ w'.heap.size := h.2.size
/-- a literal list handed to 'among' -/
theorem amongLit (g n : Nat) (xs : List Int) (w0 w : World) (h : SrcTo g n w0 w) (hn : n ≤ 549755813888) (hx : 1 ≤ xs.length ∧ xs.length ≤ 1000) (cs : Array Value) (hc : cs = (flat encI xs).toArray) (k : Nat) (hk : k = xs.length) (hg : g < w0.heap.size) :
    Calls Try.prog 89 #[.pointer (some ⟨g, 0, none⟩), .slice (some ⟨w.heap.size, 0, none⟩) k k] (w.alloc (.cells cs 2)) fun e w' => (∃ r : Int, e = .returned (.int .i64 r) ∧ r ∈ xs) ∧ SrcTo g (n + 2) w0 w' ∧ KeepI g (g + 1) w w' := by
  subst hk
  have hz := h.size
  refine (srcAmong g n xs w.heap.size (w.heap.size + 1) _ _ (h.1.ext (Ext.new _ _)) hn (lit_sl w 2 xs cs hc hx.2) (.inr (by omega)) ⟨hx.1, by omega⟩).mono ?_
  rintro e w' ⟨hr, hS⟩
  exact ⟨hr, (h.ext (Ext.new _ _)).tr hS, (Ext.new w _).keep.tr hS.2⟩
end Go.Proofs.Ytibmcailjodpkaa
