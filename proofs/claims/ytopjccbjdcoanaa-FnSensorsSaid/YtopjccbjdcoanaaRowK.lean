/- Rows of the call's own: reading, shortening, writing; the first index that passes. Plain; over any program. -/
import Derived.Test.YtopjccbjdcoanaaOk
import Derived.Test.YtopjccbjdcoanaaApp
import Derived.Test.YtopjccbjdcoanaaFind
import Derived.Lib.LazyBuf
import Derived.Laws.OwnMore
namespace Go.Proofs.Ytopjccbjdcoanaa
set_option linter.unusedVariables false
open Go.RowKit
theorem row_open {w : World} {base e K n : Nat} {v : Value} {xs : List Value} (h : w.ownsRow base e K v n xs) (j : Nat) (hj : j < n * K) : ∃ g cap u, v = .slice (some ⟨g, 0, none⟩) n cap ∧ base ≤ g ∧ w.cell? ⟨g, j, none⟩ = some u ∧ w.frozen? ⟨g, j, none⟩ = false ∧ n ≤ cap := by
  rcases h.2 with ⟨_, h0⟩ | ⟨g, cap, cur, rfl, hbg, hg, hnc, hcm, hcs, htake⟩
  · subst h0; omega
  · have hjc : j < cur.size := by
      rw [hcs]; exact Nat.lt_of_lt_of_le hj (Nat.mul_le_mul_right _ hnc)
    refine ⟨g, cap, cur[j], rfl, hbg, ?_, frozen_of_row w g j cur e hg, hnc⟩
    rw [cell_of_row w g j cur e (0, 0) hg, Array.getElem?_eq_getElem hjc]
theorem row_cell {w : World} {base e K n g cap j : Nat} {xs : List Value} {u : Value} (h : w.ownsRow base e K (.slice (some ⟨g, 0, none⟩) n cap) n xs) (hu : xs[j]? = some u) : w.cell? ⟨g, j, none⟩ = some u := by
  rcases h.2 with ⟨h', _⟩ | ⟨g', cap', cur, h', hb, hg, hnc, hcm, hcs, htake⟩
  · simp at h'
  · simp only [Value.slice.injEq, Option.some.injEq, Addr.mk.injEq, and_true, true_and] at h'
    obtain ⟨rfl, rfl⟩ := h'
    rw [cell_of_row w g j cur e (0, 0) hg]
    exact take_get htake hu
theorem row_take {w : World} {base e n g cap i : Nat} {xs : List Value} (h : w.ownsRow base e 1 (.slice (some ⟨g, 0, none⟩) n cap) n xs) (hi : i ≤ n) : w.ownsRow base e 1 (.slice (some ⟨g, 0, none⟩) i cap) i (xs.take i) := by
  have hl := h.1
  rcases h.2 with ⟨h', _⟩ | ⟨g', cap', cur, h', hb, hg, hnc, hcm, hcs, htake⟩
  · simp at h'
  · simp only [Value.slice.injEq, Option.some.injEq, Addr.mk.injEq, and_true, true_and] at h'
    obtain ⟨rfl, rfl⟩ := h'
    refine ⟨by rw [List.length_take]; omega, .inr ⟨g, cap, cur, rfl, hb, hg, by omega, hcm, hcs, ?_⟩⟩
    rw [← htake, List.take_take]; congr 1; omega
theorem row_cells {base e n g cap : Nat} : ∀ (vs : List Value) (o : Nat) (w : World) (xs : List Value), w.ownsRow base e 1 (.slice (some ⟨g, 0, none⟩) n cap) n xs → ∃ ys, (w.setCells g o vs).ownsRow base e 1 (.slice (some ⟨g, 0, none⟩) n cap) n ys ∧ ys.take o = xs.take o
  | [], o, w, xs, h => ⟨xs, h, rfl⟩
  | v :: r, o, w, xs, h => by
    obtain ⟨ys, h1, h2⟩ := row_cells r (o + 1) _ _ (h.stored o v).1
    refine ⟨ys, h1, ?_⟩
    have h3 : (ys.take (o + 1)).take o = ((xs.set o v).take (o + 1)).take o := by rw [h2]
    rw [List.take_take, List.take_take, Nat.min_eq_left (by omega)] at h3
    rw [h3, List.take_set, List.set_eq_of_length_le (by rw [List.length_take]; omega)]
theorem Sl.below {lo hi k n base : Nat} {w w' : World} {v : Value} {xs : List Value} (h : Sl lo hi w k v n xs) (hB : Below base w w') (hh : hi ≤ base) (hs : w.heap.size ≤ w'.heap.size) : Sl lo hi w' k v n xs := by
  obtain ⟨h1, h2, A, c, h3, h4, h5, h6⟩ := h
  refine ⟨Nat.le_trans h1 hs, h2, A, c, h3, h4, h5, fun hn => ?_⟩
  obtain ⟨b, off, e1, e2, e3, e4⟩ := h6 hn
  exact ⟨b, off, e1, e2, e3, fun j u hu => (World.cell?_of_block (hB.block b (by omega))).trans (e4 j u hu)⟩
theorem findIx_spec {α : Type} {p : α → Bool} {xs : List α} (h : ¬ findIx p xs = -1) : ∃ k : Nat, ∃ h : k < xs.length, findIx p xs = (k : Int) ∧ p xs[k] = true ∧ ∀ j (hj : j < k), p (xs[j]'(by omega)) = false := by
  unfold findIx at h ⊢
  cases hf : xs.findIdx? p with
  | none => rw [hf] at h; simp at h
  | some j =>
    obtain ⟨hk, h1, h2⟩ := List.findIdx?_eq_some_iff_getElem.1 hf
    exact ⟨j, hk, rfl, h1, fun q hq => by simpa using h2 q hq⟩
theorem findIx_none {α : Type} {p : α → Bool} {xs : List α} (h : findIx p xs = -1) : ∀ x ∈ xs, p x = false := by
  unfold findIx at h
  cases hf : xs.findIdx? p with
  | none => exact List.findIdx?_eq_none_iff.1 hf
  | some j => rw [hf] at h; simp at h
end Go.Proofs.Ytopjccbjdcoanaa
