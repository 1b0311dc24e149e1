/- The first index that passes, as a plain word. No program in sight. -/
import Derived.Test.YtopjccbjdcoanaaDoorOk
namespace Go.Proofs.YtopjccbjdcoanaaDoor
set_option linter.unusedVariables false
open Go.RowKit
def findIx {α : Type} (p : α → Bool) (xs : List α) : Int := match xs.findIdx? p with | none => -1 | some j => j
theorem findIx_yes {α : Type} {p : α → Bool} {xs : List α} (k : Nat) (hk : k < xs.length) (hall : ∀ j (h : j < k), p (xs[j]'(by omega)) = false) (hp : p xs[k] = true) : findIx p xs = k := by
  unfold findIx
  rw [List.findIdx?_eq_some_iff_getElem.2 ⟨hk, hp, fun j hj => by simp [hall j hj]⟩]
theorem findIx_no {α : Type} {p : α → Bool} {xs : List α} (h : ∀ j (hj : j < xs.length), p xs[j] = false) : findIx p xs = -1 := by
  unfold findIx
  rw [List.findIdx?_eq_none_iff.2 fun x hx => by
    obtain ⟨j, hj, rfl⟩ := List.getElem_of_mem hx
    exact h j hj]
theorem findIx_at {α : Type} {p : α → Bool} {xs : List α} (h : ¬ findIx p xs < 0) : ∃ k : Nat, ∃ h : k < xs.length, findIx p xs = (k : Int) := by
  unfold findIx at h ⊢
  cases hf : xs.findIdx? p with
  | none => rw [hf] at h; simp at h
  | some j =>
    obtain ⟨hk, _⟩ := List.findIdx?_eq_some_iff_getElem.1 hf
    exact ⟨j, hk, rfl⟩
theorem strInj {a b : ByteArray} (h : a.toList = b.toList) : a = b := by
  rw [ByteArray.toList_eq, ByteArray.toList_eq] at h
  obtain ⟨⟨x⟩⟩ := a; obtain ⟨⟨y⟩⟩ := b; simpa using h
theorem flat_one {α : Type} {enc : α → List Value} (h : ∀ x, ∀ y ∈ enc x, y.oneCell' = true) (xs : List α) : ∀ y ∈ flat enc xs, y.oneCell' = true := by
  intro y hy
  unfold flat at hy
  simp only [List.mem_flatMap] at hy
  grind
end Go.Proofs.YtopjccbjdcoanaaDoor
