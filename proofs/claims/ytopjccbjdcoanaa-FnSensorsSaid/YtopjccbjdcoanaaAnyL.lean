/- What slices.IndexFunc tells, as a plain word. No program in sight. -/
import Derived.Test.YtopjccbjdcoanaaOk
namespace Go.Proofs.Ytopjccbjdcoanaa
set_option linter.unusedVariables false
open Go.RowKit
def idxP (b : Bool) (e : Ending) : Prop := ∃ r : Int, e = .returned (.int .i64 r) ∧ (if b then 0 ≤ r else r = -1)
theorem idxP_yes {b : Bool} (k : Nat) (h : b = true) : idxP b (.returned (.int .i64 (k : Int))) := ⟨k, rfl, by rw [h]; simp⟩
theorem idxP_no {b : Bool} (h : b = false) : idxP b (.returned (.int .i64 (-1))) := ⟨-1, rfl, by rw [h]; simp⟩
theorem any_no {α : Type} {xs : List α} {p : α → Bool} (h : ∀ j (hj : j < xs.length), p xs[j] = false) : xs.any p = false := by
  rw [Bool.eq_false_iff]; intro hh
  rw [List.any_eq_true] at hh
  obtain ⟨x, hx, hp⟩ := hh
  obtain ⟨j, hj, rfl⟩ := List.getElem_of_mem hx
  rw [h j hj] at hp; cases hp
end Go.Proofs.Ytopjccbjdcoanaa
