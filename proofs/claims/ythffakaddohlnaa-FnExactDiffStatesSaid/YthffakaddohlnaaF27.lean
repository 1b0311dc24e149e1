/- Contracts of DiffStates in both packages. -/
import Derived.Test.YthffakaddohlnaaD27
namespace Go.Proofs.Ythffakaddohlnaa
set_option linter.unusedVariables false
open Go.RowKit
def drop1 (ys : List Setting) (x : Setting) : List Change := if nameIx ys x.name < 0 then [⟨2, x.name, x.value⟩] else []
def set1 (xs : List Setting) (y : Setting) : List Change := if nameIx xs y.name < 0 then [⟨1, y.name, y.value⟩] else (if valAt xs (nameIx xs y.name) = y.value then [] else [⟨1, y.name, y.value⟩])
def drops (xs ys : List Setting) (k : Nat) : List Change := (xs.take k).flatMap (drop1 ys)
def sets (xs ys : List Setting) (k : Nat) : List Change := (ys.take k).flatMap (set1 xs)
theorem drops_succ (xs ys : List Setting) (k : Nat) (h : k < xs.length) : drops xs ys (k + 1) = drops xs ys k ++ drop1 ys xs[k] := by
  unfold drops; rw [List.take_succ_eq_append_getElem h, List.flatMap_append]; simp
theorem sets_succ (xs ys : List Setting) (k : Nat) (h : k < ys.length) : sets xs ys (k + 1) = sets xs ys k ++ set1 xs ys[k] := by
  unfold sets; rw [List.take_succ_eq_append_getElem h, List.flatMap_append]; simp
theorem drop1_len (ys : List Setting) (x : Setting) : (drop1 ys x).length ≤ 1 := by unfold drop1; split <;> simp
theorem set1_len (xs : List Setting) (y : Setting) : (set1 xs y).length ≤ 1 := by unfold set1; split <;> (try split) <;> simp
theorem drops_len (xs ys : List Setting) (k : Nat) (hk : k ≤ xs.length) : (drops xs ys k).length ≤ k := by
  induction k with
  | zero => simp [drops]
  | succ k ih => rw [drops_succ xs ys k (by omega), List.length_append]; have := ih (by omega); have := drop1_len ys xs[k]; omega
theorem sets_len (xs ys : List Setting) (k : Nat) (hk : k ≤ ys.length) : (sets xs ys k).length ≤ k := by
  induction k with
  | zero => simp [sets]
  | succ k ih => rw [sets_succ xs ys k (by omega), List.length_append]; have := ih (by omega); have := set1_len xs ys[k]; omega
def diffs (xs ys : List Setting) (k : Nat) : List Change := drops xs ys xs.length ++ sets xs ys k
end Go.Proofs.Ythffakaddohlnaa
