/- The marks' text: a contract of markText by a plain Lean function. Condition: the number is at most 2^40. -/
import Derived.Test.YtopjccbjdcoanaaDoorSl
namespace Go.Proofs.YtopjccbjdcoanaaDoor
set_option linter.unusedVariables false
open Go.RowKit

def markL (k : Nat) (out : List UInt8) : List UInt8 := if h : k = 0 then out else markL (k / 10) ((48 + UInt8.ofNat (k % 10)) :: out)
termination_by k
decreasing_by omega
theorem markL_zero (out : List UInt8) : markL 0 out = out := by rw [markL]; simp
theorem markL_pos (k : Nat) (out : List UInt8) (h : 0 < k) : markL k out = markL (k / 10) ((48 + UInt8.ofNat (k % 10)) :: out) := by rw [markL]; rw [dif_neg (by omega)]
def markS (k : Nat) : ByteArray := ⟨#[109] ++ (markL k []).toArray⟩

theorem app1 (a : UInt8) (out : List UInt8) : (⟨#[a]⟩ ++ ⟨out.toArray⟩ : ByteArray) = ⟨(a :: out).toArray⟩ := by
  apply ByteArray.ext; simp
theorem markS_eq (k : Nat) : markS k = (⟨#[109]⟩ ++ ⟨(markL k []).toArray⟩ : ByteArray) := by
  apply ByteArray.ext; simp [markS]
theorem szF_bd (l : Int) (n : Nat) (h : ¬ szF l n < 0) : szF l n = l - n ∧ 0 ≤ l - n := by
  unfold szF at h ⊢; split at h <;> rename_i h1
  · omega
  · rw [if_neg h1]; omega
end Go.Proofs.YtopjccbjdcoanaaDoor
