/- An argument that is a slice of bytes, read as a list of numbers. -/
import Derived.Test.YtibmcailjodpkaaDraw
import Derived.OpenShut
namespace Go.Proofs.Ytibmcailjodpkaa
set_option linter.unusedVariables false
open Go.RowKit Go.ChangeShapes Go.WideShapes Go.Deep
theorem openBytes {H : Type} {ec : TypeId × Value → H} {W : World} {A : Option Addr} {l c : Nat} {d : DataW H} {p : List MemPlace} (h : DataW.Trod ec Try.prog W 0 (fun _ => true) true 55 (.slice A l c) d p) :
    ∃ xs : List Int, xs.length = l ∧ Sl 0 W.heap.size W 1 (.slice A l c) xs.length (flat encB xs) ∧ ∀ x ∈ xs, 0 ≤ x ∧ x ≤ 255 :=
  open_flat encB_len (by omega) (ok := fun x => 0 ≤ x ∧ x ≤ 255) Try.underlying55 (by kernel_rfl) (fun n cs y hl ht => by
    match cs, hl with
    | [c0], _ =>
      obtain ⟨x, q, _, hw⟩ := DataW.trod_int Try.underlying5 ht
      simp only [List.cons.injEq, and_true] at q; subst q
      refine ⟨x, rfl, ?_⟩
      simp only [Lit.wf, IntKind.min, IntKind.max, IntKind.signed, IntKind.bits, Bool.and_eq_true] at hw
      simp at hw
      omega) h
end Go.Proofs.Ytibmcailjodpkaa
