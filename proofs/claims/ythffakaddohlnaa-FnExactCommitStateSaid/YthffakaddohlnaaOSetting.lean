/- An argument that is a slice of Setting, read as a list. -/
import Derived.Test.YthffakaddohlnaaXSetting
import Derived.Test.YthffakaddohlnaaOpen
namespace Go.Proofs.Ythffakaddohlnaa
set_option linter.unusedVariables false
open Go.RowKit Go.ChangeShapes Go.WideShapes Go.Deep
theorem openSettingS {H : Type} {ec : TypeId × Value → H} {W : World} {A : Option Addr} {l c : Nat} {d : DataW H} {p : List MemPlace} (h : DataW.Trod ec Try.prog W 0 (fun _ => true) true 22 (.slice A l c) d p) :
    ∃ xs : List Setting, xs.length = l ∧ Sl 0 W.heap.size W 2 (.slice A l c) xs.length (flat Setting.enc xs) ∧ ∀ x ∈ xs, x.name.size ≤ maxLen :=
  open_flat Setting.len (by omega) (ok := fun x => x.name.size ≤ maxLen) Try.underlying22 (by kernel_rfl) (fun n cs y hl ht => by
    have hf := el_fields Try.underlying60 (by kernel_rfl) ht (by simpa using hl)
    match cs, hl with
    | [c0, c1], _ =>
      obtain ⟨v0, z0, m0, e0, t0⟩ := hf 0 _ rfl
      obtain ⟨x0, q0, _, s0⟩ := DataW.trod_string Try.underlying9 t0
      simp only [List.cons.injEq, and_true] at q0; subst q0
      simp at e0; subst e0
      obtain ⟨v1, z1, m1, e1, t1⟩ := hf 1 _ rfl
      obtain ⟨x1, q1, _, _⟩ := DataW.trod_int Try.underlying2 t1
      simp only [List.cons.injEq, and_true] at q1; subst q1
      simp at e1; subst e1
      exact ⟨⟨x0, x1⟩, rfl, s0⟩) h
end Go.Proofs.Ythffakaddohlnaa
