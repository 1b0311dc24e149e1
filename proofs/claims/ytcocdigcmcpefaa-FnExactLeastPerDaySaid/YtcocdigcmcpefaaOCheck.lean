/- An argument that is a slice of Check, read as a list. -/
import Derived.Test.YtcocdigcmcpefaaXCheck
import Derived.Test.YtcocdigcmcpefaaOpen
namespace Go.Proofs.Ytcocdigcmcpefaa
set_option linter.unusedVariables false
open Go.RowKit Go.ChangeShapes Go.WideShapes Go.Deep
theorem elCheck {H : Type} {ec : TypeId × Value → H} {W : World} (n : Nat) (cs : List Value) (y : DataW H × List MemPlace) (hl : cs.length = 3) (ht : DataW.trod ec Try.prog W 0 (fun _ => true) true n 49 cs = some y) : ∃ x : Check, cs = x.enc ∧ (x.id.size ≤ maxLen) := by
  have hf := el_fields Try.underlying49 (by kernel_rfl) ht (by simpa using hl)
  match cs, hl with
  | [c0, c1, c2], _ =>
      obtain ⟨v0, z0, m0, e0, t0⟩ := hf 0 _ rfl
      obtain ⟨x0, q0, _, s0⟩ := DataW.trod_string Try.underlying9 t0
      simp only [List.cons.injEq, and_true] at q0; subst q0
      simp at e0; subst e0
      obtain ⟨v1, z1, m1, e1, t1⟩ := hf 1 _ rfl
      obtain ⟨x1, q1, _, _⟩ := DataW.trod_int Try.underlying2 t1
      simp only [List.cons.injEq, and_true] at q1; subst q1
      simp at e1; subst e1
      obtain ⟨v2, z2, m2, e2, t2⟩ := hf 2 _ rfl
      obtain ⟨x2, q2, _, _⟩ := DataW.trod_int Try.underlying2 t2
      simp only [List.cons.injEq, and_true] at q2; subst q2
      simp at e2; subst e2
      exact ⟨⟨x0, x1, x2⟩, rfl, s0⟩
theorem openCheckS {H : Type} {ec : TypeId × Value → H} {W : World} {A : Option Addr} {l c : Nat} {d : DataW H} {p : List MemPlace} (h : DataW.Trod ec Try.prog W 0 (fun _ => true) true 22 (.slice A l c) d p) :
    ∃ xs : List Check, xs.length = l ∧ Sl 0 W.heap.size W 3 (.slice A l c) xs.length (flat Check.enc xs) ∧ ∀ x ∈ xs, x.id.size ≤ maxLen :=
  open_flat Check.len (by omega) (ok := fun x => x.id.size ≤ maxLen) Try.underlying22 (by kernel_rfl) elCheck h
theorem openCheckC {H : Type} {ec : TypeId × Value → H} {W : World} {fuel : Nat} {cs : List Value} {y : DataW H × List MemPlace} (h : DataW.trod ec Try.prog W 0 (fun _ => true) true fuel 22 cs = some y) :
    ∃ A l c, cs = [.slice A l c] ∧ ∃ xs : List Check, xs.length = l ∧ Sl 0 W.heap.size W 3 (.slice A l c) xs.length (flat Check.enc xs) ∧ ∀ x ∈ xs, x.id.size ≤ maxLen :=
  open_flatC Check.len (by omega) (ok := fun x => x.id.size ≤ maxLen) Try.underlying22 (by kernel_rfl) elCheck h
end Go.Proofs.Ytcocdigcmcpefaa
