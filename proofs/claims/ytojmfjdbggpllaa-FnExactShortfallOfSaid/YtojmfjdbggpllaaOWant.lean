/- An argument that is a slice of Want, read as a list. -/
import Derived.Test.YtojmfjdbggpllaaXWant
import Derived.Test.YtojmfjdbggpllaaOpen
namespace Go.Proofs.Ytojmfjdbggpllaa
set_option linter.unusedVariables false
open Go.RowKit Go.ChangeShapes Go.WideShapes Go.Deep
theorem elWant {H : Type} {ec : TypeId × Value → H} {W : World} (n : Nat) (cs : List Value) (y : DataW H × List MemPlace) (hl : cs.length = 3) (ht : DataW.trod ec Try.prog W 0 (fun _ => true) true n 85 cs = some y) : ∃ x : Want, cs = x.enc ∧ (True) := by
  have hf := el_fields Try.underlying85 (by kernel_rfl) ht (by simpa using hl)
  match cs, hl with
  | [c0, c1, c2], _ =>
      obtain ⟨v0, z0, m0, e0, t0⟩ := hf 0 _ rfl
      obtain ⟨x0, q0, _, _⟩ := DataW.trod_int Try.underlying2 t0
      simp only [List.cons.injEq, and_true] at q0; subst q0
      simp at e0; subst e0
      obtain ⟨v1, z1, m1, e1, t1⟩ := hf 1 _ rfl
      obtain ⟨x1, q1, _, _⟩ := DataW.trod_int Try.underlying2 t1
      simp only [List.cons.injEq, and_true] at q1; subst q1
      simp at e1; subst e1
      obtain ⟨v2, z2, m2, e2, t2⟩ := hf 2 _ rfl
      obtain ⟨x2, q2, _, _⟩ := DataW.trod_int Try.underlying2 t2
      simp only [List.cons.injEq, and_true] at q2; subst q2
      simp at e2; subst e2
      exact ⟨⟨x0, x1, x2⟩, rfl, trivial⟩
theorem openWantS {H : Type} {ec : TypeId × Value → H} {W : World} {A : Option Addr} {l c : Nat} {d : DataW H} {p : List MemPlace} (h : DataW.Trod ec Try.prog W 0 (fun _ => true) true 25 (.slice A l c) d p) :
    ∃ xs : List Want, xs.length = l ∧ Sl 0 W.heap.size W 3 (.slice A l c) xs.length (flat Want.enc xs) ∧ ∀ x ∈ xs, True :=
  open_flat Want.len (by omega) (ok := fun x => True) Try.underlying25 (by kernel_rfl) elWant h
theorem openWantC {H : Type} {ec : TypeId × Value → H} {W : World} {fuel : Nat} {cs : List Value} {y : DataW H × List MemPlace} (h : DataW.trod ec Try.prog W 0 (fun _ => true) true fuel 25 cs = some y) :
    ∃ A l c, cs = [.slice A l c] ∧ ∃ xs : List Want, xs.length = l ∧ Sl 0 W.heap.size W 3 (.slice A l c) xs.length (flat Want.enc xs) ∧ ∀ x ∈ xs, True :=
  open_flatC Want.len (by omega) (ok := fun x => True) Try.underlying25 (by kernel_rfl) elWant h
end Go.Proofs.Ytojmfjdbggpllaa
