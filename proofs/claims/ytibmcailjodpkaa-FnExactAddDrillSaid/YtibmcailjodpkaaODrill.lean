/- An argument that is a slice of Drill, read as a list. -/
import Derived.Test.YtibmcailjodpkaaXDrill
import Derived.Test.YtibmcailjodpkaaOpen
namespace Go.Proofs.Ytibmcailjodpkaa
set_option linter.unusedVariables false
open Go.RowKit Go.ChangeShapes Go.WideShapes Go.Deep
theorem openDrillS {H : Type} {ec : TypeId × Value → H} {W : World} {A : Option Addr} {l c : Nat} {d : DataW H} {p : List MemPlace} (h : DataW.Trod ec Try.prog W 0 (fun _ => true) true 22 (.slice A l c) d p) :
    ∃ xs : List Drill, xs.length = l ∧ Sl 0 W.heap.size W 5 (.slice A l c) xs.length (flat Drill.enc xs) ∧ ∀ x ∈ xs, x.crew.size ≤ maxLen :=
  open_flat Drill.len (by omega) (ok := fun x => x.crew.size ≤ maxLen) Try.underlying22 (by kernel_rfl) (fun n cs y hl ht => by
    have hf := el_fields Try.underlying48 (by kernel_rfl) ht (by simpa using hl)
    match cs, hl with
    | [c0, c1, c2, c3, c4], _ =>
      obtain ⟨v0, z0, m0, e0, t0⟩ := hf 0 _ rfl
      obtain ⟨x0, q0, _, _⟩ := DataW.trod_int Try.underlying2 t0
      simp only [List.cons.injEq, and_true] at q0; subst q0
      simp at e0; subst e0
      obtain ⟨v1, z1, m1, e1, t1⟩ := hf 1 _ rfl
      obtain ⟨x1, q1, _, s1⟩ := DataW.trod_string Try.underlying9 t1
      simp only [List.cons.injEq, and_true] at q1; subst q1
      simp at e1; subst e1
      obtain ⟨v2, z2, m2, e2, t2⟩ := hf 2 _ rfl
      obtain ⟨x2, q2, _, _⟩ := DataW.trod_int Try.underlying2 t2
      simp only [List.cons.injEq, and_true] at q2; subst q2
      simp at e2; subst e2
      obtain ⟨v3, z3, m3, e3, t3⟩ := hf 3 _ rfl
      obtain ⟨x3, q3, _, _⟩ := DataW.trod_int Try.underlying2 t3
      simp only [List.cons.injEq, and_true] at q3; subst q3
      simp at e3; subst e3
      obtain ⟨v4, z4, m4, e4, t4⟩ := hf 4 _ rfl
      obtain ⟨x4, q4, _, _⟩ := DataW.trod_int Try.underlying2 t4
      simp only [List.cons.injEq, and_true] at q4; subst q4
      simp at e4; subst e4
      exact ⟨⟨x0, x1, x2, x3, x4⟩, rfl, s1⟩) h
end Go.Proofs.Ytibmcailjodpkaa
