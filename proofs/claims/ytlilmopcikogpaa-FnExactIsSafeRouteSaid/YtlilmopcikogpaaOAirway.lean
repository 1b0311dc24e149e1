/- An argument that is a slice of Airway, read as a list. -/
import Derived.Test.YtlilmopcikogpaaXAirway
import Derived.Test.YtlilmopcikogpaaOpen
namespace Go.Proofs.Ytlilmopcikogpaa
set_option linter.unusedVariables false
open Go.RowKit Go.ChangeShapes Go.WideShapes Go.Deep
theorem elAirway {H : Type} {ec : TypeId × Value → H} {W : World} (n : Nat) (cs : List Value) (y : DataW H × List MemPlace) (hl : cs.length = 7) (ht : DataW.trod ec Try.prog W 0 (fun _ => true) true n 112 cs = some y) : ∃ x : Airway, cs = x.enc ∧ (x.id.size ≤ maxLen) := by
  have hf := el_fields Try.underlying112 (by kernel_rfl) ht (by simpa using hl)
  match cs, hl with
  | [c0, c1, c2, c3, c4, c5, c6], _ =>
      obtain ⟨v0, z0, m0, e0, t0⟩ := hf 0 _ rfl
      obtain ⟨x0, q0, _, s0⟩ := DataW.trod_string Try.underlying9 t0
      simp only [List.cons.injEq, and_true] at q0; subst q0
      simp at e0; subst e0
      obtain ⟨v1, z1, m1, e1, t1⟩ := hf 1 _ rfl
      obtain ⟨x1, q1, _, _⟩ := DataW.trod_int Try.underlying2 t1
      simp only [List.cons.injEq, and_true] at q1; subst q1
      simp at e1; subst e1
      obtain ⟨v2, z2, m2, e2, t2⟩ := hf 2 _ rfl
      obtain ⟨x2, q2, _, _⟩ := DataW.trod_int Try.underlying2 t2
      simp only [List.cons.injEq, and_true] at q2; subst q2
      simp at e2; subst e2
      obtain ⟨v3, z3, m3, e3, t3⟩ := hf 3 _ rfl
      obtain ⟨x3, q3, _, _⟩ := DataW.trod_int Try.underlying2 t3
      simp only [List.cons.injEq, and_true] at q3; subst q3
      simp at e3; subst e3
      obtain ⟨v4, z4, m4, e4, t4⟩ := hf 4 _ rfl
      obtain ⟨x4, q4, _, _⟩ := DataW.trod_int Try.underlying2 t4
      simp only [List.cons.injEq, and_true] at q4; subst q4
      simp at e4; subst e4
      obtain ⟨v5, z5, m5, e5, t5⟩ := hf 5 _ rfl
      obtain ⟨x5, q5, _, _⟩ := DataW.trod_int Try.underlying2 t5
      simp only [List.cons.injEq, and_true] at q5; subst q5
      simp at e5; subst e5
      obtain ⟨v6, z6, m6, e6, t6⟩ := hf 6 _ rfl
      obtain ⟨x6, q6, _, _⟩ := DataW.trod_int Try.underlying2 t6
      simp only [List.cons.injEq, and_true] at q6; subst q6
      simp at e6; subst e6
      exact ⟨⟨x0, x1, x2, x3, x4, x5, x6⟩, rfl, s0⟩
theorem openAirwayS {H : Type} {ec : TypeId × Value → H} {W : World} {A : Option Addr} {l c : Nat} {d : DataW H} {p : List MemPlace} (h : DataW.Trod ec Try.prog W 0 (fun _ => true) true 22 (.slice A l c) d p) :
    ∃ xs : List Airway, xs.length = l ∧ Sl 0 W.heap.size W 7 (.slice A l c) xs.length (flat Airway.enc xs) ∧ ∀ x ∈ xs, x.id.size ≤ maxLen :=
  open_flat Airway.len (by omega) (ok := fun x => x.id.size ≤ maxLen) Try.underlying22 (by kernel_rfl) elAirway h
theorem openAirwayC {H : Type} {ec : TypeId × Value → H} {W : World} {fuel : Nat} {cs : List Value} {y : DataW H × List MemPlace} (h : DataW.trod ec Try.prog W 0 (fun _ => true) true fuel 22 cs = some y) :
    ∃ A l c, cs = [.slice A l c] ∧ ∃ xs : List Airway, xs.length = l ∧ Sl 0 W.heap.size W 7 (.slice A l c) xs.length (flat Airway.enc xs) ∧ ∀ x ∈ xs, x.id.size ≤ maxLen :=
  open_flatC Airway.len (by omega) (ok := fun x => x.id.size ≤ maxLen) Try.underlying22 (by kernel_rfl) elAirway h
end Go.Proofs.Ytlilmopcikogpaa
