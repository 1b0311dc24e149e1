/- An argument that is a slice of Version, read as a list. -/
import Derived.Test.YthffakaddohlnaaXVersion
import Derived.Test.YthffakaddohlnaaOSetting
namespace Go.Proofs.Ythffakaddohlnaa
set_option linter.unusedVariables false
open Go.RowKit Go.ChangeShapes Go.WideShapes Go.Deep
theorem openSettingC {H : Type} {ec : TypeId × Value → H} {W : World} {n : Nat} {cs : List Value} {y : DataW H × List MemPlace} (h : DataW.trod ec Try.prog W 0 (fun _ => true) true n 22 cs = some y) :
    ∃ A l c, cs = [.slice A l c] ∧ ∃ xs : List Setting, xs.length = l ∧ Sl 0 W.heap.size W 2 (.slice A l c) xs.length (flat Setting.enc xs) ∧ ∀ x ∈ xs, x.name.size ≤ maxLen :=
  open_flatC Setting.len (by omega) (ok := fun x => x.name.size ≤ maxLen) Try.underlying22 (by kernel_rfl) (fun n cs y hl ht => by
    have hf := el_fields Try.underlying60 (by kernel_rfl) ht (by simpa using hl)
    match cs, hl with
    | [c0, c1], _ =>
      obtain ⟨v0, z0, m0, e0, t0⟩ := hf 0 _ rfl
      obtain ⟨x0, q0, _, s0⟩ := DataW.trod_string Try.underlying9 t0
      simp only [List.cons.injEq, and_true] at q0; subst q0
      simp at e0; subst e0
      obtain ⟨v1, z1, m1, e1, t1⟩ := hf 1 _ rfl
      obtain ⟨x1, q1, _, _⟩ := DataW.trod_int Try.underlying2 t1
      simp only [List.cons.injEq, and_true] at q1; subst q1
      simp at e1; subst e1
      exact ⟨⟨x0, x1⟩, rfl, s0⟩) h
theorem openVersionS {H : Type} {ec : TypeId × Value → H} {W : World} {A : Option Addr} {l c : Nat} {d : DataW H} {p : List MemPlace} (h : DataW.Trod ec Try.prog W 0 (fun _ => true) true 30 (.slice A l c) d p) :
    ∃ xs : List Version, xs.length = l ∧ SlV 0 W.heap.size W (.slice A l c) xs ∧ ∀ x ∈ xs, okV x := by
  obtain ⟨ys, hl, hS, hok⟩ := open_flat Version.len (by omega) (ok := fun q : Version × Value => okV q.1 ∧ Sl 0 W.heap.size W 2 q.2 q.1.state.length (flat Setting.enc q.1.state)) Try.underlying30 (by kernel_rfl) (fun n cs y hl ht => by
    have hf := el_fields Try.underlying67 (by kernel_rfl) ht (by simpa using hl)
    match cs, hl with
    | [c0, c1, c2, c3], _ =>
      obtain ⟨v0, z0, m0, e0, t0⟩ := hf 0 _ rfl
      obtain ⟨x0, q0, _, _⟩ := DataW.trod_int Try.underlying2 t0
      simp only [List.cons.injEq, and_true] at q0; subst q0
      simp at e0; subst e0
      obtain ⟨v1, z1, m1, e1, t1⟩ := hf 1 _ rfl
      obtain ⟨x1, q1, _, _⟩ := DataW.trod_int Try.underlying2 t1
      simp only [List.cons.injEq, and_true] at q1; subst q1
      simp at e1; subst e1
      obtain ⟨v2, z2, m2, e2, t2⟩ := hf 2 _ rfl
      obtain ⟨x2, q2, _, s2⟩ := DataW.trod_string Try.underlying9 t2
      simp only [List.cons.injEq, and_true] at q2; subst q2
      simp at e2; subst e2
      obtain ⟨v3, z3, m3, e3, t3⟩ := hf 3 _ rfl
      obtain ⟨A3, l3, c3', q3, xs3, hl3, hS3, hs3⟩ := openSettingC t3
      simp only [List.cons.injEq, and_true] at q3; subst q3
      simp at e3; subst e3
      subst hl3
      exact ⟨(⟨x0, x1, x2, xs3⟩, .slice A3 xs3.length c3'), rfl, ⟨s2, hs3⟩, hS3⟩) h
  refine ⟨ys.map Prod.fst, by simpa using hl, ⟨ys, rfl, by rw [List.length_map]; exact hS, fun q hq => (hok q hq).2⟩, fun x hx => ?_⟩
  obtain ⟨q, hq, rfl⟩ := List.mem_map.1 hx
  exact (hok q hq).1
end Go.Proofs.Ythffakaddohlnaa
