/- An argument that is a list of lists of numbers. -/
import Derived.Test.YtopjccbjdcoanaaXSS
import Derived.Test.YtopjccbjdcoanaaOpen
namespace Go.Proofs.Ytopjccbjdcoanaa
set_option linter.unusedVariables false
open Go.RowKit Go.ChangeShapes Go.WideShapes Go.Deep
theorem openInt64C {H : Type} {ec : TypeId × Value → H} {W : World} {n : Nat} {cs : List Value} {y : DataW H × List MemPlace} (h : DataW.trod ec Try.prog W 0 (fun _ => true) true n 27 cs = some y) :
    ∃ A l c, cs = [.slice A l c] ∧ ∃ xs : List Int, xs.length = l ∧ Sl 0 W.heap.size W 1 (.slice A l c) xs.length (flat encI xs) ∧ ∀ x ∈ xs, True :=
  open_flatC encI_len (by omega) (ok := fun _ => True) Try.underlying27 (by kernel_rfl) (fun n cs y hl ht => by
    match cs, hl with
    | [c0], _ =>
      obtain ⟨x0, q0, _, _⟩ := DataW.trod_int Try.underlying2 ht
      simp only [List.cons.injEq, and_true] at q0; subst q0
      exact ⟨x0, rfl, trivial⟩) h
theorem openInt64SS {H : Type} {ec : TypeId × Value → H} {W : World} {A : Option Addr} {l c : Nat} {d : DataW H} {p : List MemPlace} (h : DataW.Trod ec Try.prog W 0 (fun _ => true) true 24 (.slice A l c) d p) :
    ∃ xs : List (List Int), xs.length = l ∧ SlSS 0 W.heap.size W (.slice A l c) xs ∧ True := by
  obtain ⟨ys, hl, hS, hok⟩ := open_flat encSS_len (by omega) (ok := fun q : List Int × Value => Sl 0 W.heap.size W 1 q.2 q.1.length (flat encI q.1)) Try.underlying24 (by kernel_rfl) (fun n cs y hl ht => by
    obtain ⟨A3, l3, c3, q3, xs3, hl3, hS3, _⟩ := openInt64C ht
    subst q3
    subst hl3
    exact ⟨(xs3, .slice A3 xs3.length c3), rfl, hS3⟩) h
  exact ⟨ys.map Prod.fst, by simpa using hl, ⟨ys, rfl, by rw [List.length_map]; exact hS, fun q hq => hok q hq⟩, trivial⟩
end Go.Proofs.Ytopjccbjdcoanaa
