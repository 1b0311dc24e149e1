/- Lists of numbers: the contracts of the laws' own functions that copy, compare, mark and hold them. -/
import Derived.Test.YtopjccbjdcoanaaDoorOpen
import Derived.OpenShut
namespace Go.Proofs.YtopjccbjdcoanaaDoor
set_option linter.unusedVariables false
open Go.RowKit Go.ChangeShapes Go.WideShapes Go.Deep
def encI (n : Int) : List Value := [.int .i64 n]
theorem encI_len (n : Int) : (encI n).length = 1 := rfl
theorem cellsI {xs : List Int} {w : World} {b off : Nat} (hc : ∀ j u, (flat encI xs)[j]? = some u → w.cell? ⟨b, off + j, none⟩ = some u) (i : Nat) (hi : i < xs.length) : w.cell? ⟨b, off + i, none⟩ = some (.int .i64 xs[i]) := by
  have := cell_flat encI_len hc i hi 0 _ (by omega) rfl
  simpa using this
theorem getI (xs : List Int) (i : Nat) (hi : i < xs.length) : (flat encI xs)[i]? = some (.int .i64 xs[i]) := by
  have := flat_get encI_len xs i hi 0 (by omega)
  simpa [encI] using this
theorem openInt64S {H : Type} {ec : TypeId × Value → H} {W : World} {A : Option Addr} {l c : Nat} {d : DataW H} {p : List MemPlace} (h : DataW.Trod ec Tryd.prog W 0 (fun _ => true) true 38 (.slice A l c) d p) :
    ∃ xs : List Int, xs.length = l ∧ Sl 0 W.heap.size W 1 (.slice A l c) xs.length (flat encI xs) ∧ ∀ x ∈ xs, -9223372036854775808 ≤ x ∧ x ≤ 9223372036854775807 :=
  open_flat encI_len (by omega) (ok := fun x => -9223372036854775808 ≤ x ∧ x ≤ 9223372036854775807) Tryd.underlying38 (by kernel_rfl) (fun n cs y hl ht => by
    match cs, hl with
    | [c0], _ =>
      obtain ⟨x, q, _, hw⟩ := DataW.trod_int Tryd.underlying2 ht
      simp only [List.cons.injEq, and_true] at q; subst q
      exact ⟨x, rfl, bounds_i64 hw⟩) h
theorem infoInt : (Tryd.prog.info? 2).map (fun i => (i.zero, i.size, i.bytes)) = some (some (.int .i64 0), 1, 8) := by kernel_rfl

end Go.Proofs.YtopjccbjdcoanaaDoor
