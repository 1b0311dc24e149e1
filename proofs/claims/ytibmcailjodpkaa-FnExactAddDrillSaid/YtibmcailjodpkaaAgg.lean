/- An argument that is a struct of one-cell fields, by value: its cells, and what each reads as. Plain laws on readings; no function of the program in sight. -/
import Derived.Test.YtibmcailjodpkaaOpen
import Derived.Lib.SmallJoins
namespace Go.Proofs.Ytibmcailjodpkaa
set_option linter.unusedVariables false
open Go.RowKit Go.ChangeShapes Go.WideShapes Go.Deep
theorem openAgg {H : Type} {ec : TypeId × Value → H} {P : Program} {W : World} {r : Reach} {b0 : Nat} {t : TypeId} {fs : Array Field} {v : Value} {d : DataW H} {p : List MemPlace} {sp : Nat → Bool}
    (hs : P.underlying t = some (.struct fs)) (hone : oneCellFields P fs = true) (hC : P.cellsOf t = fs.size) (hv : Value.okWide P W r b0 t v) (h : DataW.Trod ec P W 0 sp true t v d p) :
    ∃ cs : Array Value, v = .agg cs ∧ cs.size = fs.size ∧ ∀ (j : Nat) (f : Field), fs[j]? = some f → ∃ (u : Value) (z : DataW H × List MemPlace) (m : Nat), cs[j]? = some u ∧ DataW.trod ec P W 0 sp true m f.type [u] = some z := by
  obtain ⟨cs, rfl, hsz⟩ := okWide_struct hs hv
  obtain ⟨fuel, hf⟩ := h
  have hz : cs.size = fs.size := hsz.trans hC
  have e : (Value.agg cs).cells.toList = cs.toList := by simp [Value.cells]
  refine ⟨cs, rfl, hz, fun j f hj => ?_⟩
  rw [e] at hf
  obtain ⟨u, z, m, hu, ht⟩ := el_fields hs hone hf (by simpa using hz) j f hj
  exact ⟨u, z, m, by simpa using hu, ht⟩
theorem array5 {cs : Array Value} (h : cs.size = 5) : ∃ c0 c1 c2 c3 c4, cs = #[c0, c1, c2, c3, c4] := by
  obtain ⟨l⟩ := cs
  match l, h with
  | [c0, c1, c2, c3, c4], _ => exact ⟨c0, c1, c2, c3, c4, rfl⟩
end Go.Proofs.Ytibmcailjodpkaa
