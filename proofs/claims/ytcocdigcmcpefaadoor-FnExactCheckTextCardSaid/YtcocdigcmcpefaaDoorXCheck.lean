/- Check: its cells; the contracts of the functions that measure, copy, compare, mark and hold a list of them. -/
import Derived.Test.YtcocdigcmcpefaaDoorMark
import Derived.Deep.RegionHeld3
namespace Go.Proofs.YtcocdigcmcpefaaDoor
set_option linter.unusedVariables false
open Go.RowKit
structure Check where
  id : ByteArray
  every : Int
  last : Int
def Check.enc (x : Check) : List Value := [.string x.id, .int .i64 x.every, .int .i64 x.last]
theorem Check.len (x : Check) : x.enc.length = 3 := rfl
theorem Check.cells {xs : List Check} {w : World} {b off : Nat} (hc : ∀ j u, (flat Check.enc xs)[j]? = some u → w.cell? ⟨b, off + j, none⟩ = some u) (i : Nat) (hi : i < xs.length) :
    w.cell? ⟨b, off + i * 3, none⟩ = some (.string xs[i].id) ∧ w.cell? ⟨b, off + i * 3 + 1, none⟩ = some (.int .i64 xs[i].every) ∧ w.cell? ⟨b, off + i * 3 + 2, none⟩ = some (.int .i64 xs[i].last) :=
  ⟨cell_flat Check.len hc i hi 0 _ (by omega) rfl, cell_flat Check.len hc i hi 1 _ (by omega) rfl, cell_flat Check.len hc i hi 2 _ (by omega) rfl⟩
def Check.At (w : World) (b o : Nat) (x : Check) : Prop := w.cell? ⟨b, o, none⟩ = some (.string x.id) ∧ w.cell? ⟨b, o + 1, none⟩ = some (.int .i64 x.every) ∧ w.cell? ⟨b, o + 2, none⟩ = some (.int .i64 x.last)
theorem Check.at_of {xs : List Check} {w W : World} {b off : Nat} (hc : ∀ j u, (flat Check.enc xs)[j]? = some u → w.cell? ⟨b, off + j, none⟩ = some u) (hW : Ext w W) (hb : b < w.heap.size) (i : Nat) (hi : i < xs.length) : Check.At W b (off + i * 3) xs[i] := by
  obtain ⟨c0, c1, c2⟩ := Check.cells hc i hi
  have hh := (bcell hW).1
  exact ⟨(hh _ _ hb).trans c0, (hh _ _ hb).trans c1, (hh _ _ hb).trans c2⟩
theorem szCheck (x : Check) (l : Int) (w : World) (hs : x.id.size ≤ maxLen) (hl : 0 ≤ l ∧ l ≤ 1048576) :
    Calls Tryd.prog 4 #[.agg #[.string x.id, .int .i64 x.every, .int .i64 x.last], .int .i64 l] w fun e w' => e = .returned (.int .i64 (szF l x.id.size)) ∧ Ext w w' := by
  obtain ⟨hl1, hl2⟩ := hl
  unfold maxLen at hs
  go_enter Tryd.func4, Tryd.ntmps4
  go_wp2
  all_goals (go_ret; refine ⟨ret_int ?_, by go_tidy; go_grown⟩; go_tidy; unfold szF; split <;> omega)
theorem toCheck (x : Check) (w : World) :
    Calls Tryd.prog 6 #[.agg #[.string x.id, .int .i64 x.every, .int .i64 x.last]] w fun e w' => e = .returned (.agg #[.string x.id, .int .i64 x.every, .int .i64 x.last]) ∧ Ext w w' := by
  go_enter Tryd.func6, Tryd.ntmps6
  go_wp2
  go_returns
  exact ⟨rfl, by go_tidy; go_grown⟩
theorem infoCheck : (Tryd.prog.info? 26).map (fun i => (i.zero, i.size, i.bytes)) = some (some (.agg #[.string ⟨#[]⟩, .int .i64 0, .int .i64 0]), 3, 32) := by kernel_rfl
end Go.Proofs.YtcocdigcmcpefaaDoor
