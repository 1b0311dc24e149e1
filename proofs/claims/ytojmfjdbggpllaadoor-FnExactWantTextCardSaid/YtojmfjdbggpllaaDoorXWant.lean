/- Want: its cells; the contracts of the functions that measure, copy, compare, mark and hold a list of them. -/
import Derived.Test.YtojmfjdbggpllaaDoorMark
import Derived.Deep.RegionHeld3
namespace Go.Proofs.YtojmfjdbggpllaaDoor
set_option linter.unusedVariables false
open Go.RowKit
structure Want where
  airway : Int
  least : Int
  most : Int
def Want.enc (x : Want) : List Value := [.int .i64 x.airway, .int .i64 x.least, .int .i64 x.most]
theorem Want.len (x : Want) : x.enc.length = 3 := rfl
theorem Want.cells {xs : List Want} {w : World} {b off : Nat} (hc : ∀ j u, (flat Want.enc xs)[j]? = some u → w.cell? ⟨b, off + j, none⟩ = some u) (i : Nat) (hi : i < xs.length) :
    w.cell? ⟨b, off + i * 3, none⟩ = some (.int .i64 xs[i].airway) ∧ w.cell? ⟨b, off + i * 3 + 1, none⟩ = some (.int .i64 xs[i].least) ∧ w.cell? ⟨b, off + i * 3 + 2, none⟩ = some (.int .i64 xs[i].most) :=
  ⟨cell_flat Want.len hc i hi 0 _ (by omega) rfl, cell_flat Want.len hc i hi 1 _ (by omega) rfl, cell_flat Want.len hc i hi 2 _ (by omega) rfl⟩
def Want.At (w : World) (b o : Nat) (x : Want) : Prop := w.cell? ⟨b, o, none⟩ = some (.int .i64 x.airway) ∧ w.cell? ⟨b, o + 1, none⟩ = some (.int .i64 x.least) ∧ w.cell? ⟨b, o + 2, none⟩ = some (.int .i64 x.most)
theorem Want.at_of {xs : List Want} {w W : World} {b off : Nat} (hc : ∀ j u, (flat Want.enc xs)[j]? = some u → w.cell? ⟨b, off + j, none⟩ = some u) (hW : Ext w W) (hb : b < w.heap.size) (i : Nat) (hi : i < xs.length) : Want.At W b (off + i * 3) xs[i] := by
  obtain ⟨c0, c1, c2⟩ := Want.cells hc i hi
  have hh := (bcell hW).1
  exact ⟨(hh _ _ hb).trans c0, (hh _ _ hb).trans c1, (hh _ _ hb).trans c2⟩
theorem toWant (x : Want) (w : World) :
    Calls Tryd.prog 6 #[.agg #[.int .i64 x.airway, .int .i64 x.least, .int .i64 x.most]] w fun e w' => e = .returned (.agg #[.int .i64 x.airway, .int .i64 x.least, .int .i64 x.most]) ∧ Ext w w' := by
  go_enter Tryd.func6, Tryd.ntmps6
  go_wp2
  go_returns
  exact ⟨rfl, by go_tidy; go_grown⟩
theorem infoWant : (Tryd.prog.info? 25).map (fun i => (i.zero, i.size, i.bytes)) = some (some (.agg #[.int .i64 0, .int .i64 0, .int .i64 0]), 3, 24) := by kernel_rfl
end Go.Proofs.YtojmfjdbggpllaaDoor
