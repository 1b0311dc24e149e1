/- Fire: its cells; the contracts of the functions that measure, copy, compare, mark and hold a list of them. -/
import Derived.Test.YtlilmopcikogpaaDoorMark
import Derived.Deep.RegionHeld3
namespace Go.Proofs.YtlilmopcikogpaaDoor
set_option linter.unusedVariables false
open Go.RowKit
structure Fire where
  airway : Int
  atp : Int
  start : Int
def Fire.enc (x : Fire) : List Value := [.int .i64 x.airway, .int .i64 x.atp, .int .i64 x.start]
theorem Fire.len (x : Fire) : x.enc.length = 3 := rfl
theorem Fire.cells {xs : List Fire} {w : World} {b off : Nat} (hc : ∀ j u, (flat Fire.enc xs)[j]? = some u → w.cell? ⟨b, off + j, none⟩ = some u) (i : Nat) (hi : i < xs.length) :
    w.cell? ⟨b, off + i * 3, none⟩ = some (.int .i64 xs[i].airway) ∧ w.cell? ⟨b, off + i * 3 + 1, none⟩ = some (.int .i64 xs[i].atp) ∧ w.cell? ⟨b, off + i * 3 + 2, none⟩ = some (.int .i64 xs[i].start) :=
  ⟨cell_flat Fire.len hc i hi 0 _ (by omega) rfl, cell_flat Fire.len hc i hi 1 _ (by omega) rfl, cell_flat Fire.len hc i hi 2 _ (by omega) rfl⟩
def Fire.At (w : World) (b o : Nat) (x : Fire) : Prop := w.cell? ⟨b, o, none⟩ = some (.int .i64 x.airway) ∧ w.cell? ⟨b, o + 1, none⟩ = some (.int .i64 x.atp) ∧ w.cell? ⟨b, o + 2, none⟩ = some (.int .i64 x.start)
theorem Fire.at_of {xs : List Fire} {w W : World} {b off : Nat} (hc : ∀ j u, (flat Fire.enc xs)[j]? = some u → w.cell? ⟨b, off + j, none⟩ = some u) (hW : Ext w W) (hb : b < w.heap.size) (i : Nat) (hi : i < xs.length) : Fire.At W b (off + i * 3) xs[i] := by
  obtain ⟨c0, c1, c2⟩ := Fire.cells hc i hi
  have hh := (bcell hW).1
  exact ⟨(hh _ _ hb).trans c0, (hh _ _ hb).trans c1, (hh _ _ hb).trans c2⟩
theorem toFire (x : Fire) (w : World) :
    Calls Tryd.prog 5 #[.agg #[.int .i64 x.airway, .int .i64 x.atp, .int .i64 x.start]] w fun e w' => e = .returned (.agg #[.int .i64 x.airway, .int .i64 x.atp, .int .i64 x.start]) ∧ Ext w w' := by
  go_enter Tryd.func5, Tryd.ntmps5
  go_wp2
  go_returns
  exact ⟨rfl, by go_tidy; go_grown⟩
theorem infoFire : (Tryd.prog.info? 25).map (fun i => (i.zero, i.size, i.bytes)) = some (some (.agg #[.int .i64 0, .int .i64 0, .int .i64 0]), 3, 24) := by kernel_rfl
end Go.Proofs.YtlilmopcikogpaaDoor
