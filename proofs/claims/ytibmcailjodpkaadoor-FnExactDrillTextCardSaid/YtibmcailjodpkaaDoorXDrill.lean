/- Drill: its cells; the contracts of the functions that measure, copy, compare, mark and hold a list of them. -/
import Derived.Test.YtibmcailjodpkaaDoorMark
import Derived.Deep.RegionHeld3
namespace Go.Proofs.YtibmcailjodpkaaDoor
set_option linter.unusedVariables false
open Go.RowKit
structure Drill where
  day : Int
  crew : ByteArray
  persons : Int
  seconds : Int
  missing : Int
def Drill.enc (x : Drill) : List Value := [.int .i64 x.day, .string x.crew, .int .i64 x.persons, .int .i64 x.seconds, .int .i64 x.missing]
theorem Drill.len (x : Drill) : x.enc.length = 5 := rfl
theorem Drill.cells {xs : List Drill} {w : World} {b off : Nat} (hc : ∀ j u, (flat Drill.enc xs)[j]? = some u → w.cell? ⟨b, off + j, none⟩ = some u) (i : Nat) (hi : i < xs.length) :
    w.cell? ⟨b, off + i * 5, none⟩ = some (.int .i64 xs[i].day) ∧ w.cell? ⟨b, off + i * 5 + 1, none⟩ = some (.string xs[i].crew) ∧ w.cell? ⟨b, off + i * 5 + 2, none⟩ = some (.int .i64 xs[i].persons) ∧ w.cell? ⟨b, off + i * 5 + 3, none⟩ = some (.int .i64 xs[i].seconds) ∧ w.cell? ⟨b, off + i * 5 + 4, none⟩ = some (.int .i64 xs[i].missing) :=
  ⟨cell_flat Drill.len hc i hi 0 _ (by omega) rfl, cell_flat Drill.len hc i hi 1 _ (by omega) rfl, cell_flat Drill.len hc i hi 2 _ (by omega) rfl, cell_flat Drill.len hc i hi 3 _ (by omega) rfl, cell_flat Drill.len hc i hi 4 _ (by omega) rfl⟩
def Drill.At (w : World) (b o : Nat) (x : Drill) : Prop := w.cell? ⟨b, o, none⟩ = some (.int .i64 x.day) ∧ w.cell? ⟨b, o + 1, none⟩ = some (.string x.crew) ∧ w.cell? ⟨b, o + 2, none⟩ = some (.int .i64 x.persons) ∧ w.cell? ⟨b, o + 3, none⟩ = some (.int .i64 x.seconds) ∧ w.cell? ⟨b, o + 4, none⟩ = some (.int .i64 x.missing)
theorem Drill.at_of {xs : List Drill} {w W : World} {b off : Nat} (hc : ∀ j u, (flat Drill.enc xs)[j]? = some u → w.cell? ⟨b, off + j, none⟩ = some u) (hW : Ext w W) (hb : b < w.heap.size) (i : Nat) (hi : i < xs.length) : Drill.At W b (off + i * 5) xs[i] := by
  obtain ⟨c0, c1, c2, c3, c4⟩ := Drill.cells hc i hi
  have hh := (bcell hW).1
  exact ⟨(hh _ _ hb).trans c0, (hh _ _ hb).trans c1, (hh _ _ hb).trans c2, (hh _ _ hb).trans c3, (hh _ _ hb).trans c4⟩
theorem szDrill (x : Drill) (l : Int) (w : World) (hs : x.crew.size ≤ maxLen) (hl : 0 ≤ l ∧ l ≤ 1048576) :
    Calls Tryd.prog 4 #[.agg #[.int .i64 x.day, .string x.crew, .int .i64 x.persons, .int .i64 x.seconds, .int .i64 x.missing], .int .i64 l] w fun e w' => e = .returned (.int .i64 (szF l x.crew.size)) ∧ Ext w w' := by
  obtain ⟨hl1, hl2⟩ := hl
  unfold maxLen at hs
  go_enter Tryd.func4, Tryd.ntmps4
  go_wp2
  all_goals (go_ret; refine ⟨ret_int ?_, by go_tidy; go_grown⟩; go_tidy; unfold szF; split <;> omega)
theorem toDrill (x : Drill) (w : World) :
    Calls Tryd.prog 6 #[.agg #[.int .i64 x.day, .string x.crew, .int .i64 x.persons, .int .i64 x.seconds, .int .i64 x.missing]] w fun e w' => e = .returned (.agg #[.int .i64 x.day, .string x.crew, .int .i64 x.persons, .int .i64 x.seconds, .int .i64 x.missing]) ∧ Ext w w' := by
  go_enter Tryd.func6, Tryd.ntmps6
  go_wp2
  go_returns
  exact ⟨rfl, by go_tidy; go_grown⟩
theorem infoDrill : (Tryd.prog.info? 26).map (fun i => (i.zero, i.size, i.bytes)) = some (some (.agg #[.int .i64 0, .string ⟨#[]⟩, .int .i64 0, .int .i64 0, .int .i64 0]), 5, 48) := by kernel_rfl
end Go.Proofs.YtibmcailjodpkaaDoor
