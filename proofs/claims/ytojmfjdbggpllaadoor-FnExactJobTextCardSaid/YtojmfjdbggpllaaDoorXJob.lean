/- Job: its cells; the contracts of the functions that measure, copy, compare, mark and hold a list of them. -/
import Derived.Test.YtojmfjdbggpllaaDoorMark
import Derived.Deep.RegionHeld3
namespace Go.Proofs.YtojmfjdbggpllaaDoor
set_option linter.unusedVariables false
open Go.RowKit
structure Job where
  id : ByteArray
  airway : Int
  people : Int
  power : Int
def Job.enc (x : Job) : List Value := [.string x.id, .int .i64 x.airway, .int .i64 x.people, .int .i64 x.power]
theorem Job.len (x : Job) : x.enc.length = 4 := rfl
theorem Job.cells {xs : List Job} {w : World} {b off : Nat} (hc : ∀ j u, (flat Job.enc xs)[j]? = some u → w.cell? ⟨b, off + j, none⟩ = some u) (i : Nat) (hi : i < xs.length) :
    w.cell? ⟨b, off + i * 4, none⟩ = some (.string xs[i].id) ∧ w.cell? ⟨b, off + i * 4 + 1, none⟩ = some (.int .i64 xs[i].airway) ∧ w.cell? ⟨b, off + i * 4 + 2, none⟩ = some (.int .i64 xs[i].people) ∧ w.cell? ⟨b, off + i * 4 + 3, none⟩ = some (.int .i64 xs[i].power) :=
  ⟨cell_flat Job.len hc i hi 0 _ (by omega) rfl, cell_flat Job.len hc i hi 1 _ (by omega) rfl, cell_flat Job.len hc i hi 2 _ (by omega) rfl, cell_flat Job.len hc i hi 3 _ (by omega) rfl⟩
def Job.At (w : World) (b o : Nat) (x : Job) : Prop := w.cell? ⟨b, o, none⟩ = some (.string x.id) ∧ w.cell? ⟨b, o + 1, none⟩ = some (.int .i64 x.airway) ∧ w.cell? ⟨b, o + 2, none⟩ = some (.int .i64 x.people) ∧ w.cell? ⟨b, o + 3, none⟩ = some (.int .i64 x.power)
theorem Job.at_of {xs : List Job} {w W : World} {b off : Nat} (hc : ∀ j u, (flat Job.enc xs)[j]? = some u → w.cell? ⟨b, off + j, none⟩ = some u) (hW : Ext w W) (hb : b < w.heap.size) (i : Nat) (hi : i < xs.length) : Job.At W b (off + i * 4) xs[i] := by
  obtain ⟨c0, c1, c2, c3⟩ := Job.cells hc i hi
  have hh := (bcell hW).1
  exact ⟨(hh _ _ hb).trans c0, (hh _ _ hb).trans c1, (hh _ _ hb).trans c2, (hh _ _ hb).trans c3⟩
theorem szJob (x : Job) (l : Int) (w : World) (hs : x.id.size ≤ maxLen) (hl : 0 ≤ l ∧ l ≤ 1048576) :
    Calls Tryd.prog 8 #[.agg #[.string x.id, .int .i64 x.airway, .int .i64 x.people, .int .i64 x.power], .int .i64 l] w fun e w' => e = .returned (.int .i64 (szF l x.id.size)) ∧ Ext w w' := by
  obtain ⟨hl1, hl2⟩ := hl
  unfold maxLen at hs
  go_enter Tryd.func8, Tryd.ntmps8
  go_wp2
  all_goals (go_ret; refine ⟨ret_int ?_, by go_tidy; go_grown⟩; go_tidy; unfold szF; split <;> omega)
theorem toJob (x : Job) (w : World) :
    Calls Tryd.prog 10 #[.agg #[.string x.id, .int .i64 x.airway, .int .i64 x.people, .int .i64 x.power]] w fun e w' => e = .returned (.agg #[.string x.id, .int .i64 x.airway, .int .i64 x.people, .int .i64 x.power]) ∧ Ext w w' := by
  go_enter Tryd.func10, Tryd.ntmps10
  go_wp2
  go_returns
  exact ⟨rfl, by go_tidy; go_grown⟩
theorem infoJob : (Tryd.prog.info? 32).map (fun i => (i.zero, i.size, i.bytes)) = some (some (.agg #[.string ⟨#[]⟩, .int .i64 0, .int .i64 0, .int .i64 0]), 4, 40) := by kernel_rfl
end Go.Proofs.YtojmfjdbggpllaaDoor
