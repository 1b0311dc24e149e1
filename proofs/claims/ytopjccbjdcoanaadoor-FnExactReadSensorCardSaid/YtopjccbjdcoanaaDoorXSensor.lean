/- Sensor: its cells; the contracts of the functions that measure, copy, compare, mark and hold a list of them. -/
import Derived.Test.YtopjccbjdcoanaaDoorMark
import Derived.Deep.RegionHeld3
namespace Go.Proofs.YtopjccbjdcoanaaDoor
set_option linter.unusedVariables false
open Go.RowKit
structure Sensor where
  id : ByteArray
  junction : Int
  limit : Int
  delay : Int
  release : Int
def Sensor.enc (x : Sensor) : List Value := [.string x.id, .int .i64 x.junction, .int .i64 x.limit, .int .i64 x.delay, .int .i64 x.release]
theorem Sensor.len (x : Sensor) : x.enc.length = 5 := rfl
theorem Sensor.cells {xs : List Sensor} {w : World} {b off : Nat} (hc : ∀ j u, (flat Sensor.enc xs)[j]? = some u → w.cell? ⟨b, off + j, none⟩ = some u) (i : Nat) (hi : i < xs.length) :
    w.cell? ⟨b, off + i * 5, none⟩ = some (.string xs[i].id) ∧ w.cell? ⟨b, off + i * 5 + 1, none⟩ = some (.int .i64 xs[i].junction) ∧ w.cell? ⟨b, off + i * 5 + 2, none⟩ = some (.int .i64 xs[i].limit) ∧ w.cell? ⟨b, off + i * 5 + 3, none⟩ = some (.int .i64 xs[i].delay) ∧ w.cell? ⟨b, off + i * 5 + 4, none⟩ = some (.int .i64 xs[i].release) :=
  ⟨cell_flat Sensor.len hc i hi 0 _ (by omega) rfl, cell_flat Sensor.len hc i hi 1 _ (by omega) rfl, cell_flat Sensor.len hc i hi 2 _ (by omega) rfl, cell_flat Sensor.len hc i hi 3 _ (by omega) rfl, cell_flat Sensor.len hc i hi 4 _ (by omega) rfl⟩
def Sensor.At (w : World) (b o : Nat) (x : Sensor) : Prop := w.cell? ⟨b, o, none⟩ = some (.string x.id) ∧ w.cell? ⟨b, o + 1, none⟩ = some (.int .i64 x.junction) ∧ w.cell? ⟨b, o + 2, none⟩ = some (.int .i64 x.limit) ∧ w.cell? ⟨b, o + 3, none⟩ = some (.int .i64 x.delay) ∧ w.cell? ⟨b, o + 4, none⟩ = some (.int .i64 x.release)
theorem Sensor.at_of {xs : List Sensor} {w W : World} {b off : Nat} (hc : ∀ j u, (flat Sensor.enc xs)[j]? = some u → w.cell? ⟨b, off + j, none⟩ = some u) (hW : Ext w W) (hb : b < w.heap.size) (i : Nat) (hi : i < xs.length) : Sensor.At W b (off + i * 5) xs[i] := by
  obtain ⟨c0, c1, c2, c3, c4⟩ := Sensor.cells hc i hi
  have hh := (bcell hW).1
  exact ⟨(hh _ _ hb).trans c0, (hh _ _ hb).trans c1, (hh _ _ hb).trans c2, (hh _ _ hb).trans c3, (hh _ _ hb).trans c4⟩
theorem szSensor (x : Sensor) (l : Int) (w : World) (hs : x.id.size ≤ maxLen) (hl : 0 ≤ l ∧ l ≤ 1048576) :
    Calls Tryd.prog 5 #[.agg #[.string x.id, .int .i64 x.junction, .int .i64 x.limit, .int .i64 x.delay, .int .i64 x.release], .int .i64 l] w fun e w' => e = .returned (.int .i64 (szF l x.id.size)) ∧ Ext w w' := by
  obtain ⟨hl1, hl2⟩ := hl
  unfold maxLen at hs
  go_enter Tryd.func5, Tryd.ntmps5
  go_wp2
  all_goals (go_ret; refine ⟨ret_int ?_, by go_tidy; go_grown⟩; go_tidy; unfold szF; split <;> omega)
theorem toSensor (x : Sensor) (w : World) :
    Calls Tryd.prog 7 #[.agg #[.string x.id, .int .i64 x.junction, .int .i64 x.limit, .int .i64 x.delay, .int .i64 x.release]] w fun e w' => e = .returned (.agg #[.string x.id, .int .i64 x.junction, .int .i64 x.limit, .int .i64 x.delay, .int .i64 x.release]) ∧ Ext w w' := by
  go_enter Tryd.func7, Tryd.ntmps7
  go_wp2
  go_returns
  exact ⟨rfl, by go_tidy; go_grown⟩
theorem infoSensor : (Tryd.prog.info? 26).map (fun i => (i.zero, i.size, i.bytes)) = some (some (.agg #[.string ⟨#[]⟩, .int .i64 0, .int .i64 0, .int .i64 0, .int .i64 0]), 5, 48) := by kernel_rfl
theorem eqSensor (x : Sensor) (w : World) :
    Calls Tryd.prog 11 #[.agg #[.string x.id, .int .i64 x.junction, .int .i64 x.limit, .int .i64 x.delay, .int .i64 x.release], .agg #[.string x.id, .int .i64 x.junction, .int .i64 x.limit, .int .i64 x.delay, .int .i64 x.release]] w fun e w' => e = .returned (.bool true) ∧ Ext w w' := by
  go_enter Tryd.func11, Tryd.ntmps11
  go_wp2
  go_ret
  exact ⟨rfl, by go_tidy; go_grown⟩
end Go.Proofs.YtopjccbjdcoanaaDoor
