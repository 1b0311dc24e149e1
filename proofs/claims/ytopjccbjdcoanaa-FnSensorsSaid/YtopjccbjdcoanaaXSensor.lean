/- Sensor: its cells; the contracts of the functions that measure, copy, compare, mark and hold a list of them. -/
import Derived.Test.YtopjccbjdcoanaaMark
import Derived.Deep.RegionHeld3
namespace Go.Proofs.Ytopjccbjdcoanaa
set_option linter.unusedVariables false
open Go.RowKit
structure Sensor where
  id : ByteArray
  junction : Int
  limit : Int
  delay : Int
  release : Int
def Sensor.enc (x : Sensor) : List Value := [.string x.id, .int .i64 x.junction, .int .i64 x.limit, .int .i64 x.delay, .int .i64 x.release]
theorem Sensor.len (x : Sensor) : x.enc.length = 5 := rfl
theorem Sensor.cells {xs : List Sensor} {w : World} {b off : Nat} (hc : ∀ j u, (flat Sensor.enc xs)[j]? = some u → w.cell? ⟨b, off + j, none⟩ = some u) (i : Nat) (hi : i < xs.length) :
    w.cell? ⟨b, off + i * 5, none⟩ = some (.string xs[i].id) ∧ w.cell? ⟨b, off + i * 5 + 1, none⟩ = some (.int .i64 xs[i].junction) ∧ w.cell? ⟨b, off + i * 5 + 2, none⟩ = some (.int .i64 xs[i].limit) ∧ w.cell? ⟨b, off + i * 5 + 3, none⟩ = some (.int .i64 xs[i].delay) ∧ w.cell? ⟨b, off + i * 5 + 4, none⟩ = some (.int .i64 xs[i].release) :=
  ⟨cell_flat Sensor.len hc i hi 0 _ (by omega) rfl, cell_flat Sensor.len hc i hi 1 _ (by omega) rfl, cell_flat Sensor.len hc i hi 2 _ (by omega) rfl, cell_flat Sensor.len hc i hi 3 _ (by omega) rfl, cell_flat Sensor.len hc i hi 4 _ (by omega) rfl⟩
def Sensor.At (w : World) (b o : Nat) (x : Sensor) : Prop := w.cell? ⟨b, o, none⟩ = some (.string x.id) ∧ w.cell? ⟨b, o + 1, none⟩ = some (.int .i64 x.junction) ∧ w.cell? ⟨b, o + 2, none⟩ = some (.int .i64 x.limit) ∧ w.cell? ⟨b, o + 3, none⟩ = some (.int .i64 x.delay) ∧ w.cell? ⟨b, o + 4, none⟩ = some (.int .i64 x.release)
theorem Sensor.at_of {xs : List Sensor} {w W : World} {b off : Nat} (hc : ∀ j u, (flat Sensor.enc xs)[j]? = some u → w.cell? ⟨b, off + j, none⟩ = some u) (hW : Ext w W) (hb : b < w.heap.size) (i : Nat) (hi : i < xs.length) : Sensor.At W b (off + i * 5) xs[i] := by
  obtain ⟨c0, c1, c2, c3, c4⟩ := Sensor.cells hc i hi
  have hh := (bcell hW).1
  exact ⟨(hh _ _ hb).trans c0, (hh _ _ hb).trans c1, (hh _ _ hb).trans c2, (hh _ _ hb).trans c3, (hh _ _ hb).trans c4⟩
theorem szSensor (x : Sensor) (l : Int) (w : World) (hs : x.id.size ≤ maxLen) (hl : 0 ≤ l ∧ l ≤ 1048576) :
    Calls Try.prog 18 #[.agg #[.string x.id, .int .i64 x.junction, .int .i64 x.limit, .int .i64 x.delay, .int .i64 x.release], .int .i64 l] w fun e w' => e = .returned (.int .i64 (szF l x.id.size)) ∧ Ext w w' := by
  obtain ⟨hl1, hl2⟩ := hl
  unfold maxLen at hs
  go_enter Try.func18, Try.ntmps18
  go_wp2
  all_goals (go_ret; refine ⟨ret_int ?_, by go_tidy; go_grown⟩; go_tidy; unfold szF; split <;> omega)
theorem szSensorS (xs : List Sensor) (lo hi : Nat) (v : Value) (l : Int) (w : World) (hv : Sl lo hi w 5 v xs.length (flat Sensor.enc xs)) (hs : ∀ x ∈ xs, x.id.size ≤ maxLen) (hl : 0 ≤ l ∧ l ≤ 1048576) :
    Calls Try.prog 31 #[v, .int .i64 l] w fun e w' => (∃ r, e = .returned (.int .i64 r) ∧ (0 ≤ r → r ≤ 1048576 ∧ xs.length ≤ 1048576 ∧ ∀ x ∈ xs, x.id.size ≤ 1048576)) ∧ Ext w w' := by
  obtain ⟨hhi, _, A, c, rfl, hnc, hcm, hcell⟩ := hv
  obtain ⟨hl1, hl2⟩ := hl
  unfold maxLen at hcm
  by_cases h0 : l - xs.length < 0
  · go_enter Try.func31, Try.ntmps31
    go_wp2
    go_ret
    exact ⟨⟨-1, rfl, by omega⟩, by go_tidy; go_grown⟩
  · go_enter Try.func31, Try.ntmps31
    go_wp2
    go_loopw [1, 5] (fun l' i wr => ∃ (k : Nat) (m : Int), k ≤ xs.length ∧ i = .int .i64 k ∧ l' = .int .i64 m ∧ (0 ≤ m ∧ m ≤ 1048576) ∧ Hid (∀ j (h : j < xs.length), j < k → (xs[j]).id.size ≤ 1048576) ∧ Ext w wr) (fun _ i _ => xs.length - (intOf i).toNat)
    case atStart => exact ⟨0, _, by omega, rfl, rfl, by omega, hid (fun j h hj => by omega), Below.refl _ _⟩
    case round =>
      obtain ⟨k, m, hk, rfl, rfl, ⟨hm0, hm1⟩, hall, hE⟩ := hrel
      by_cases hlt : k < xs.length
      · obtain ⟨b, off, rfl, hb1, hb2, hc⟩ := hcell (by omega)
        obtain ⟨c0, c1, c2, c3, c4⟩ := Sensor.cells hc k hlt
        have hcc := (bcell hE).1
        have hbw : b < w.heap.size := by omega
        have hsk : (xs[k]).id.size ≤ maxLen := hs _ (List.getElem_mem hlt)
        by_cases hz : szF m (xs[k]).id.size < 0
        · go_wp2_with (go_at_call 18; refine (szSensor xs[k] _ _ hsk ⟨hm0, hm1⟩).mono ?_; rintro e w2 ⟨rfl, hE2⟩)
          go_ret
          exact ⟨⟨-1, rfl, by omega⟩, Ext.tr hE hE2⟩
        · have hz1 := szF_bd m (xs[k]).id.size (by omega)
          go_wp2_with (go_at_call 18; refine (szSensor xs[k] _ _ hsk ⟨hm0, hm1⟩).mono ?_; rintro e w2 ⟨rfl, hE2⟩)
          go_roundw
          case rel => exact ⟨k + 1, _, by omega, by go_num, rfl, by omega, hid (fun j h hj => by rcases Nat.lt_succ_iff_lt_or_eq.1 hj with h1 | rfl; exact hall.out j h h1; omega), Ext.tr hE hE2⟩
          case measure => simp [intOf]; omega
      · go_wp2
        go_ret
        refine ⟨⟨m, rfl, fun _ => ⟨hm1, by omega, fun x hx => ?_⟩⟩, hE⟩
        obtain ⟨j, hj, rfl⟩ := List.getElem_of_mem hx
        exact hall.out j hj (by omega)
theorem toSensor (x : Sensor) (w : World) :
    Calls Try.prog 19 #[.agg #[.string x.id, .int .i64 x.junction, .int .i64 x.limit, .int .i64 x.delay, .int .i64 x.release]] w fun e w' => e = .returned (.agg #[.string x.id, .int .i64 x.junction, .int .i64 x.limit, .int .i64 x.delay, .int .i64 x.release]) ∧ Ext w w' := by
  go_enter Try.func19, Try.ntmps19
  go_wp2
  go_returns
  exact ⟨rfl, by go_tidy; go_grown⟩
theorem infoSensor : (Try.prog.info? 40).map (fun i => (i.zero, i.size, i.bytes)) = some (some (.agg #[.string ⟨#[]⟩, .int .i64 0, .int .i64 0, .int .i64 0, .int .i64 0]), 5, 48) := by kernel_rfl
theorem toSensorS (xs : List Sensor) (lo hi : Nat) (v : Value) (w : World) (hv : Sl lo hi w 5 v xs.length (flat Sensor.enc xs)) (hn : xs.length ≤ 1048576) :
    Calls Try.prog 33 #[v] w fun e w' => (∃ v', e = .returned v' ∧ Own w.heap.size w'.heap.size w' 40 5 v' xs.length (flat Sensor.enc xs)) ∧ Ext w w' := by
  obtain ⟨hhi, hlen, A, c, rfl, hnc, hcm, hcell⟩ := hv
  have HL := hid hlen; clear hlen
  unfold maxLen at hcm
  have hmk := run_made 32 40 _ 5 48 Try.underlying32 infoSensor xs.length (by omega) (by unfold maxLen; omega)
  go_enter Try.func33, Try.ntmps33
  go_wp2
  clear hmk
  go_loopw [4] (fun i wr => ∃ (k : Nat), k ≤ xs.length ∧ i = .int .i64 k ∧ Part wr w.heap.size 40 (xs.length * 5) (k * 5) (flat Sensor.enc xs) ∧ Ext w wr) (fun i _ => xs.length - (intOf i).toNat)
  case atStart => exact ⟨0, by omega, rfl, (Part.zeros _ _ _ _ _ _).to (by omega), Ext.new _ _⟩
  case round =>
    obtain ⟨k, hk, rfl, hP, hE⟩ := hrel
    by_cases hlt : k < xs.length
    · obtain ⟨b, off, rfl, hb1, hb2, hc⟩ := hcell (by omega)
      obtain ⟨c0, c1, c2, c3, c4⟩ := Sensor.cells hc k hlt
      have hcc := (bcell hE).1
      have hbw : b < w.heap.size := by omega
      go_wp2_with (go_at_call 19; refine (toSensor xs[k] _).mono ?_; rintro e w2 ⟨rfl, hE2⟩; have hB := hP.ext hE2; obtain ⟨u0, g0⟩ := hB.cell (k * 5) (by omega); obtain ⟨u1, g1⟩ := hB.cell (k * 5 + 1) (by omega); obtain ⟨u2, g2⟩ := hB.cell (k * 5 + 2) (by omega); obtain ⟨u3, g3⟩ := hB.cell (k * 5 + 3) (by omega); obtain ⟨u4, g4⟩ := hB.cell (k * 5 + 4) (by omega); have f0 := hB.frozen; clear hcc)
      have hE3 := Ext.tr hE hE2
      go_roundw
      case rel =>
        have e := fun j (hj : j < 5) => flat_get Sensor.len xs k hlt j hj
        exact ⟨k + 1, by omega, by go_num, ((((((hB.set_ (by omega) (e 0 (by omega))).set_ (by omega) (e 1 (by omega))).set_ (by omega) (e 2 (by omega))).set_ (by omega) (e 3 (by omega))).set_ (by omega) (e 4 (by omega))).to (by omega)), by go_tidy; go_grown⟩
      case measure => simp [intOf]; omega
    · obtain rfl : k = xs.length := by omega
      go_wp2
      go_ret
      exact ⟨⟨_, rfl, Own.of (hP.own (Nat.le_refl _) (by unfold maxLen; omega) HL.out) (by omega)⟩, hE⟩
theorem eqSensor (x : Sensor) (w : World) :
    Calls Try.prog 78 #[.agg #[.string x.id, .int .i64 x.junction, .int .i64 x.limit, .int .i64 x.delay, .int .i64 x.release], .agg #[.string x.id, .int .i64 x.junction, .int .i64 x.limit, .int .i64 x.delay, .int .i64 x.release]] w fun e w' => e = .returned (.bool true) ∧ Ext w w' := by
  go_enter Try.func78, Try.ntmps78
  go_wp2
  go_ret
  exact ⟨rfl, by go_tidy; go_grown⟩
set_option maxRecDepth 100000 in
theorem eqSensorS (xs : List Sensor) (lo hi lo' hi' : Nat) (v v' : Value) (w : World) (hv : Sl lo hi w 5 v xs.length (flat Sensor.enc xs)) (hv' : Sl lo' hi' w 5 v' xs.length (flat Sensor.enc xs)) (hn : xs.length ≤ 2097152) :
    Calls Try.prog 34 #[v, v'] w fun e w' => e = .returned (.bool true) ∧ Ext w w' := by
  obtain ⟨hhi, _, A, c, rfl, hnc, hcm, hcell⟩ := hv
  obtain ⟨hhi', _, A', c', rfl, hnc', hcm', hcell'⟩ := hv'
  go_enter Try.func34, Try.ntmps34
  go_wp2
  go_loopw [5] (fun i wr => ∃ (k : Nat), k ≤ xs.length ∧ i = .int .i64 k ∧ Ext w wr) (fun i _ => xs.length - (intOf i).toNat)
  case atStart => exact ⟨0, by omega, rfl, Below.refl _ _⟩
  case round =>
    obtain ⟨k, hk, rfl, hE⟩ := hrel
    by_cases hlt : k < xs.length
    · obtain ⟨b, off, rfl, hb1, hb2, hc⟩ := hcell (by omega)
      obtain ⟨b', off', rfl, hb1', hb2', hc'⟩ := hcell' (by omega)
      obtain ⟨c0, c1, c2, c3, c4⟩ := Sensor.cells hc k hlt
      obtain ⟨d0, d1, d2, d3, d4⟩ := Sensor.cells hc' k hlt
      have hcc := (bcell hE).1
      have hbw : b < w.heap.size := by omega
      have hbw' : b' < w.heap.size := by omega
      have hki : (k : Int) < xs.length := by omega
      go_wp2
      go_still_tail 8, (by kernel_rfl)
      change wpList _ _ _ _ _ wr.drew
      have hE1 : Ext w wr.drew := Ext.tr hE (Ext.drewN wr 1)
      go_wp2_with (go_at_call 78; refine (eqSensor xs[k] _).mono ?_; rintro e w2 ⟨rfl, hE2⟩)
      have hE3 := Ext.tr hE1 hE2
      go_roundw
      case rel => exact ⟨k + 1, by omega, by go_num, hE3⟩
      case measure => simp [intOf]; omega
    · go_wp2
      go_ret
      exact ⟨rfl, hE⟩
end Go.Proofs.Ytopjccbjdcoanaa
