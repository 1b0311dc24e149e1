/- Want: its cells; the contracts of the functions that measure, copy, compare, mark and hold a list of them. -/
import Derived.Test.YtojmfjdbggpllaaMark
import Derived.Deep.RegionHeld3
namespace Go.Proofs.Ytojmfjdbggpllaa
set_option linter.unusedVariables false
open Go.RowKit
structure Want where
  airway : Int
  least : Int
  most : Int
def Want.enc (x : Want) : List Value := [.int .i64 x.airway, .int .i64 x.least, .int .i64 x.most]
theorem Want.len (x : Want) : x.enc.length = 3 := rfl
theorem Want.cells {xs : List Want} {w : World} {b off : Nat} (hc : ∀ j u, (flat Want.enc xs)[j]? = some u → w.cell? ⟨b, off + j, none⟩ = some u) (i : Nat) (hi : i < xs.length) :
    w.cell? ⟨b, off + i * 3, none⟩ = some (.int .i64 xs[i].airway) ∧ w.cell? ⟨b, off + i * 3 + 1, none⟩ = some (.int .i64 xs[i].least) ∧ w.cell? ⟨b, off + i * 3 + 2, none⟩ = some (.int .i64 xs[i].most) :=
  ⟨cell_flat Want.len hc i hi 0 _ (by omega) rfl, cell_flat Want.len hc i hi 1 _ (by omega) rfl, cell_flat Want.len hc i hi 2 _ (by omega) rfl⟩
def Want.At (w : World) (b o : Nat) (x : Want) : Prop := w.cell? ⟨b, o, none⟩ = some (.int .i64 x.airway) ∧ w.cell? ⟨b, o + 1, none⟩ = some (.int .i64 x.least) ∧ w.cell? ⟨b, o + 2, none⟩ = some (.int .i64 x.most)
theorem Want.at_of {xs : List Want} {w W : World} {b off : Nat} (hc : ∀ j u, (flat Want.enc xs)[j]? = some u → w.cell? ⟨b, off + j, none⟩ = some u) (hW : Ext w W) (hb : b < w.heap.size) (i : Nat) (hi : i < xs.length) : Want.At W b (off + i * 3) xs[i] := by
  obtain ⟨c0, c1, c2⟩ := Want.cells hc i hi
  have hh := (bcell hW).1
  exact ⟨(hh _ _ hb).trans c0, (hh _ _ hb).trans c1, (hh _ _ hb).trans c2⟩
theorem szWantS (xs : List Want) (lo hi : Nat) (v : Value) (l : Int) (w : World) (hv : Sl lo hi w 3 v xs.length (flat Want.enc xs)) (hl : 0 ≤ l ∧ l ≤ 1048576) :
    Calls Try.prog 13 #[v, .int .i64 l] w fun e w' => (∃ r, e = .returned (.int .i64 r) ∧ (0 ≤ r → r ≤ 1048576 ∧ xs.length ≤ 1048576)) ∧ Ext w w' := by
  obtain ⟨hhi, _, A, c, rfl, hnc, hcm, hcell⟩ := hv
  obtain ⟨hl1, hl2⟩ := hl
  unfold maxLen at hcm
  by_cases h0 : l - xs.length < 0
  · go_enter Try.func13, Try.ntmps13
    go_wp2
    go_ret
    exact ⟨⟨-1, rfl, by omega⟩, by go_tidy; go_grown⟩
  · go_enter Try.func13, Try.ntmps13
    go_wp2
    go_ret
    exact ⟨⟨_, rfl, fun _ => by omega⟩, by go_tidy; go_grown⟩
theorem toWant (x : Want) (w : World) :
    Calls Try.prog 56 #[.agg #[.int .i64 x.airway, .int .i64 x.least, .int .i64 x.most]] w fun e w' => e = .returned (.agg #[.int .i64 x.airway, .int .i64 x.least, .int .i64 x.most]) ∧ Ext w w' := by
  go_enter Try.func56, Try.ntmps56
  go_wp2
  go_returns
  exact ⟨rfl, by go_tidy; go_grown⟩
theorem infoWant : (Try.prog.info? 83).map (fun i => (i.zero, i.size, i.bytes)) = some (some (.agg #[.int .i64 0, .int .i64 0, .int .i64 0]), 3, 24) := by kernel_rfl
theorem toWantS (xs : List Want) (lo hi : Nat) (v : Value) (w : World) (hv : Sl lo hi w 3 v xs.length (flat Want.enc xs)) (hn : xs.length ≤ 1048576) :
    Calls Try.prog 16 #[v] w fun e w' => (∃ v', e = .returned v' ∧ Own w.heap.size w'.heap.size w' 83 3 v' xs.length (flat Want.enc xs)) ∧ Ext w w' := by
  obtain ⟨hhi, hlen, A, c, rfl, hnc, hcm, hcell⟩ := hv
  have HL := hid hlen; clear hlen
  unfold maxLen at hcm
  have hmk := run_made 33 83 _ 3 24 Try.underlying33 infoWant xs.length (by omega) (by unfold maxLen; omega)
  go_enter Try.func16, Try.ntmps16
  go_wp2
  clear hmk
  go_loopw [4] (fun i wr => ∃ (k : Nat), k ≤ xs.length ∧ i = .int .i64 k ∧ Part wr w.heap.size 83 (xs.length * 3) (k * 3) (flat Want.enc xs) ∧ Ext w wr) (fun i _ => xs.length - (intOf i).toNat)
  case atStart => exact ⟨0, by omega, rfl, (Part.zeros _ _ _ _ _ _).to (by omega), Ext.new _ _⟩
  case round =>
    obtain ⟨k, hk, rfl, hP, hE⟩ := hrel
    by_cases hlt : k < xs.length
    · obtain ⟨b, off, rfl, hb1, hb2, hc⟩ := hcell (by omega)
      obtain ⟨c0, c1, c2⟩ := Want.cells hc k hlt
      have hcc := (bcell hE).1
      have hbw : b < w.heap.size := by omega
      go_wp2_with (go_at_call 56; refine (toWant xs[k] _).mono ?_; rintro e w2 ⟨rfl, hE2⟩; have hB := hP.ext hE2; obtain ⟨u0, g0⟩ := hB.cell (k * 3) (by omega); obtain ⟨u1, g1⟩ := hB.cell (k * 3 + 1) (by omega); obtain ⟨u2, g2⟩ := hB.cell (k * 3 + 2) (by omega); have f0 := hB.frozen; clear hcc)
      have hE3 := Ext.tr hE hE2
      go_roundw
      case rel =>
        have e := fun j (hj : j < 3) => flat_get Want.len xs k hlt j hj
        exact ⟨k + 1, by omega, by go_num, ((((hB.set_ (by omega) (e 0 (by omega))).set_ (by omega) (e 1 (by omega))).set_ (by omega) (e 2 (by omega))).to (by omega)), by go_tidy; go_grown⟩
      case measure => simp [intOf]; omega
    · obtain rfl : k = xs.length := by omega
      go_wp2
      go_ret
      exact ⟨⟨_, rfl, Own.of (hP.own (Nat.le_refl _) (by unfold maxLen; omega) HL.out) (by omega)⟩, hE⟩
theorem eqWant (x : Want) (w : World) :
    Calls Try.prog 63 #[.agg #[.int .i64 x.airway, .int .i64 x.least, .int .i64 x.most], .agg #[.int .i64 x.airway, .int .i64 x.least, .int .i64 x.most]] w fun e w' => e = .returned (.bool true) ∧ Ext w w' := by
  go_enter Try.func63, Try.ntmps63
  go_wp2
  go_ret
  exact ⟨rfl, by go_tidy; go_grown⟩
set_option maxRecDepth 100000 in
theorem eqWantS (xs : List Want) (lo hi lo' hi' : Nat) (v v' : Value) (w : World) (hv : Sl lo hi w 3 v xs.length (flat Want.enc xs)) (hv' : Sl lo' hi' w 3 v' xs.length (flat Want.enc xs)) (hn : xs.length ≤ 2097152) :
    Calls Try.prog 19 #[v, v'] w fun e w' => e = .returned (.bool true) ∧ Ext w w' := by
  obtain ⟨hhi, _, A, c, rfl, hnc, hcm, hcell⟩ := hv
  obtain ⟨hhi', _, A', c', rfl, hnc', hcm', hcell'⟩ := hv'
  go_enter Try.func19, Try.ntmps19
  go_wp2
  go_loopw [5] (fun i wr => ∃ (k : Nat), k ≤ xs.length ∧ i = .int .i64 k ∧ Ext w wr) (fun i _ => xs.length - (intOf i).toNat)
  case atStart => exact ⟨0, by omega, rfl, Below.refl _ _⟩
  case round =>
    obtain ⟨k, hk, rfl, hE⟩ := hrel
    by_cases hlt : k < xs.length
    · obtain ⟨b, off, rfl, hb1, hb2, hc⟩ := hcell (by omega)
      obtain ⟨b', off', rfl, hb1', hb2', hc'⟩ := hcell' (by omega)
      obtain ⟨c0, c1, c2⟩ := Want.cells hc k hlt
      obtain ⟨d0, d1, d2⟩ := Want.cells hc' k hlt
      have hcc := (bcell hE).1
      have hbw : b < w.heap.size := by omega
      have hbw' : b' < w.heap.size := by omega
      have hki : (k : Int) < xs.length := by omega
      go_wp2
      go_still_tail 8, (by kernel_rfl)
      change wpList _ _ _ _ _ wr.drew
      have hE1 : Ext w wr.drew := Ext.tr hE (Ext.drewN wr 1)
      go_wp2_with (go_at_call 63; refine (eqWant xs[k] _).mono ?_; rintro e w2 ⟨rfl, hE2⟩)
      have hE3 := Ext.tr hE1 hE2
      go_roundw
      case rel => exact ⟨k + 1, by omega, by go_num, hE3⟩
      case measure => simp [intOf]; omega
    · go_wp2
      go_ret
      exact ⟨rfl, hE⟩
end Go.Proofs.Ytojmfjdbggpllaa
