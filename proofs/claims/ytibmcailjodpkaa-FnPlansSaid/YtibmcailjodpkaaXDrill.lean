/- Drill: its cells; the contracts of the functions that measure, copy, compare, mark and hold a list of them. -/
import Derived.Test.YtibmcailjodpkaaMark
import Derived.Deep.RegionHeld3
namespace Go.Proofs.Ytibmcailjodpkaa
set_option linter.unusedVariables false
open Go.RowKit
structure Drill where
  day : Int
  crew : ByteArray
  persons : Int
  seconds : Int
  missing : Int
def Drill.enc (x : Drill) : List Value := [.int .i64 x.day, .string x.crew, .int .i64 x.persons, .int .i64 x.seconds, .int .i64 x.missing]
theorem Drill.len (x : Drill) : x.enc.length = 5 := rfl
theorem Drill.cells {xs : List Drill} {w : World} {b off : Nat} (hc : ∀ j u, (flat Drill.enc xs)[j]? = some u → w.cell? ⟨b, off + j, none⟩ = some u) (i : Nat) (hi : i < xs.length) :
    w.cell? ⟨b, off + i * 5, none⟩ = some (.int .i64 xs[i].day) ∧ w.cell? ⟨b, off + i * 5 + 1, none⟩ = some (.string xs[i].crew) ∧ w.cell? ⟨b, off + i * 5 + 2, none⟩ = some (.int .i64 xs[i].persons) ∧ w.cell? ⟨b, off + i * 5 + 3, none⟩ = some (.int .i64 xs[i].seconds) ∧ w.cell? ⟨b, off + i * 5 + 4, none⟩ = some (.int .i64 xs[i].missing) :=
  ⟨cell_flat Drill.len hc i hi 0 _ (by omega) rfl, cell_flat Drill.len hc i hi 1 _ (by omega) rfl, cell_flat Drill.len hc i hi 2 _ (by omega) rfl, cell_flat Drill.len hc i hi 3 _ (by omega) rfl, cell_flat Drill.len hc i hi 4 _ (by omega) rfl⟩
def Drill.At (w : World) (b o : Nat) (x : Drill) : Prop := w.cell? ⟨b, o, none⟩ = some (.int .i64 x.day) ∧ w.cell? ⟨b, o + 1, none⟩ = some (.string x.crew) ∧ w.cell? ⟨b, o + 2, none⟩ = some (.int .i64 x.persons) ∧ w.cell? ⟨b, o + 3, none⟩ = some (.int .i64 x.seconds) ∧ w.cell? ⟨b, o + 4, none⟩ = some (.int .i64 x.missing)
theorem Drill.at_of {xs : List Drill} {w W : World} {b off : Nat} (hc : ∀ j u, (flat Drill.enc xs)[j]? = some u → w.cell? ⟨b, off + j, none⟩ = some u) (hW : Ext w W) (hb : b < w.heap.size) (i : Nat) (hi : i < xs.length) : Drill.At W b (off + i * 5) xs[i] := by
  obtain ⟨c0, c1, c2, c3, c4⟩ := Drill.cells hc i hi
  have hh := (bcell hW).1
  exact ⟨(hh _ _ hb).trans c0, (hh _ _ hb).trans c1, (hh _ _ hb).trans c2, (hh _ _ hb).trans c3, (hh _ _ hb).trans c4⟩
theorem szDrill (x : Drill) (l : Int) (w : World) (hs : x.crew.size ≤ maxLen) (hl : 0 ≤ l ∧ l ≤ 1048576) :
    Calls Try.prog 35 #[.agg #[.int .i64 x.day, .string x.crew, .int .i64 x.persons, .int .i64 x.seconds, .int .i64 x.missing], .int .i64 l] w fun e w' => e = .returned (.int .i64 (szF l x.crew.size)) ∧ Ext w w' := by
  obtain ⟨hl1, hl2⟩ := hl
  unfold maxLen at hs
  go_enter Try.func35, Try.ntmps35
  go_wp2
  all_goals (go_ret; refine ⟨ret_int ?_, by go_tidy; go_grown⟩; go_tidy; unfold szF; split <;> omega)
theorem szDrillS (xs : List Drill) (lo hi : Nat) (v : Value) (l : Int) (w : World) (hv : Sl lo hi w 5 v xs.length (flat Drill.enc xs)) (hs : ∀ x ∈ xs, x.crew.size ≤ maxLen) (hl : 0 ≤ l ∧ l ≤ 1048576) :
    Calls Try.prog 11 #[v, .int .i64 l] w fun e w' => (∃ r, e = .returned (.int .i64 r) ∧ (0 ≤ r → r ≤ 1048576 ∧ xs.length ≤ 1048576 ∧ ∀ x ∈ xs, x.crew.size ≤ 1048576)) ∧ Ext w w' := by
  obtain ⟨hhi, _, A, c, rfl, hnc, hcm, hcell⟩ := hv
  obtain ⟨hl1, hl2⟩ := hl
  unfold maxLen at hcm
  by_cases h0 : l - xs.length < 0
  · go_enter Try.func11, Try.ntmps11
    go_wp2
    go_ret
    exact ⟨⟨-1, rfl, by omega⟩, by go_tidy; go_grown⟩
  · go_enter Try.func11, Try.ntmps11
    go_wp2
    go_loopw [1, 5] (fun l' i wr => ∃ (k : Nat) (m : Int), k ≤ xs.length ∧ i = .int .i64 k ∧ l' = .int .i64 m ∧ (0 ≤ m ∧ m ≤ 1048576) ∧ Hid (∀ j (h : j < xs.length), j < k → (xs[j]).crew.size ≤ 1048576) ∧ Ext w wr) (fun _ i _ => xs.length - (intOf i).toNat)
    case atStart => exact ⟨0, _, by omega, rfl, rfl, by omega, hid (fun j h hj => by omega), Below.refl _ _⟩
    case round =>
      obtain ⟨k, m, hk, rfl, rfl, ⟨hm0, hm1⟩, hall, hE⟩ := hrel
      by_cases hlt : k < xs.length
      · obtain ⟨b, off, rfl, hb1, hb2, hc⟩ := hcell (by omega)
        obtain ⟨c0, c1, c2, c3, c4⟩ := Drill.cells hc k hlt
        have hcc := (bcell hE).1
        have hbw : b < w.heap.size := by omega
        have hsk : (xs[k]).crew.size ≤ maxLen := hs _ (List.getElem_mem hlt)
        by_cases hz : szF m (xs[k]).crew.size < 0
        · go_wp2_with (go_at_call 35; refine (szDrill xs[k] _ _ hsk ⟨hm0, hm1⟩).mono ?_; rintro e w2 ⟨rfl, hE2⟩)
          go_ret
          exact ⟨⟨-1, rfl, by omega⟩, Ext.tr hE hE2⟩
        · have hz1 := szF_bd m (xs[k]).crew.size (by omega)
          go_wp2_with (go_at_call 35; refine (szDrill xs[k] _ _ hsk ⟨hm0, hm1⟩).mono ?_; rintro e w2 ⟨rfl, hE2⟩)
          go_roundw
          case rel => exact ⟨k + 1, _, by omega, by go_num, rfl, by omega, hid (fun j h hj => by rcases Nat.lt_succ_iff_lt_or_eq.1 hj with h1 | rfl; exact hall.out j h h1; omega), Ext.tr hE hE2⟩
          case measure => simp [intOf]; omega
      · go_wp2
        go_ret
        refine ⟨⟨m, rfl, fun _ => ⟨hm1, by omega, fun x hx => ?_⟩⟩, hE⟩
        obtain ⟨j, hj, rfl⟩ := List.getElem_of_mem hx
        exact hall.out j hj (by omega)
theorem toDrill (x : Drill) (w : World) :
    Calls Try.prog 37 #[.agg #[.int .i64 x.day, .string x.crew, .int .i64 x.persons, .int .i64 x.seconds, .int .i64 x.missing]] w fun e w' => e = .returned (.agg #[.int .i64 x.day, .string x.crew, .int .i64 x.persons, .int .i64 x.seconds, .int .i64 x.missing]) ∧ Ext w w' := by
  go_enter Try.func37, Try.ntmps37
  go_wp2
  go_returns
  exact ⟨rfl, by go_tidy; go_grown⟩
theorem infoDrill : (Try.prog.info? 52).map (fun i => (i.zero, i.size, i.bytes)) = some (some (.agg #[.int .i64 0, .string ⟨#[]⟩, .int .i64 0, .int .i64 0, .int .i64 0]), 5, 48) := by kernel_rfl
theorem toDrillS (xs : List Drill) (lo hi : Nat) (v : Value) (w : World) (hv : Sl lo hi w 5 v xs.length (flat Drill.enc xs)) (hn : xs.length ≤ 1048576) :
    Calls Try.prog 13 #[v] w fun e w' => (∃ v', e = .returned v' ∧ Own w.heap.size w'.heap.size w' 52 5 v' xs.length (flat Drill.enc xs)) ∧ Ext w w' := by
  obtain ⟨hhi, hlen, A, c, rfl, hnc, hcm, hcell⟩ := hv
  have HL := hid hlen; clear hlen
  unfold maxLen at hcm
  have hmk := run_made 25 52 _ 5 48 Try.underlying25 infoDrill xs.length (by omega) (by unfold maxLen; omega)
  go_enter Try.func13, Try.ntmps13
  go_wp2
  clear hmk
  go_loopw [4] (fun i wr => ∃ (k : Nat), k ≤ xs.length ∧ i = .int .i64 k ∧ Part wr w.heap.size 52 (xs.length * 5) (k * 5) (flat Drill.enc xs) ∧ Ext w wr) (fun i _ => xs.length - (intOf i).toNat)
  case atStart => exact ⟨0, by omega, rfl, (Part.zeros _ _ _ _ _ _).to (by omega), Ext.new _ _⟩
  case round =>
    obtain ⟨k, hk, rfl, hP, hE⟩ := hrel
    by_cases hlt : k < xs.length
    · obtain ⟨b, off, rfl, hb1, hb2, hc⟩ := hcell (by omega)
      obtain ⟨c0, c1, c2, c3, c4⟩ := Drill.cells hc k hlt
      have hcc := (bcell hE).1
      have hbw : b < w.heap.size := by omega
      go_wp2_with (go_at_call 37; refine (toDrill xs[k] _).mono ?_; rintro e w2 ⟨rfl, hE2⟩; have hB := hP.ext hE2; obtain ⟨u0, g0⟩ := hB.cell (k * 5) (by omega); obtain ⟨u1, g1⟩ := hB.cell (k * 5 + 1) (by omega); obtain ⟨u2, g2⟩ := hB.cell (k * 5 + 2) (by omega); obtain ⟨u3, g3⟩ := hB.cell (k * 5 + 3) (by omega); obtain ⟨u4, g4⟩ := hB.cell (k * 5 + 4) (by omega); have f0 := hB.frozen; clear hcc)
      have hE3 := Ext.tr hE hE2
      go_roundw
      case rel =>
        have e := fun j (hj : j < 5) => flat_get Drill.len xs k hlt j hj
        exact ⟨k + 1, by omega, by go_num, ((((((hB.set_ (by omega) (e 0 (by omega))).set_ (by omega) (e 1 (by omega))).set_ (by omega) (e 2 (by omega))).set_ (by omega) (e 3 (by omega))).set_ (by omega) (e 4 (by omega))).to (by omega)), by go_tidy; go_grown⟩
      case measure => simp [intOf]; omega
    · obtain rfl : k = xs.length := by omega
      go_wp2
      go_ret
      exact ⟨⟨_, rfl, Own.of (hP.own (Nat.le_refl _) (by unfold maxLen; omega) HL.out) (by omega)⟩, hE⟩
theorem eqDrill (x : Drill) (w : World) :
    Calls Try.prog 46 #[.agg #[.int .i64 x.day, .string x.crew, .int .i64 x.persons, .int .i64 x.seconds, .int .i64 x.missing], .agg #[.int .i64 x.day, .string x.crew, .int .i64 x.persons, .int .i64 x.seconds, .int .i64 x.missing]] w fun e w' => e = .returned (.bool true) ∧ Ext w w' := by
  go_enter Try.func46, Try.ntmps46
  go_wp2
  go_ret
  exact ⟨rfl, by go_tidy; go_grown⟩
set_option maxRecDepth 100000 in
theorem eqDrillS (xs : List Drill) (lo hi lo' hi' : Nat) (v v' : Value) (w : World) (hv : Sl lo hi w 5 v xs.length (flat Drill.enc xs)) (hv' : Sl lo' hi' w 5 v' xs.length (flat Drill.enc xs)) (hn : xs.length ≤ 2097152) :
    Calls Try.prog 15 #[v, v'] w fun e w' => e = .returned (.bool true) ∧ Ext w w' := by
  obtain ⟨hhi, _, A, c, rfl, hnc, hcm, hcell⟩ := hv
  obtain ⟨hhi', _, A', c', rfl, hnc', hcm', hcell'⟩ := hv'
  go_enter Try.func15, Try.ntmps15
  go_wp2
  go_loopw [5] (fun i wr => ∃ (k : Nat), k ≤ xs.length ∧ i = .int .i64 k ∧ Ext w wr) (fun i _ => xs.length - (intOf i).toNat)
  case atStart => exact ⟨0, by omega, rfl, Below.refl _ _⟩
  case round =>
    obtain ⟨k, hk, rfl, hE⟩ := hrel
    by_cases hlt : k < xs.length
    · obtain ⟨b, off, rfl, hb1, hb2, hc⟩ := hcell (by omega)
      obtain ⟨b', off', rfl, hb1', hb2', hc'⟩ := hcell' (by omega)
      obtain ⟨c0, c1, c2, c3, c4⟩ := Drill.cells hc k hlt
      obtain ⟨d0, d1, d2, d3, d4⟩ := Drill.cells hc' k hlt
      have hcc := (bcell hE).1
      have hbw : b < w.heap.size := by omega
      have hbw' : b' < w.heap.size := by omega
      have hki : (k : Int) < xs.length := by omega
      go_wp2
      go_still_tail 8, (by kernel_rfl)
      change wpList _ _ _ _ _ wr.drew
      have hE1 : Ext w wr.drew := Ext.tr hE (Ext.drewN wr 1)
      go_wp2_with (go_at_call 46; refine (eqDrill xs[k] _).mono ?_; rintro e w2 ⟨rfl, hE2⟩)
      have hE3 := Ext.tr hE1 hE2
      go_roundw
      case rel => exact ⟨k + 1, by omega, by go_num, hE3⟩
      case measure => simp [intOf]; omega
    · go_wp2
      go_ret
      exact ⟨rfl, hE⟩
def markDrill (k : Int) : List Value := [.int .i64 (k), .string (markS (k + 1).toNat), .int .i64 (k + 2), .int .i64 (k + 3), .int .i64 (k + 4)]
def markDrills (k : Int) (n : Nat) : List Value := flat (fun i : Nat => markDrill (k + 5 * i)) (List.range n)
theorem markDrills_get (k : Int) (n i : Nat) (hi : i < n) (j : Nat) (hj : j < 5) (q : Int) (hq : q = k + 5 * i) : (markDrills k n)[i * 5 + j]? = (markDrill q)[j]? := by
  have := flat_get (enc := fun i : Nat => markDrill (k + 5 * i)) (K := 5) (fun _ => rfl) (List.range n) i (by simpa using hi) j hj
  rw [List.getElem_range] at this
  rw [hq]; exact this
theorem markDrills_len (k : Int) (n : Nat) : (markDrills k n).length = n * 5 := by
  have := flat_length (enc := fun i : Nat => markDrill (k + 5 * i)) (K := 5) (fun _ => rfl) (List.range n)
  rw [List.length_range] at this
  exact this
set_option maxRecDepth 100000 in
theorem markDrillS (k0 : Int) (n lo hi : Nat) (v : Value) (xs : List Value) (w : World) (hv : Own lo hi w 52 5 v n xs) (h0 : 0 < k0) (hk : k0 + 5 * n ≤ 1099511627776) :
    Calls Try.prog 23 #[v, .int .i64 k0] w fun e w' => e = .returned (.int .i64 (k0 + 5 * n)) ∧ Own lo hi w' 52 5 v n (markDrills k0 n) ∧ KeepI lo hi w w' := by
  obtain ⟨hhw, hn2, hl, ⟨rfl, rfl⟩ | ⟨g, c, cs, rfl, hlo, hhi, hnc, hcm, hB, hcs, hxs⟩⟩ := hv
  · go_enter Try.func23, Try.ntmps23
    go_wp2
    go_loopw [1, 5] (fun kk i wr => kk = .int .i64 k0 ∧ i = .int .i64 0 ∧ wr = w) (fun _ _ _ => 0)
    case atStart => exact ⟨rfl, rfl, rfl⟩
    case round =>
      obtain ⟨rfl, rfl, rfl⟩ := hrel
      go_wp2
      go_ret
      exact ⟨ret_int (by omega), ⟨hhw, by omega, by simp [markDrills, flat], .inl ⟨rfl, rfl⟩⟩, KeepI.refl _ _ _⟩
  have hmg : n * 5 ≤ cs.size := by rw [hcs]; exact Nat.mul_le_mul_right _ hnc
  have hP0 : Part w g 52 cs.size 0 (markDrills k0 n) := ⟨cs, hB, rfl, fun j hj => absurd hj (by omega)⟩
  have HC := hid hcs
  clear hcs hB hxs
  generalize cs.size = N at *
  clear cs
  go_enter Try.func23, Try.ntmps23
  go_wp2
  go_loopw [1, 5] (fun kk i wr => ∃ (k : Nat) (q : Int), k ≤ n ∧ i = .int .i64 k ∧ kk = .int .i64 q ∧ Hid (q = k0 + 5 * k) ∧ Part wr g 52 N (k * 5) (markDrills k0 n) ∧ KeepI lo hi w wr) (fun _ i _ => n - (intOf i).toNat)
  case atStart => exact ⟨0, k0, by omega, rfl, rfl, hid (by simp), hP0.to (by omega), KeepI.refl _ _ _⟩
  case round =>
    obtain ⟨i, q, hi, rfl, rfl, hq, hP, hK⟩ := hrel
    have hq1 : 0 < q ∧ q ≤ 1099511627776 := by have := hq.out; omega
    obtain ⟨hq1, hq2⟩ := hq1
    by_cases hlt : i < n
    · have hq3 : q + 5 ≤ 1099511627776 := by have := hq.out; omega
      have hNb : i * 5 + 5 ≤ N := by omega
      have eeF : ∀ j (_ : j < 5), (markDrills k0 n)[i * 5 + j]? = (markDrill q)[j]? := fun j hj => markDrills_get k0 n i hlt j hj q hq.out
      have ee0 := hid (eeF _ (show 0 < 5 by omega))
      have ee1 := hid (eeF _ (show 1 < 5 by omega))
      have ee2 := hid (eeF _ (show 2 < 5 by omega))
      have ee3 := hid (eeF _ (show 3 < 5 by omega))
      have ee4 := hid (eeF _ (show 4 < 5 by omega))
      clear eeF
      obtain ⟨u0_0, g0_0⟩ := hP.cell (i * 5) (by omega)
      obtain ⟨u0_1, g0_1⟩ := hP.cell (i * 5 + 1) (by omega)
      obtain ⟨u0_2, g0_2⟩ := hP.cell (i * 5 + 2) (by omega)
      obtain ⟨u0_3, g0_3⟩ := hP.cell (i * 5 + 3) (by omega)
      obtain ⟨u0_4, g0_4⟩ := hP.cell (i * 5 + 4) (by omega)
      have f0 := hP.frozen
      go_wp2_with fail
      refine (markText _ _ (by omega) (by omega)).mono ?_
      rintro e w1 ⟨rfl, hE1⟩
      have hP1 := (hP.set_ (by omega) ((ee0).out.trans (by first | rfl | (simp only [markDrill, List.getElem?_cons_succ, List.getElem?_cons_zero]; congr 2; omega)))).ext hE1
      have hK1 := (hK.set_ (m := i * 5) hlo hhi _).trE hE1
      clear g0_0 g0_1 g0_2 g0_3 g0_4 f0
      obtain ⟨u1_1, g1_1⟩ := hP1.cell (i * 5 + 1) (by omega)
      obtain ⟨u1_2, g1_2⟩ := hP1.cell (i * 5 + 2) (by omega)
      obtain ⟨u1_3, g1_3⟩ := hP1.cell (i * 5 + 3) (by omega)
      obtain ⟨u1_4, g1_4⟩ := hP1.cell (i * 5 + 4) (by omega)
      have f1 := hP1.frozen
      go_wp2
      go_roundw
      case rel => exact ⟨i + 1, _, by omega, by go_num, rfl, hid (by have := hq.out; omega), (((((hP1.set_ (by omega) ((ee1).out.trans (by first | rfl | (simp only [markDrill, List.getElem?_cons_succ, List.getElem?_cons_zero]; congr 2; omega)))).set_ (by omega) ((ee2).out.trans (by first | rfl | (simp only [markDrill, List.getElem?_cons_succ, List.getElem?_cons_zero]; congr 2; omega)))).set_ (by omega) ((ee3).out.trans (by first | rfl | (simp only [markDrill, List.getElem?_cons_succ, List.getElem?_cons_zero]; congr 2; omega)))).set_ (by omega) ((ee4).out.trans (by first | rfl | (simp only [markDrill, List.getElem?_cons_succ, List.getElem?_cons_zero]; congr 2; omega)))).to (by omega)), ((((hK1.set_ (m := i * 5 + 1) hlo hhi _).set_ (m := i * 5 + 2) hlo hhi _).set_ (m := i * 5 + 3) hlo hhi _).set_ (m := i * 5 + 4) hlo hhi _)⟩
      case measure => simp [intOf]; omega
    · obtain rfl : i = n := by omega
      go_wp2
      go_ret
      refine ⟨ret_int hq.out, ?_, hK⟩
      obtain ⟨cs, hB, hc1, hc2⟩ := hP
      refine ⟨Nat.le_trans hhw hK.size, hn2, markDrills_len _ _, .inr ⟨g, c, cs, rfl, hlo, hhi, hnc, hcm, hB, by rw [hc1]; exact HC.out, ?_⟩⟩
      apply List.ext_getElem?
      intro j
      rw [List.getElem?_take]
      split
      · rename_i hj; rw [← hc2 j hj]; simp
      · rename_i hj; rw [List.getElem?_eq_none (by rw [markDrills_len]; omega)]
set_option maxRecDepth 100000 in
theorem heldDrillS (k0 : Int) (n lo hi : Nat) (v : Value) (w : World) (hv : Sl lo hi w 5 v n (markDrills k0 n)) (hn2 : n ≤ 2097152) (h0 : 0 < k0) (hk : k0 + 5 * n ≤ 1099511627776) :
    Calls Try.prog 39 #[v, .int .i64 k0] w fun e w' => e = .returned (.int .i64 (k0 + 5 * n)) ∧ Ext w w' := by
  obtain ⟨hhi, _, A, c, rfl, hnc, hcm, hcell⟩ := hv
  go_enter Try.func39, Try.ntmps39
  go_wp2
  go_loopw [1, 5] (fun kk i wr => ∃ (k : Nat) (q : Int), k ≤ n ∧ i = .int .i64 k ∧ kk = .int .i64 q ∧ Hid (q = k0 + 5 * k) ∧ Ext w wr) (fun _ i _ => n - (intOf i).toNat)
  case atStart => exact ⟨0, k0, by omega, rfl, rfl, hid (by simp), Below.refl _ _⟩
  case round =>
    obtain ⟨i, q, hi, rfl, rfl, hq, hE⟩ := hrel
    have hq1 : 0 < q ∧ q ≤ 1099511627776 := by have := hq.out; omega
    obtain ⟨hq1, hq2⟩ := hq1
    by_cases hlt : i < n
    · have hq3 : q + 5 ≤ 1099511627776 := by have := hq.out; omega
      obtain ⟨b, off, rfl, hb1, hb2, hc⟩ := hcell (by omega)
      have hbw : b < w.heap.size := by omega
      have ee : ∀ j (_ : j < 5), (markDrills k0 n)[i * 5 + j]? = (markDrill q)[j]? := fun j hj => markDrills_get k0 n i hlt j hj q hq.out
      have c0 : w.cell? ⟨b, off + i * 5, none⟩ = some (.int .i64 (q)) := hc (i * 5 + 0) _ (ee 0 (by omega))
      have c1 : w.cell? ⟨b, off + i * 5 + 1, none⟩ = some (.string (markS (q + 1).toNat)) := hc (i * 5 + 1) _ (ee 1 (by omega))
      have c2 : w.cell? ⟨b, off + i * 5 + 2, none⟩ = some (.int .i64 (q + 2)) := hc (i * 5 + 2) _ (ee 2 (by omega))
      have c3 : w.cell? ⟨b, off + i * 5 + 3, none⟩ = some (.int .i64 (q + 3)) := hc (i * 5 + 3) _ (ee 3 (by omega))
      have c4 : w.cell? ⟨b, off + i * 5 + 4, none⟩ = some (.int .i64 (q + 4)) := hc (i * 5 + 4) _ (ee 4 (by omega))
      clear hc ee
      obtain ⟨hcc, _⟩ := bcell hE
      have ha1 : ∀ W, Ext w W → W.cell? ⟨b, off + i * 5 + 1, none⟩ = some (.string (markS (q + 1).toNat)) := fun W hW => (hW.cell (p := ⟨b, _, none⟩) hbw).trans c1
      clear c1
      go_wp2
      clear hcc
      go_region_held3 (fun W => Ext w W) (first | assumption | exact Ext.tr hE (Ext.drewN _ 1) | exact Ext.tr (by assumption) hE2) (first | (go_at_call 52; refine (markText _ _ (by omega) (by omega)).mono ?_; rintro e w3 ⟨rfl, hE2⟩))
      have hEn1 : Ext w w3 := by assumption
      clear hE2 ha1
      replace hE := hEn1
      clear hEn1
      obtain ⟨hcc, _⟩ := bcell hE
      go_wp2
      go_roundw
      case rel => exact ⟨i + 1, _, by omega, by go_num, rfl, hid (by have := hq.out; omega), hE⟩
      case measure => simp [intOf]; omega
    · obtain rfl : i = n := by omega
      go_wp2
      go_ret
      exact ⟨ret_int hq.out, hE⟩
end Go.Proofs.Ytibmcailjodpkaa
