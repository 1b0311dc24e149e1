/- Check: its cells; the contracts of the functions that measure, copy, compare, mark and hold a list of them. -/
import Derived.Test.YtcocdigcmcpefaaMark
import Derived.Deep.RegionHeld3
namespace Go.Proofs.Ytcocdigcmcpefaa
set_option linter.unusedVariables false
open Go.RowKit
structure Check where
  id : ByteArray
  every : Int
  last : Int
def Check.enc (x : Check) : List Value := [.string x.id, .int .i64 x.every, .int .i64 x.last]
theorem Check.len (x : Check) : x.enc.length = 3 := rfl
theorem Check.cells {xs : List Check} {w : World} {b off : Nat} (hc : ∀ j u, (flat Check.enc xs)[j]? = some u → w.cell? ⟨b, off + j, none⟩ = some u) (i : Nat) (hi : i < xs.length) :
    w.cell? ⟨b, off + i * 3, none⟩ = some (.string xs[i].id) ∧ w.cell? ⟨b, off + i * 3 + 1, none⟩ = some (.int .i64 xs[i].every) ∧ w.cell? ⟨b, off + i * 3 + 2, none⟩ = some (.int .i64 xs[i].last) :=
  ⟨cell_flat Check.len hc i hi 0 _ (by omega) rfl, cell_flat Check.len hc i hi 1 _ (by omega) rfl, cell_flat Check.len hc i hi 2 _ (by omega) rfl⟩
def Check.At (w : World) (b o : Nat) (x : Check) : Prop := w.cell? ⟨b, o, none⟩ = some (.string x.id) ∧ w.cell? ⟨b, o + 1, none⟩ = some (.int .i64 x.every) ∧ w.cell? ⟨b, o + 2, none⟩ = some (.int .i64 x.last)
theorem Check.at_of {xs : List Check} {w W : World} {b off : Nat} (hc : ∀ j u, (flat Check.enc xs)[j]? = some u → w.cell? ⟨b, off + j, none⟩ = some u) (hW : Ext w W) (hb : b < w.heap.size) (i : Nat) (hi : i < xs.length) : Check.At W b (off + i * 3) xs[i] := by
  obtain ⟨c0, c1, c2⟩ := Check.cells hc i hi
  have hh := (bcell hW).1
  exact ⟨(hh _ _ hb).trans c0, (hh _ _ hb).trans c1, (hh _ _ hb).trans c2⟩
theorem szCheck (x : Check) (l : Int) (w : World) (hs : x.id.size ≤ maxLen) (hl : 0 ≤ l ∧ l ≤ 1048576) :
    Calls Try.prog 30 #[.agg #[.string x.id, .int .i64 x.every, .int .i64 x.last], .int .i64 l] w fun e w' => e = .returned (.int .i64 (szF l x.id.size)) ∧ Ext w w' := by
  obtain ⟨hl1, hl2⟩ := hl
  unfold maxLen at hs
  go_enter Try.func30, Try.ntmps30
  go_wp2
  all_goals (go_ret; refine ⟨ret_int ?_, by go_tidy; go_grown⟩; go_tidy; unfold szF; split <;> omega)
theorem szCheckS (xs : List Check) (lo hi : Nat) (v : Value) (l : Int) (w : World) (hv : Sl lo hi w 3 v xs.length (flat Check.enc xs)) (hs : ∀ x ∈ xs, x.id.size ≤ maxLen) (hl : 0 ≤ l ∧ l ≤ 1048576) :
    Calls Try.prog 9 #[v, .int .i64 l] w fun e w' => (∃ r, e = .returned (.int .i64 r) ∧ (0 ≤ r → r ≤ 1048576 ∧ xs.length ≤ 1048576 ∧ ∀ x ∈ xs, x.id.size ≤ 1048576)) ∧ Ext w w' := by
  obtain ⟨hhi, _, A, c, rfl, hnc, hcm, hcell⟩ := hv
  obtain ⟨hl1, hl2⟩ := hl
  unfold maxLen at hcm
  by_cases h0 : l - xs.length < 0
  · go_enter Try.func9, Try.ntmps9
    go_wp2
    go_ret
    exact ⟨⟨-1, rfl, by omega⟩, by go_tidy; go_grown⟩
  · go_enter Try.func9, Try.ntmps9
    go_wp2
    go_loopw [1, 5] (fun l' i wr => ∃ (k : Nat) (m : Int), k ≤ xs.length ∧ i = .int .i64 k ∧ l' = .int .i64 m ∧ (0 ≤ m ∧ m ≤ 1048576) ∧ Hid (∀ j (h : j < xs.length), j < k → (xs[j]).id.size ≤ 1048576) ∧ Ext w wr) (fun _ i _ => xs.length - (intOf i).toNat)
    case atStart => exact ⟨0, _, by omega, rfl, rfl, by omega, hid (fun j h hj => by omega), Below.refl _ _⟩
    case round =>
      obtain ⟨k, m, hk, rfl, rfl, ⟨hm0, hm1⟩, hall, hE⟩ := hrel
      by_cases hlt : k < xs.length
      · obtain ⟨b, off, rfl, hb1, hb2, hc⟩ := hcell (by omega)
        obtain ⟨c0, c1, c2⟩ := Check.cells hc k hlt
        have hcc := (bcell hE).1
        have hbw : b < w.heap.size := by omega
        have hsk : (xs[k]).id.size ≤ maxLen := hs _ (List.getElem_mem hlt)
        by_cases hz : szF m (xs[k]).id.size < 0
        · go_wp2_with (go_at_call 30; refine (szCheck xs[k] _ _ hsk ⟨hm0, hm1⟩).mono ?_; rintro e w2 ⟨rfl, hE2⟩)
          go_ret
          exact ⟨⟨-1, rfl, by omega⟩, Ext.tr hE hE2⟩
        · have hz1 := szF_bd m (xs[k]).id.size (by omega)
          go_wp2_with (go_at_call 30; refine (szCheck xs[k] _ _ hsk ⟨hm0, hm1⟩).mono ?_; rintro e w2 ⟨rfl, hE2⟩)
          go_roundw
          case rel => exact ⟨k + 1, _, by omega, by go_num, rfl, by omega, hid (fun j h hj => by rcases Nat.lt_succ_iff_lt_or_eq.1 hj with h1 | rfl; exact hall.out j h h1; omega), Ext.tr hE hE2⟩
          case measure => simp [intOf]; omega
      · go_wp2
        go_ret
        refine ⟨⟨m, rfl, fun _ => ⟨hm1, by omega, fun x hx => ?_⟩⟩, hE⟩
        obtain ⟨j, hj, rfl⟩ := List.getElem_of_mem hx
        exact hall.out j hj (by omega)
theorem toCheck (x : Check) (w : World) :
    Calls Try.prog 32 #[.agg #[.string x.id, .int .i64 x.every, .int .i64 x.last]] w fun e w' => e = .returned (.agg #[.string x.id, .int .i64 x.every, .int .i64 x.last]) ∧ Ext w w' := by
  go_enter Try.func32, Try.ntmps32
  go_wp2
  go_returns
  exact ⟨rfl, by go_tidy; go_grown⟩
theorem infoCheck : (Try.prog.info? 50).map (fun i => (i.zero, i.size, i.bytes)) = some (some (.agg #[.string ⟨#[]⟩, .int .i64 0, .int .i64 0]), 3, 32) := by kernel_rfl
theorem toCheckS (xs : List Check) (lo hi : Nat) (v : Value) (w : World) (hv : Sl lo hi w 3 v xs.length (flat Check.enc xs)) (hn : xs.length ≤ 1048576) :
    Calls Try.prog 11 #[v] w fun e w' => (∃ v', e = .returned v' ∧ Own w.heap.size w'.heap.size w' 50 3 v' xs.length (flat Check.enc xs)) ∧ Ext w w' := by
  obtain ⟨hhi, hlen, A, c, rfl, hnc, hcm, hcell⟩ := hv
  have HL := hid hlen; clear hlen
  unfold maxLen at hcm
  have hmk := run_made 25 50 _ 3 32 Try.underlying25 infoCheck xs.length (by omega) (by unfold maxLen; omega)
  go_enter Try.func11, Try.ntmps11
  go_wp2
  clear hmk
  go_loopw [4] (fun i wr => ∃ (k : Nat), k ≤ xs.length ∧ i = .int .i64 k ∧ Part wr w.heap.size 50 (xs.length * 3) (k * 3) (flat Check.enc xs) ∧ Ext w wr) (fun i _ => xs.length - (intOf i).toNat)
  case atStart => exact ⟨0, by omega, rfl, (Part.zeros _ _ _ _ _ _).to (by omega), Ext.new _ _⟩
  case round =>
    obtain ⟨k, hk, rfl, hP, hE⟩ := hrel
    by_cases hlt : k < xs.length
    · obtain ⟨b, off, rfl, hb1, hb2, hc⟩ := hcell (by omega)
      obtain ⟨c0, c1, c2⟩ := Check.cells hc k hlt
      have hcc := (bcell hE).1
      have hbw : b < w.heap.size := by omega
      go_wp2_with (go_at_call 32; refine (toCheck xs[k] _).mono ?_; rintro e w2 ⟨rfl, hE2⟩; have hB := hP.ext hE2; obtain ⟨u0, g0⟩ := hB.cell (k * 3) (by omega); obtain ⟨u1, g1⟩ := hB.cell (k * 3 + 1) (by omega); obtain ⟨u2, g2⟩ := hB.cell (k * 3 + 2) (by omega); have f0 := hB.frozen; clear hcc)
      have hE3 := Ext.tr hE hE2
      go_roundw
      case rel =>
        have e := fun j (hj : j < 3) => flat_get Check.len xs k hlt j hj
        exact ⟨k + 1, by omega, by go_num, ((((hB.set_ (by omega) (e 0 (by omega))).set_ (by omega) (e 1 (by omega))).set_ (by omega) (e 2 (by omega))).to (by omega)), by go_tidy; go_grown⟩
      case measure => simp [intOf]; omega
    · obtain rfl : k = xs.length := by omega
      go_wp2
      go_ret
      exact ⟨⟨_, rfl, Own.of (hP.own (Nat.le_refl _) (by unfold maxLen; omega) HL.out) (by omega)⟩, hE⟩
theorem eqCheck (x : Check) (w : World) :
    Calls Try.prog 34 #[.agg #[.string x.id, .int .i64 x.every, .int .i64 x.last], .agg #[.string x.id, .int .i64 x.every, .int .i64 x.last]] w fun e w' => e = .returned (.bool true) ∧ Ext w w' := by
  go_enter Try.func34, Try.ntmps34
  go_wp2
  go_ret
  exact ⟨rfl, by go_tidy; go_grown⟩
set_option maxRecDepth 100000 in
theorem eqCheckS (xs : List Check) (lo hi lo' hi' : Nat) (v v' : Value) (w : World) (hv : Sl lo hi w 3 v xs.length (flat Check.enc xs)) (hv' : Sl lo' hi' w 3 v' xs.length (flat Check.enc xs)) (hn : xs.length ≤ 2097152) :
    Calls Try.prog 13 #[v, v'] w fun e w' => e = .returned (.bool true) ∧ Ext w w' := by
  obtain ⟨hhi, _, A, c, rfl, hnc, hcm, hcell⟩ := hv
  obtain ⟨hhi', _, A', c', rfl, hnc', hcm', hcell'⟩ := hv'
  go_enter Try.func13, Try.ntmps13
  go_wp2
  go_loopw [5] (fun i wr => ∃ (k : Nat), k ≤ xs.length ∧ i = .int .i64 k ∧ Ext w wr) (fun i _ => xs.length - (intOf i).toNat)
  case atStart => exact ⟨0, by omega, rfl, Below.refl _ _⟩
  case round =>
    obtain ⟨k, hk, rfl, hE⟩ := hrel
    by_cases hlt : k < xs.length
    · obtain ⟨b, off, rfl, hb1, hb2, hc⟩ := hcell (by omega)
      obtain ⟨b', off', rfl, hb1', hb2', hc'⟩ := hcell' (by omega)
      obtain ⟨c0, c1, c2⟩ := Check.cells hc k hlt
      obtain ⟨d0, d1, d2⟩ := Check.cells hc' k hlt
      have hcc := (bcell hE).1
      have hbw : b < w.heap.size := by omega
      have hbw' : b' < w.heap.size := by omega
      have hki : (k : Int) < xs.length := by omega
      go_wp2
      go_still_tail 8, (by kernel_rfl)
      change wpList _ _ _ _ _ wr.drew
      have hE1 : Ext w wr.drew := Ext.tr hE (Ext.drewN wr 1)
      go_wp2_with (go_at_call 34; refine (eqCheck xs[k] _).mono ?_; rintro e w2 ⟨rfl, hE2⟩)
      have hE3 := Ext.tr hE1 hE2
      go_roundw
      case rel => exact ⟨k + 1, by omega, by go_num, hE3⟩
      case measure => simp [intOf]; omega
    · go_wp2
      go_ret
      exact ⟨rfl, hE⟩
def markCheck (k : Int) : List Value := [.string (markS (k).toNat), .int .i64 (k + 1), .int .i64 (k + 2)]
def markChecks (k : Int) (n : Nat) : List Value := flat (fun i : Nat => markCheck (k + 3 * i)) (List.range n)
theorem markChecks_get (k : Int) (n i : Nat) (hi : i < n) (j : Nat) (hj : j < 3) (q : Int) (hq : q = k + 3 * i) : (markChecks k n)[i * 3 + j]? = (markCheck q)[j]? := by
  have := flat_get (enc := fun i : Nat => markCheck (k + 3 * i)) (K := 3) (fun _ => rfl) (List.range n) i (by simpa using hi) j hj
  rw [List.getElem_range] at this
  rw [hq]; exact this
theorem markChecks_len (k : Int) (n : Nat) : (markChecks k n).length = n * 3 := by
  have := flat_length (enc := fun i : Nat => markCheck (k + 3 * i)) (K := 3) (fun _ => rfl) (List.range n)
  rw [List.length_range] at this
  exact this
set_option maxRecDepth 100000 in
theorem markCheckS (k0 : Int) (n lo hi : Nat) (v : Value) (xs : List Value) (w : World) (hv : Own lo hi w 50 3 v n xs) (h0 : 0 < k0) (hk : k0 + 3 * n ≤ 1099511627776) :
    Calls Try.prog 20 #[v, .int .i64 k0] w fun e w' => e = .returned (.int .i64 (k0 + 3 * n)) ∧ Own lo hi w' 50 3 v n (markChecks k0 n) ∧ KeepI lo hi w w' := by
  obtain ⟨hhw, hn2, hl, ⟨rfl, rfl⟩ | ⟨g, c, cs, rfl, hlo, hhi, hnc, hcm, hB, hcs, hxs⟩⟩ := hv
  · go_enter Try.func20, Try.ntmps20
    go_wp2
    go_loopw [1, 5] (fun kk i wr => kk = .int .i64 k0 ∧ i = .int .i64 0 ∧ wr = w) (fun _ _ _ => 0)
    case atStart => exact ⟨rfl, rfl, rfl⟩
    case round =>
      obtain ⟨rfl, rfl, rfl⟩ := hrel
      go_wp2
      go_ret
      exact ⟨ret_int (by omega), ⟨hhw, by omega, by simp [markChecks, flat], .inl ⟨rfl, rfl⟩⟩, KeepI.refl _ _ _⟩
  have hmg : n * 3 ≤ cs.size := by rw [hcs]; exact Nat.mul_le_mul_right _ hnc
  have hP0 : Part w g 50 cs.size 0 (markChecks k0 n) := ⟨cs, hB, rfl, fun j hj => absurd hj (by omega)⟩
  have HC := hid hcs
  clear hcs hB hxs
  generalize cs.size = N at *
  clear cs
  go_enter Try.func20, Try.ntmps20
  go_wp2
  go_loopw [1, 5] (fun kk i wr => ∃ (k : Nat) (q : Int), k ≤ n ∧ i = .int .i64 k ∧ kk = .int .i64 q ∧ Hid (q = k0 + 3 * k) ∧ Part wr g 50 N (k * 3) (markChecks k0 n) ∧ KeepI lo hi w wr) (fun _ i _ => n - (intOf i).toNat)
  case atStart => exact ⟨0, k0, by omega, rfl, rfl, hid (by simp), hP0.to (by omega), KeepI.refl _ _ _⟩
  case round =>
    obtain ⟨i, q, hi, rfl, rfl, hq, hP, hK⟩ := hrel
    have hq1 : 0 < q ∧ q ≤ 1099511627776 := by have := hq.out; omega
    obtain ⟨hq1, hq2⟩ := hq1
    by_cases hlt : i < n
    · have hq3 : q + 3 ≤ 1099511627776 := by have := hq.out; omega
      have hNb : i * 3 + 3 ≤ N := by omega
      have eeF : ∀ j (_ : j < 3), (markChecks k0 n)[i * 3 + j]? = (markCheck q)[j]? := fun j hj => markChecks_get k0 n i hlt j hj q hq.out
      have ee0 := hid (eeF _ (show 0 < 3 by omega))
      have ee1 := hid (eeF _ (show 1 < 3 by omega))
      have ee2 := hid (eeF _ (show 2 < 3 by omega))
      clear eeF
      obtain ⟨u0_0, g0_0⟩ := hP.cell (i * 3) (by omega)
      obtain ⟨u0_1, g0_1⟩ := hP.cell (i * 3 + 1) (by omega)
      obtain ⟨u0_2, g0_2⟩ := hP.cell (i * 3 + 2) (by omega)
      have f0 := hP.frozen
      go_wp2_with fail
      refine (markText _ _ (by omega) (by omega)).mono ?_
      rintro e w1 ⟨rfl, hE1⟩
      have hP1 := hP.ext hE1
      have hK1 := hK.trE hE1
      clear g0_0 g0_1 g0_2 f0
      obtain ⟨u1_0, g1_0⟩ := hP1.cell (i * 3) (by omega)
      obtain ⟨u1_1, g1_1⟩ := hP1.cell (i * 3 + 1) (by omega)
      obtain ⟨u1_2, g1_2⟩ := hP1.cell (i * 3 + 2) (by omega)
      have f1 := hP1.frozen
      go_wp2
      go_roundw
      case rel => exact ⟨i + 1, _, by omega, by go_num, rfl, hid (by have := hq.out; omega), ((((hP1.set_ (by omega) ((ee0).out.trans (by first | rfl | (simp only [markCheck, List.getElem?_cons_succ, List.getElem?_cons_zero]; congr 2; omega)))).set_ (by omega) ((ee1).out.trans (by first | rfl | (simp only [markCheck, List.getElem?_cons_succ, List.getElem?_cons_zero]; congr 2; omega)))).set_ (by omega) ((ee2).out.trans (by first | rfl | (simp only [markCheck, List.getElem?_cons_succ, List.getElem?_cons_zero]; congr 2; omega)))).to (by omega)), (((hK1.set_ (m := i * 3) hlo hhi _).set_ (m := i * 3 + 1) hlo hhi _).set_ (m := i * 3 + 2) hlo hhi _)⟩
      case measure => simp [intOf]; omega
    · obtain rfl : i = n := by omega
      go_wp2
      go_ret
      refine ⟨ret_int hq.out, ?_, hK⟩
      obtain ⟨cs, hB, hc1, hc2⟩ := hP
      refine ⟨Nat.le_trans hhw hK.size, hn2, markChecks_len _ _, .inr ⟨g, c, cs, rfl, hlo, hhi, hnc, hcm, hB, by rw [hc1]; exact HC.out, ?_⟩⟩
      apply List.ext_getElem?
      intro j
      rw [List.getElem?_take]
      split
      · rename_i hj; rw [← hc2 j hj]; simp
      · rename_i hj; rw [List.getElem?_eq_none (by rw [markChecks_len]; omega)]
set_option maxRecDepth 100000 in
theorem heldCheckS (k0 : Int) (n lo hi : Nat) (v : Value) (w : World) (hv : Sl lo hi w 3 v n (markChecks k0 n)) (hn2 : n ≤ 2097152) (h0 : 0 < k0) (hk : k0 + 3 * n ≤ 1099511627776) :
    Calls Try.prog 25 #[v, .int .i64 k0] w fun e w' => e = .returned (.int .i64 (k0 + 3 * n)) ∧ Ext w w' := by
  obtain ⟨hhi, _, A, c, rfl, hnc, hcm, hcell⟩ := hv
  go_enter Try.func25, Try.ntmps25
  go_wp2
  go_loopw [1, 5] (fun kk i wr => ∃ (k : Nat) (q : Int), k ≤ n ∧ i = .int .i64 k ∧ kk = .int .i64 q ∧ Hid (q = k0 + 3 * k) ∧ Ext w wr) (fun _ i _ => n - (intOf i).toNat)
  case atStart => exact ⟨0, k0, by omega, rfl, rfl, hid (by simp), Below.refl _ _⟩
  case round =>
    obtain ⟨i, q, hi, rfl, rfl, hq, hE⟩ := hrel
    have hq1 : 0 < q ∧ q ≤ 1099511627776 := by have := hq.out; omega
    obtain ⟨hq1, hq2⟩ := hq1
    by_cases hlt : i < n
    · have hq3 : q + 3 ≤ 1099511627776 := by have := hq.out; omega
      obtain ⟨b, off, rfl, hb1, hb2, hc⟩ := hcell (by omega)
      have hbw : b < w.heap.size := by omega
      have ee : ∀ j (_ : j < 3), (markChecks k0 n)[i * 3 + j]? = (markCheck q)[j]? := fun j hj => markChecks_get k0 n i hlt j hj q hq.out
      have c0 : w.cell? ⟨b, off + i * 3, none⟩ = some (.string (markS (q).toNat)) := hc (i * 3 + 0) _ (ee 0 (by omega))
      have c1 : w.cell? ⟨b, off + i * 3 + 1, none⟩ = some (.int .i64 (q + 1)) := hc (i * 3 + 1) _ (ee 1 (by omega))
      have c2 : w.cell? ⟨b, off + i * 3 + 2, none⟩ = some (.int .i64 (q + 2)) := hc (i * 3 + 2) _ (ee 2 (by omega))
      clear hc ee
      obtain ⟨hcc, _⟩ := bcell hE
      have ha0 : ∀ W, Ext w W → W.cell? ⟨b, off + i * 3, none⟩ = some (.string (markS (q).toNat)) := fun W hW => (hW.cell (p := ⟨b, _, none⟩) hbw).trans c0
      clear c0
      go_wp2
      clear hcc
      go_region_held3 (fun W => Ext w W) (first | assumption | exact Ext.tr hE (Ext.drewN _ 1) | exact Ext.tr (by assumption) hE2) (first | (go_at_call 42; refine (markText _ _ (by omega) (by omega)).mono ?_; rintro e w2 ⟨rfl, hE2⟩))
      have hEn0 : Ext w w2 := by assumption
      clear hE2 ha0
      replace hE := hEn0
      clear hEn0
      obtain ⟨hcc, _⟩ := bcell hE
      go_wp2
      go_roundw
      case rel => exact ⟨i + 1, _, by omega, by go_num, rfl, hid (by have := hq.out; omega), hE⟩
      case measure => simp [intOf]; omega
    · obtain rfl : i = n := by omega
      go_wp2
      go_ret
      exact ⟨ret_int hq.out, hE⟩
end Go.Proofs.Ytcocdigcmcpefaa
