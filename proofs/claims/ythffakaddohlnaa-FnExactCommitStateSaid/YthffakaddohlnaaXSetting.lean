/- Setting: its cells; the contracts of the functions that measure, copy, compare, mark and hold a list of them. -/
import Derived.Test.YthffakaddohlnaaMark
import Derived.Deep.RegionHeld3
namespace Go.Proofs.Ythffakaddohlnaa
set_option linter.unusedVariables false
open Go.RowKit
structure Setting where
  name : ByteArray
  value : Int
def Setting.enc (x : Setting) : List Value := [.string x.name, .int .i64 x.value]
theorem Setting.len (x : Setting) : x.enc.length = 2 := rfl
theorem Setting.cells {xs : List Setting} {w : World} {b off : Nat} (hc : ∀ j u, (flat Setting.enc xs)[j]? = some u → w.cell? ⟨b, off + j, none⟩ = some u) (i : Nat) (hi : i < xs.length) :
    w.cell? ⟨b, off + i * 2, none⟩ = some (.string xs[i].name) ∧ w.cell? ⟨b, off + i * 2 + 1, none⟩ = some (.int .i64 xs[i].value) :=
  ⟨cell_flat Setting.len hc i hi 0 _ (by omega) rfl, cell_flat Setting.len hc i hi 1 _ (by omega) rfl⟩
def Setting.At (w : World) (b o : Nat) (x : Setting) : Prop := w.cell? ⟨b, o, none⟩ = some (.string x.name) ∧ w.cell? ⟨b, o + 1, none⟩ = some (.int .i64 x.value)
theorem Setting.at_of {xs : List Setting} {w W : World} {b off : Nat} (hc : ∀ j u, (flat Setting.enc xs)[j]? = some u → w.cell? ⟨b, off + j, none⟩ = some u) (hW : Ext w W) (hb : b < w.heap.size) (i : Nat) (hi : i < xs.length) : Setting.At W b (off + i * 2) xs[i] := by
  obtain ⟨c0, c1⟩ := Setting.cells hc i hi
  have hh := (bcell hW).1
  exact ⟨(hh _ _ hb).trans c0, (hh _ _ hb).trans c1⟩
theorem szSetting (x : Setting) (l : Int) (w : World) (hs : x.name.size ≤ maxLen) (hl : 0 ≤ l ∧ l ≤ 1048576) :
    Calls Try.prog 45 #[.agg #[.string x.name, .int .i64 x.value], .int .i64 l] w fun e w' => e = .returned (.int .i64 (szF l x.name.size)) ∧ Ext w w' := by
  obtain ⟨hl1, hl2⟩ := hl
  unfold maxLen at hs
  go_enter Try.func45, Try.ntmps45
  go_wp2
  all_goals (go_ret; refine ⟨ret_int ?_, by go_tidy; go_grown⟩; go_tidy; unfold szF; split <;> omega)
theorem szSettingS (xs : List Setting) (lo hi : Nat) (v : Value) (l : Int) (w : World) (hv : Sl lo hi w 2 v xs.length (flat Setting.enc xs)) (hs : ∀ x ∈ xs, x.name.size ≤ maxLen) (hl : 0 ≤ l ∧ l ≤ 1048576) :
    Calls Try.prog 12 #[v, .int .i64 l] w fun e w' => (∃ r, e = .returned (.int .i64 r) ∧ (0 ≤ r → r ≤ 1048576 ∧ xs.length ≤ 1048576 ∧ ∀ x ∈ xs, x.name.size ≤ 1048576)) ∧ Ext w w' := by
  obtain ⟨hhi, _, A, c, rfl, hnc, hcm, hcell⟩ := hv
  obtain ⟨hl1, hl2⟩ := hl
  unfold maxLen at hcm
  by_cases h0 : l - xs.length < 0
  · go_enter Try.func12, Try.ntmps12
    go_wp2
    go_ret
    exact ⟨⟨-1, rfl, by omega⟩, by go_tidy; go_grown⟩
  · go_enter Try.func12, Try.ntmps12
    go_wp2
    go_loopw [1, 5] (fun l' i wr => ∃ (k : Nat) (m : Int), k ≤ xs.length ∧ i = .int .i64 k ∧ l' = .int .i64 m ∧ (0 ≤ m ∧ m ≤ 1048576) ∧ Hid (∀ j (h : j < xs.length), j < k → (xs[j]).name.size ≤ 1048576) ∧ Ext w wr) (fun _ i _ => xs.length - (intOf i).toNat)
    case atStart => exact ⟨0, _, by omega, rfl, rfl, by omega, hid (fun j h hj => by omega), Below.refl _ _⟩
    case round =>
      obtain ⟨k, m, hk, rfl, rfl, ⟨hm0, hm1⟩, hall, hE⟩ := hrel
      by_cases hlt : k < xs.length
      · obtain ⟨b, off, rfl, hb1, hb2, hc⟩ := hcell (by omega)
        obtain ⟨c0, c1⟩ := Setting.cells hc k hlt
        have hcc := (bcell hE).1
        have hbw : b < w.heap.size := by omega
        have hsk : (xs[k]).name.size ≤ maxLen := hs _ (List.getElem_mem hlt)
        by_cases hz : szF m (xs[k]).name.size < 0
        · go_wp2_with (go_at_call 45; refine (szSetting xs[k] _ _ hsk ⟨hm0, hm1⟩).mono ?_; rintro e w2 ⟨rfl, hE2⟩)
          go_ret
          exact ⟨⟨-1, rfl, by omega⟩, Ext.tr hE hE2⟩
        · have hz1 := szF_bd m (xs[k]).name.size (by omega)
          go_wp2_with (go_at_call 45; refine (szSetting xs[k] _ _ hsk ⟨hm0, hm1⟩).mono ?_; rintro e w2 ⟨rfl, hE2⟩)
          go_roundw
          case rel => exact ⟨k + 1, _, by omega, by go_num, rfl, by omega, hid (fun j h hj => by rcases Nat.lt_succ_iff_lt_or_eq.1 hj with h1 | rfl; exact hall.out j h h1; omega), Ext.tr hE hE2⟩
          case measure => simp [intOf]; omega
      · go_wp2
        go_ret
        refine ⟨⟨m, rfl, fun _ => ⟨hm1, by omega, fun x hx => ?_⟩⟩, hE⟩
        obtain ⟨j, hj, rfl⟩ := List.getElem_of_mem hx
        exact hall.out j hj (by omega)
theorem toSetting (x : Setting) (w : World) :
    Calls Try.prog 47 #[.agg #[.string x.name, .int .i64 x.value]] w fun e w' => e = .returned (.agg #[.string x.name, .int .i64 x.value]) ∧ Ext w w' := by
  go_enter Try.func47, Try.ntmps47
  go_wp2
  go_returns
  exact ⟨rfl, by go_tidy; go_grown⟩
theorem infoSetting : (Try.prog.info? 61).map (fun i => (i.zero, i.size, i.bytes)) = some (some (.agg #[.string ⟨#[]⟩, .int .i64 0]), 2, 24) := by kernel_rfl
theorem toSettingS (xs : List Setting) (lo hi : Nat) (v : Value) (w : World) (hv : Sl lo hi w 2 v xs.length (flat Setting.enc xs)) (hn : xs.length ≤ 1048576) :
    Calls Try.prog 14 #[v] w fun e w' => (∃ v', e = .returned v' ∧ Own w.heap.size w'.heap.size w' 61 2 v' xs.length (flat Setting.enc xs)) ∧ Ext w w' := by
  obtain ⟨hhi, hlen, A, c, rfl, hnc, hcm, hcell⟩ := hv
  have HL := hid hlen; clear hlen
  unfold maxLen at hcm
  have hmk := run_made 25 61 _ 2 24 Try.underlying25 infoSetting xs.length (by omega) (by unfold maxLen; omega)
  go_enter Try.func14, Try.ntmps14
  go_wp2
  clear hmk
  go_loopw [4] (fun i wr => ∃ (k : Nat), k ≤ xs.length ∧ i = .int .i64 k ∧ Part wr w.heap.size 61 (xs.length * 2) (k * 2) (flat Setting.enc xs) ∧ Ext w wr) (fun i _ => xs.length - (intOf i).toNat)
  case atStart => exact ⟨0, by omega, rfl, (Part.zeros _ _ _ _ _ _).to (by omega), Ext.new _ _⟩
  case round =>
    obtain ⟨k, hk, rfl, hP, hE⟩ := hrel
    by_cases hlt : k < xs.length
    · obtain ⟨b, off, rfl, hb1, hb2, hc⟩ := hcell (by omega)
      obtain ⟨c0, c1⟩ := Setting.cells hc k hlt
      have hcc := (bcell hE).1
      have hbw : b < w.heap.size := by omega
      go_wp2_with (go_at_call 47; refine (toSetting xs[k] _).mono ?_; rintro e w2 ⟨rfl, hE2⟩; have hB := hP.ext hE2; obtain ⟨u0, g0⟩ := hB.cell (k * 2) (by omega); obtain ⟨u1, g1⟩ := hB.cell (k * 2 + 1) (by omega); have f0 := hB.frozen; clear hcc)
      have hE3 := Ext.tr hE hE2
      go_roundw
      case rel =>
        have e := fun j (hj : j < 2) => flat_get Setting.len xs k hlt j hj
        exact ⟨k + 1, by omega, by go_num, (((hB.set_ (by omega) (e 0 (by omega))).set_ (by omega) (e 1 (by omega))).to (by omega)), by go_tidy; go_grown⟩
      case measure => simp [intOf]; omega
    · obtain rfl : k = xs.length := by omega
      go_wp2
      go_ret
      exact ⟨⟨_, rfl, Own.of (hP.own (Nat.le_refl _) (by unfold maxLen; omega) HL.out) (by omega)⟩, hE⟩
theorem eqSetting (x : Setting) (w : World) :
    Calls Try.prog 49 #[.agg #[.string x.name, .int .i64 x.value], .agg #[.string x.name, .int .i64 x.value]] w fun e w' => e = .returned (.bool true) ∧ Ext w w' := by
  go_enter Try.func49, Try.ntmps49
  go_wp2
  go_ret
  exact ⟨rfl, by go_tidy; go_grown⟩
set_option maxRecDepth 100000 in
theorem eqSettingS (xs : List Setting) (lo hi lo' hi' : Nat) (v v' : Value) (w : World) (hv : Sl lo hi w 2 v xs.length (flat Setting.enc xs)) (hv' : Sl lo' hi' w 2 v' xs.length (flat Setting.enc xs)) (hn : xs.length ≤ 2097152) :
    Calls Try.prog 16 #[v, v'] w fun e w' => e = .returned (.bool true) ∧ Ext w w' := by
  obtain ⟨hhi, _, A, c, rfl, hnc, hcm, hcell⟩ := hv
  obtain ⟨hhi', _, A', c', rfl, hnc', hcm', hcell'⟩ := hv'
  go_enter Try.func16, Try.ntmps16
  go_wp2
  go_loopw [5] (fun i wr => ∃ (k : Nat), k ≤ xs.length ∧ i = .int .i64 k ∧ Ext w wr) (fun i _ => xs.length - (intOf i).toNat)
  case atStart => exact ⟨0, by omega, rfl, Below.refl _ _⟩
  case round =>
    obtain ⟨k, hk, rfl, hE⟩ := hrel
    by_cases hlt : k < xs.length
    · obtain ⟨b, off, rfl, hb1, hb2, hc⟩ := hcell (by omega)
      obtain ⟨b', off', rfl, hb1', hb2', hc'⟩ := hcell' (by omega)
      obtain ⟨c0, c1⟩ := Setting.cells hc k hlt
      obtain ⟨d0, d1⟩ := Setting.cells hc' k hlt
      have hcc := (bcell hE).1
      have hbw : b < w.heap.size := by omega
      have hbw' : b' < w.heap.size := by omega
      have hki : (k : Int) < xs.length := by omega
      go_wp2
      go_still_tail 8, (by kernel_rfl)
      change wpList _ _ _ _ _ wr.drew
      have hE1 : Ext w wr.drew := Ext.tr hE (Ext.drewN wr 1)
      go_wp2_with (go_at_call 49; refine (eqSetting xs[k] _).mono ?_; rintro e w2 ⟨rfl, hE2⟩)
      have hE3 := Ext.tr hE1 hE2
      go_roundw
      case rel => exact ⟨k + 1, by omega, by go_num, hE3⟩
      case measure => simp [intOf]; omega
    · go_wp2
      go_ret
      exact ⟨rfl, hE⟩
def markSetting (k : Int) : List Value := [.string (markS (k).toNat), .int .i64 (k + 1)]
def markSettings (k : Int) (n : Nat) : List Value := flat (fun i : Nat => markSetting (k + 2 * i)) (List.range n)
theorem markSettings_get (k : Int) (n i : Nat) (hi : i < n) (j : Nat) (hj : j < 2) (q : Int) (hq : q = k + 2 * i) : (markSettings k n)[i * 2 + j]? = (markSetting q)[j]? := by
  have := flat_get (enc := fun i : Nat => markSetting (k + 2 * i)) (K := 2) (fun _ => rfl) (List.range n) i (by simpa using hi) j hj
  rw [List.getElem_range] at this
  rw [hq]; exact this
theorem markSettings_len (k : Int) (n : Nat) : (markSettings k n).length = n * 2 := by
  have := flat_length (enc := fun i : Nat => markSetting (k + 2 * i)) (K := 2) (fun _ => rfl) (List.range n)
  rw [List.length_range] at this
  exact this
set_option maxRecDepth 100000 in
theorem markSettingS (k0 : Int) (n lo hi : Nat) (v : Value) (xs : List Value) (w : World) (hv : Own lo hi w 61 2 v n xs) (h0 : 0 < k0) (hk : k0 + 2 * n ≤ 1099511627776) :
    Calls Try.prog 29 #[v, .int .i64 k0] w fun e w' => e = .returned (.int .i64 (k0 + 2 * n)) ∧ Own lo hi w' 61 2 v n (markSettings k0 n) ∧ KeepI lo hi w w' := by
  obtain ⟨hhw, hn2, hl, ⟨rfl, rfl⟩ | ⟨g, c, cs, rfl, hlo, hhi, hnc, hcm, hB, hcs, hxs⟩⟩ := hv
  · go_enter Try.func29, Try.ntmps29
    go_wp2
    go_loopw [1, 5] (fun kk i wr => kk = .int .i64 k0 ∧ i = .int .i64 0 ∧ wr = w) (fun _ _ _ => 0)
    case atStart => exact ⟨rfl, rfl, rfl⟩
    case round =>
      obtain ⟨rfl, rfl, rfl⟩ := hrel
      go_wp2
      go_ret
      exact ⟨ret_int (by omega), ⟨hhw, by omega, by simp [markSettings, flat], .inl ⟨rfl, rfl⟩⟩, KeepI.refl _ _ _⟩
  have hmg : n * 2 ≤ cs.size := by rw [hcs]; exact Nat.mul_le_mul_right _ hnc
  have hP0 : Part w g 61 cs.size 0 (markSettings k0 n) := ⟨cs, hB, rfl, fun j hj => absurd hj (by omega)⟩
  have HC := hid hcs
  clear hcs hB hxs
  generalize cs.size = N at *
  clear cs
  go_enter Try.func29, Try.ntmps29
  go_wp2
  go_loopw [1, 5] (fun kk i wr => ∃ (k : Nat) (q : Int), k ≤ n ∧ i = .int .i64 k ∧ kk = .int .i64 q ∧ Hid (q = k0 + 2 * k) ∧ Part wr g 61 N (k * 2) (markSettings k0 n) ∧ KeepI lo hi w wr) (fun _ i _ => n - (intOf i).toNat)
  case atStart => exact ⟨0, k0, by omega, rfl, rfl, hid (by simp), hP0.to (by omega), KeepI.refl _ _ _⟩
  case round =>
    obtain ⟨i, q, hi, rfl, rfl, hq, hP, hK⟩ := hrel
    have hq1 : 0 < q ∧ q ≤ 1099511627776 := by have := hq.out; omega
    obtain ⟨hq1, hq2⟩ := hq1
    by_cases hlt : i < n
    · have hq3 : q + 2 ≤ 1099511627776 := by have := hq.out; omega
      have hNb : i * 2 + 2 ≤ N := by omega
      have eeF : ∀ j (_ : j < 2), (markSettings k0 n)[i * 2 + j]? = (markSetting q)[j]? := fun j hj => markSettings_get k0 n i hlt j hj q hq.out
      have ee0 := hid (eeF _ (show 0 < 2 by omega))
      have ee1 := hid (eeF _ (show 1 < 2 by omega))
      clear eeF
      obtain ⟨u0_0, g0_0⟩ := hP.cell (i * 2) (by omega)
      obtain ⟨u0_1, g0_1⟩ := hP.cell (i * 2 + 1) (by omega)
      have f0 := hP.frozen
      go_wp2_with fail
      refine (markText _ _ (by omega) (by omega)).mono ?_
      rintro e w1 ⟨rfl, hE1⟩
      have hP1 := hP.ext hE1
      have hK1 := hK.trE hE1
      clear g0_0 g0_1 f0
      obtain ⟨u1_0, g1_0⟩ := hP1.cell (i * 2) (by omega)
      obtain ⟨u1_1, g1_1⟩ := hP1.cell (i * 2 + 1) (by omega)
      have f1 := hP1.frozen
      go_wp2
      go_roundw
      case rel => exact ⟨i + 1, _, by omega, by go_num, rfl, hid (by have := hq.out; omega), (((hP1.set_ (by omega) ((ee0).out.trans (by first | rfl | (simp only [markSetting, List.getElem?_cons_succ, List.getElem?_cons_zero]; congr 2; omega)))).set_ (by omega) ((ee1).out.trans (by first | rfl | (simp only [markSetting, List.getElem?_cons_succ, List.getElem?_cons_zero]; congr 2; omega)))).to (by omega)), ((hK1.set_ (m := i * 2) hlo hhi _).set_ (m := i * 2 + 1) hlo hhi _)⟩
      case measure => simp [intOf]; omega
    · obtain rfl : i = n := by omega
      go_wp2
      go_ret
      refine ⟨ret_int hq.out, ?_, hK⟩
      obtain ⟨cs, hB, hc1, hc2⟩ := hP
      refine ⟨Nat.le_trans hhw hK.size, hn2, markSettings_len _ _, .inr ⟨g, c, cs, rfl, hlo, hhi, hnc, hcm, hB, by rw [hc1]; exact HC.out, ?_⟩⟩
      apply List.ext_getElem?
      intro j
      rw [List.getElem?_take]
      split
      · rename_i hj; rw [← hc2 j hj]; simp
      · rename_i hj; rw [List.getElem?_eq_none (by rw [markSettings_len]; omega)]
set_option maxRecDepth 100000 in
theorem heldSettingS (k0 : Int) (n lo hi : Nat) (v : Value) (w : World) (hv : Sl lo hi w 2 v n (markSettings k0 n)) (hn2 : n ≤ 2097152) (h0 : 0 < k0) (hk : k0 + 2 * n ≤ 1099511627776) :
    Calls Try.prog 75 #[v, .int .i64 k0] w fun e w' => e = .returned (.int .i64 (k0 + 2 * n)) ∧ Ext w w' := by
  obtain ⟨hhi, _, A, c, rfl, hnc, hcm, hcell⟩ := hv
  go_enter Try.func75, Try.ntmps75
  go_wp2
  go_loopw [1, 5] (fun kk i wr => ∃ (k : Nat) (q : Int), k ≤ n ∧ i = .int .i64 k ∧ kk = .int .i64 q ∧ Hid (q = k0 + 2 * k) ∧ Ext w wr) (fun _ i _ => n - (intOf i).toNat)
  case atStart => exact ⟨0, k0, by omega, rfl, rfl, hid (by simp), Below.refl _ _⟩
  case round =>
    obtain ⟨i, q, hi, rfl, rfl, hq, hE⟩ := hrel
    have hq1 : 0 < q ∧ q ≤ 1099511627776 := by have := hq.out; omega
    obtain ⟨hq1, hq2⟩ := hq1
    by_cases hlt : i < n
    · have hq3 : q + 2 ≤ 1099511627776 := by have := hq.out; omega
      obtain ⟨b, off, rfl, hb1, hb2, hc⟩ := hcell (by omega)
      have hbw : b < w.heap.size := by omega
      have ee : ∀ j (_ : j < 2), (markSettings k0 n)[i * 2 + j]? = (markSetting q)[j]? := fun j hj => markSettings_get k0 n i hlt j hj q hq.out
      have c0 : w.cell? ⟨b, off + i * 2, none⟩ = some (.string (markS (q).toNat)) := hc (i * 2 + 0) _ (ee 0 (by omega))
      have c1 : w.cell? ⟨b, off + i * 2 + 1, none⟩ = some (.int .i64 (q + 1)) := hc (i * 2 + 1) _ (ee 1 (by omega))
      clear hc ee
      obtain ⟨hcc, _⟩ := bcell hE
      have ha0 : ∀ W, Ext w W → W.cell? ⟨b, off + i * 2, none⟩ = some (.string (markS (q).toNat)) := fun W hW => (hW.cell (p := ⟨b, _, none⟩) hbw).trans c0
      clear c0
      go_wp2
      clear hcc
      go_region_held3 (fun W => Ext w W) (first | assumption | exact Ext.tr hE (Ext.drewN _ 1) | exact Ext.tr (by assumption) hE2) (first | (go_at_call 63; refine (markText _ _ (by omega) (by omega)).mono ?_; rintro e w2 ⟨rfl, hE2⟩))
      have hEn0 : Ext w w2 := by assumption
      clear hE2 ha0
      replace hE := hEn0
      clear hEn0
      obtain ⟨hcc, _⟩ := bcell hE
      go_wp2
      go_roundw
      case rel => exact ⟨i + 1, _, by omega, by go_num, rfl, hid (by have := hq.out; omega), hE⟩
      case measure => simp [intOf]; omega
    · obtain rfl : i = n := by omega
      go_wp2
      go_ret
      exact ⟨ret_int hq.out, hE⟩
end Go.Proofs.Ythffakaddohlnaa
