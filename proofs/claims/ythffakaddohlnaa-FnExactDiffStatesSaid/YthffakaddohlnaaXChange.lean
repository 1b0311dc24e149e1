/- Change: its cells; the contracts of the functions that measure, copy, compare, mark and hold a list of them. -/
import Derived.Test.YthffakaddohlnaaMark
import Derived.Deep.RegionHeld3
namespace Go.Proofs.Ythffakaddohlnaa
set_option linter.unusedVariables false
open Go.RowKit
structure Change where
  kind : Int
  name : ByteArray
  value : Int
def Change.enc (x : Change) : List Value := [.int .i64 x.kind, .string x.name, .int .i64 x.value]
theorem Change.len (x : Change) : x.enc.length = 3 := rfl
theorem Change.cells {xs : List Change} {w : World} {b off : Nat} (hc : ∀ j u, (flat Change.enc xs)[j]? = some u → w.cell? ⟨b, off + j, none⟩ = some u) (i : Nat) (hi : i < xs.length) :
    w.cell? ⟨b, off + i * 3, none⟩ = some (.int .i64 xs[i].kind) ∧ w.cell? ⟨b, off + i * 3 + 1, none⟩ = some (.string xs[i].name) ∧ w.cell? ⟨b, off + i * 3 + 2, none⟩ = some (.int .i64 xs[i].value) :=
  ⟨cell_flat Change.len hc i hi 0 _ (by omega) rfl, cell_flat Change.len hc i hi 1 _ (by omega) rfl, cell_flat Change.len hc i hi 2 _ (by omega) rfl⟩
def Change.At (w : World) (b o : Nat) (x : Change) : Prop := w.cell? ⟨b, o, none⟩ = some (.int .i64 x.kind) ∧ w.cell? ⟨b, o + 1, none⟩ = some (.string x.name) ∧ w.cell? ⟨b, o + 2, none⟩ = some (.int .i64 x.value)
theorem Change.at_of {xs : List Change} {w W : World} {b off : Nat} (hc : ∀ j u, (flat Change.enc xs)[j]? = some u → w.cell? ⟨b, off + j, none⟩ = some u) (hW : Ext w W) (hb : b < w.heap.size) (i : Nat) (hi : i < xs.length) : Change.At W b (off + i * 3) xs[i] := by
  obtain ⟨c0, c1, c2⟩ := Change.cells hc i hi
  have hh := (bcell hW).1
  exact ⟨(hh _ _ hb).trans c0, (hh _ _ hb).trans c1, (hh _ _ hb).trans c2⟩
theorem infoChange : (Try.prog.info? 77).map (fun i => (i.zero, i.size, i.bytes)) = some (some (.agg #[.int .i64 0, .string ⟨#[]⟩, .int .i64 0]), 3, 32) := by kernel_rfl
theorem eqChange (x : Change) (w : World) :
    Calls Try.prog 62 #[.agg #[.int .i64 x.kind, .string x.name, .int .i64 x.value], .agg #[.int .i64 x.kind, .string x.name, .int .i64 x.value]] w fun e w' => e = .returned (.bool true) ∧ Ext w w' := by
  go_enter Try.func62, Try.ntmps62
  go_wp2
  go_ret
  exact ⟨rfl, by go_tidy; go_grown⟩
set_option maxRecDepth 100000 in
theorem eqChangeS (xs : List Change) (lo hi lo' hi' : Nat) (v v' : Value) (w : World) (hv : Sl lo hi w 3 v xs.length (flat Change.enc xs)) (hv' : Sl lo' hi' w 3 v' xs.length (flat Change.enc xs)) (hn : xs.length ≤ 2097152) :
    Calls Try.prog 28 #[v, v'] w fun e w' => e = .returned (.bool true) ∧ Ext w w' := by
  obtain ⟨hhi, _, A, c, rfl, hnc, hcm, hcell⟩ := hv
  obtain ⟨hhi', _, A', c', rfl, hnc', hcm', hcell'⟩ := hv'
  go_enter Try.func28, Try.ntmps28
  go_wp2
  go_loopw [5] (fun i wr => ∃ (k : Nat), k ≤ xs.length ∧ i = .int .i64 k ∧ Ext w wr) (fun i _ => xs.length - (intOf i).toNat)
  case atStart => exact ⟨0, by omega, rfl, Below.refl _ _⟩
  case round =>
    obtain ⟨k, hk, rfl, hE⟩ := hrel
    by_cases hlt : k < xs.length
    · obtain ⟨b, off, rfl, hb1, hb2, hc⟩ := hcell (by omega)
      obtain ⟨b', off', rfl, hb1', hb2', hc'⟩ := hcell' (by omega)
      obtain ⟨c0, c1, c2⟩ := Change.cells hc k hlt
      obtain ⟨d0, d1, d2⟩ := Change.cells hc' k hlt
      have hcc := (bcell hE).1
      have hbw : b < w.heap.size := by omega
      have hbw' : b' < w.heap.size := by omega
      have hki : (k : Int) < xs.length := by omega
      go_wp2
      go_still_tail 8, (by kernel_rfl)
      change wpList _ _ _ _ _ wr.drew
      have hE1 : Ext w wr.drew := Ext.tr hE (Ext.drewN wr 1)
      go_wp2_with (go_at_call 62; refine (eqChange xs[k] _).mono ?_; rintro e w2 ⟨rfl, hE2⟩)
      have hE3 := Ext.tr hE1 hE2
      go_roundw
      case rel => exact ⟨k + 1, by omega, by go_num, hE3⟩
      case measure => simp [intOf]; omega
    · go_wp2
      go_ret
      exact ⟨rfl, hE⟩
def markChange (k : Int) : List Value := [.int .i64 (k), .string (markS (k + 1).toNat), .int .i64 (k + 2)]
def markChanges (k : Int) (n : Nat) : List Value := flat (fun i : Nat => markChange (k + 3 * i)) (List.range n)
theorem markChanges_get (k : Int) (n i : Nat) (hi : i < n) (j : Nat) (hj : j < 3) (q : Int) (hq : q = k + 3 * i) : (markChanges k n)[i * 3 + j]? = (markChange q)[j]? := by
  have := flat_get (enc := fun i : Nat => markChange (k + 3 * i)) (K := 3) (fun _ => rfl) (List.range n) i (by simpa using hi) j hj
  rw [List.getElem_range] at this
  rw [hq]; exact this
theorem markChanges_len (k : Int) (n : Nat) : (markChanges k n).length = n * 3 := by
  have := flat_length (enc := fun i : Nat => markChange (k + 3 * i)) (K := 3) (fun _ => rfl) (List.range n)
  rw [List.length_range] at this
  exact this
set_option maxRecDepth 100000 in
theorem markChangeS (k0 : Int) (n lo hi : Nat) (v : Value) (xs : List Value) (w : World) (hv : Own lo hi w 77 3 v n xs) (h0 : 0 < k0) (hk : k0 + 3 * n ≤ 1099511627776) :
    Calls Try.prog 30 #[v, .int .i64 k0] w fun e w' => e = .returned (.int .i64 (k0 + 3 * n)) ∧ Own lo hi w' 77 3 v n (markChanges k0 n) ∧ KeepI lo hi w w' := by
  obtain ⟨hhw, hn2, hl, ⟨rfl, rfl⟩ | ⟨g, c, cs, rfl, hlo, hhi, hnc, hcm, hB, hcs, hxs⟩⟩ := hv
  · go_enter Try.func30, Try.ntmps30
    go_wp2
    go_loopw [1, 5] (fun kk i wr => kk = .int .i64 k0 ∧ i = .int .i64 0 ∧ wr = w) (fun _ _ _ => 0)
    case atStart => exact ⟨rfl, rfl, rfl⟩
    case round =>
      obtain ⟨rfl, rfl, rfl⟩ := hrel
      go_wp2
      go_ret
      exact ⟨ret_int (by omega), ⟨hhw, by omega, by simp [markChanges, flat], .inl ⟨rfl, rfl⟩⟩, KeepI.refl _ _ _⟩
  have hmg : n * 3 ≤ cs.size := by rw [hcs]; exact Nat.mul_le_mul_right _ hnc
  have hP0 : Part w g 77 cs.size 0 (markChanges k0 n) := ⟨cs, hB, rfl, fun j hj => absurd hj (by omega)⟩
  have HC := hid hcs
  clear hcs hB hxs
  generalize cs.size = N at *
  clear cs
  go_enter Try.func30, Try.ntmps30
  go_wp2
  go_loopw [1, 5] (fun kk i wr => ∃ (k : Nat) (q : Int), k ≤ n ∧ i = .int .i64 k ∧ kk = .int .i64 q ∧ Hid (q = k0 + 3 * k) ∧ Part wr g 77 N (k * 3) (markChanges k0 n) ∧ KeepI lo hi w wr) (fun _ i _ => n - (intOf i).toNat)
  case atStart => exact ⟨0, k0, by omega, rfl, rfl, hid (by simp), hP0.to (by omega), KeepI.refl _ _ _⟩
  case round =>
    obtain ⟨i, q, hi, rfl, rfl, hq, hP, hK⟩ := hrel
    have hq1 : 0 < q ∧ q ≤ 1099511627776 := by have := hq.out; omega
    obtain ⟨hq1, hq2⟩ := hq1
    by_cases hlt : i < n
    · have hq3 : q + 3 ≤ 1099511627776 := by have := hq.out; omega
      have hNb : i * 3 + 3 ≤ N := by omega
      have eeF : ∀ j (_ : j < 3), (markChanges k0 n)[i * 3 + j]? = (markChange q)[j]? := fun j hj => markChanges_get k0 n i hlt j hj q hq.out
      have ee0 := hid (eeF _ (show 0 < 3 by omega))
      have ee1 := hid (eeF _ (show 1 < 3 by omega))
      have ee2 := hid (eeF _ (show 2 < 3 by omega))
      clear eeF
      obtain ⟨u0_0, g0_0⟩ := hP.cell (i * 3) (by omega)
      obtain ⟨u0_1, g0_1⟩ := hP.cell (i * 3 + 1) (by omega)
      obtain ⟨u0_2, g0_2⟩ := hP.cell (i * 3 + 2) (by omega)
      have f0 := hP.frozen
      go_wp2_with fail
      refine (markText _ _ (by omega) (by omega)).mono ?_
      rintro e w1 ⟨rfl, hE1⟩
      have hP1 := (hP.set_ (by omega) ((ee0).out.trans (by first | rfl | (simp only [markChange, List.getElem?_cons_succ, List.getElem?_cons_zero]; congr 2; omega)))).ext hE1
      have hK1 := (hK.set_ (m := i * 3) hlo hhi _).trE hE1
      clear g0_0 g0_1 g0_2 f0
      obtain ⟨u1_1, g1_1⟩ := hP1.cell (i * 3 + 1) (by omega)
      obtain ⟨u1_2, g1_2⟩ := hP1.cell (i * 3 + 2) (by omega)
      have f1 := hP1.frozen
      go_wp2
      go_roundw
      case rel => exact ⟨i + 1, _, by omega, by go_num, rfl, hid (by have := hq.out; omega), (((hP1.set_ (by omega) ((ee1).out.trans (by first | rfl | (simp only [markChange, List.getElem?_cons_succ, List.getElem?_cons_zero]; congr 2; omega)))).set_ (by omega) ((ee2).out.trans (by first | rfl | (simp only [markChange, List.getElem?_cons_succ, List.getElem?_cons_zero]; congr 2; omega)))).to (by omega)), ((hK1.set_ (m := i * 3 + 1) hlo hhi _).set_ (m := i * 3 + 2) hlo hhi _)⟩
      case measure => simp [intOf]; omega
    · obtain rfl : i = n := by omega
      go_wp2
      go_ret
      refine ⟨ret_int hq.out, ?_, hK⟩
      obtain ⟨cs, hB, hc1, hc2⟩ := hP
      refine ⟨Nat.le_trans hhw hK.size, hn2, markChanges_len _ _, .inr ⟨g, c, cs, rfl, hlo, hhi, hnc, hcm, hB, by rw [hc1]; exact HC.out, ?_⟩⟩
      apply List.ext_getElem?
      intro j
      rw [List.getElem?_take]
      split
      · rename_i hj; rw [← hc2 j hj]; simp
      · rename_i hj; rw [List.getElem?_eq_none (by rw [markChanges_len]; omega)]
set_option maxRecDepth 100000 in
theorem heldChangeS (k0 : Int) (n lo hi : Nat) (v : Value) (w : World) (hv : Sl lo hi w 3 v n (markChanges k0 n)) (hn2 : n ≤ 2097152) (h0 : 0 < k0) (hk : k0 + 3 * n ≤ 1099511627776) :
    Calls Try.prog 31 #[v, .int .i64 k0] w fun e w' => e = .returned (.int .i64 (k0 + 3 * n)) ∧ Ext w w' := by
  obtain ⟨hhi, _, A, c, rfl, hnc, hcm, hcell⟩ := hv
  go_enter Try.func31, Try.ntmps31
  go_wp2
  go_loopw [1, 5] (fun kk i wr => ∃ (k : Nat) (q : Int), k ≤ n ∧ i = .int .i64 k ∧ kk = .int .i64 q ∧ Hid (q = k0 + 3 * k) ∧ Ext w wr) (fun _ i _ => n - (intOf i).toNat)
  case atStart => exact ⟨0, k0, by omega, rfl, rfl, hid (by simp), Below.refl _ _⟩
  case round =>
    obtain ⟨i, q, hi, rfl, rfl, hq, hE⟩ := hrel
    have hq1 : 0 < q ∧ q ≤ 1099511627776 := by have := hq.out; omega
    obtain ⟨hq1, hq2⟩ := hq1
    by_cases hlt : i < n
    · have hq3 : q + 3 ≤ 1099511627776 := by have := hq.out; omega
      obtain ⟨b, off, rfl, hb1, hb2, hc⟩ := hcell (by omega)
      have hbw : b < w.heap.size := by omega
      have ee : ∀ j (_ : j < 3), (markChanges k0 n)[i * 3 + j]? = (markChange q)[j]? := fun j hj => markChanges_get k0 n i hlt j hj q hq.out
      have c0 : w.cell? ⟨b, off + i * 3, none⟩ = some (.int .i64 (q)) := hc (i * 3 + 0) _ (ee 0 (by omega))
      have c1 : w.cell? ⟨b, off + i * 3 + 1, none⟩ = some (.string (markS (q + 1).toNat)) := hc (i * 3 + 1) _ (ee 1 (by omega))
      have c2 : w.cell? ⟨b, off + i * 3 + 2, none⟩ = some (.int .i64 (q + 2)) := hc (i * 3 + 2) _ (ee 2 (by omega))
      clear hc ee
      obtain ⟨hcc, _⟩ := bcell hE
      have ha1 : ∀ W, Ext w W → W.cell? ⟨b, off + i * 3 + 1, none⟩ = some (.string (markS (q + 1).toNat)) := fun W hW => (hW.cell (p := ⟨b, _, none⟩) hbw).trans c1
      clear c1
      go_wp2
      clear hcc
      go_region_held3 (fun W => Ext w W) (first | assumption | exact Ext.tr hE (Ext.drewN _ 1) | exact Ext.tr (by assumption) hE2) (first | (go_at_call 63; refine (markText _ _ (by omega) (by omega)).mono ?_; rintro e w3 ⟨rfl, hE2⟩))
      have hEn1 : Ext w w3 := by assumption
      clear hE2 ha1
      replace hE := hEn1
      clear hEn1
      obtain ⟨hcc, _⟩ := bcell hE
      go_wp2
      go_roundw
      case rel => exact ⟨i + 1, _, by omega, by go_num, rfl, hid (by have := hq.out; omega), hE⟩
      case measure => simp [intOf]; omega
    · obtain rfl : i = n := by omega
      go_wp2
      go_ret
      exact ⟨ret_int hq.out, hE⟩
end Go.Proofs.Ythffakaddohlnaa
