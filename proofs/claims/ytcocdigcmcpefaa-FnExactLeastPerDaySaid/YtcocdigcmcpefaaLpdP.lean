/- The program's spread of checks over days. -/
import Derived.Test.YtcocdigcmcpefaaLpdO
namespace Go.Proofs.Ytcocdigcmcpefaa
set_option linter.unusedVariables false
open Go.RowKit
theorem infoIntN : (Try.prog.info? 3).map (fun i => (i.zero, i.size, i.bytes)) = some (some (.int .i64 0), 1, 8) := by kernel_rfl
section
variable (D : List Int) (p1 : Value) (base g cap : Nat) (w : World) (h0 : 0 < D.length) (hn : D.length ≤ 16) (hbw : base ≤ w.heap.size) (hown : w.ownsRow base 3 1 (.slice (some ⟨g, 0, none⟩) D.length cap) D.length (flat encI (ixN D.length)))
  (hC : ∀ (a b : Nat) (W : World), a < D.length → b < D.length → Below base w W → Calls Try.prog 60 #[.int .i64 a, .int .i64 b, p1] W fun e W' => e = .returned (.int .i64 (cmpZ (at0 D a) (at0 D b))) ∧ Ext W W')
include h0 hn hbw hown hC
theorem stableC : Calls Try.prog 69 #[.slice (some ⟨g, 0, none⟩) D.length cap, .int .i64 D.length, .func (.func 60) #[] #[p1]] w fun e w' => e = .returned (.tuple #[]) ∧ (∃ L : List Int, OUp D D.length L ∧ w'.ownsRow base 3 1 (.slice (some ⟨g, 0, none⟩) D.length cap) D.length (flat encI L)) ∧ Below base w w' := by
  have HI := hid (insSortC D p1 base g cap w h0 hn hbw hown hC)
  clear hown hC
  go_enter Try.func69, Try.ntmps69
  go_wp2
  go_loopw [7, 8] (fun a b W => a = .int .i64 0 ∧ b = .int .i64 20 ∧ W = w) (fun _ _ _ => 0)
  case atStart => exact ⟨rfl, rfl, rfl⟩
  case round =>
    obtain ⟨rfl, rfl, rfl⟩ := hrel
    go_wp2_with (go_at_call 77; refine HI.out.mono ?_; rintro e w' ⟨rfl, h1, h2⟩)
    go_loopw [6] (fun a W => a = .int .i64 20 ∧ W = w') (fun _ _ => 0)
    case atStart => exact ⟨rfl, rfl⟩
    case round =>
      obtain ⟨rfl, rfl⟩ := hrel
      go_wp2
      first | go_end0 | refine bodyPost_ret (results_none rfl _ _ _) rfl ?_
      exact ⟨rfl, h1, h2⟩
theorem sortStableC : Calls Try.prog 59 #[.slice (some ⟨g, 0, none⟩) D.length cap, .func (.func 60) #[] #[p1]] w fun e w' => e = .returned (.tuple #[]) ∧ (∃ L : List Int, OUp D D.length L ∧ w'.ownsRow base 3 1 (.slice (some ⟨g, 0, none⟩) D.length cap) D.length (flat encI L)) ∧ Below base w w' := by
  have HI := hid (stableC D p1 base g cap w h0 hn hbw hown hC)
  clear hown hC
  go_enter Try.func59, Try.ntmps59
  go_wp2_with (go_at_call 69; refine HI.out.mono ?_; rintro e w' ⟨rfl, h1, h2⟩)
  first | go_end0 | refine bodyPost_ret (results_none rfl _ _ _) rfl ?_
  exact ⟨rfl, h1, h2⟩
end
set_option maxRecDepth 100000 in
set_option maxHeartbeats 1000000 in
theorem implSpread (xs : List Check) (frm : Int) (n lo hi : Nat) (v : Value) (w : World) (hv : Sl lo hi w 3 v xs.length (flat Check.enc xs)) (hx : checksOkB xs = true) (hx0 : 0 < xs.length) (hx16 : xs.length ≤ 16) (hf : 0 ≤ frm ∧ frm ≤ 100000) (hn : 1 ≤ n ∧ n ≤ 16) :
    Calls Try.prog 51 #[v, .int .i64 frm, .int .i64 n] w fun e w' => (∃ v', e = .returned (.tuple #[v', .bool (spreadB (duesOf xs) frm n)])) ∧ Ext w w' := by
  obtain ⟨hf0, hf1⟩ := hf
  obtain ⟨hn0, hn1⟩ := hn
  obtain ⟨hhi, _, A, c, rfl, hnc, hcm, hcell⟩ := id hv
  obtain ⟨b, off, rfl, hb1, hb2, hc⟩ := hcell hx0
  have hbw : b < w.heap.size := by omega
  have HCK := hid (fun (W : World) (hW : Ext w W) (j : Nat) (hj : j < xs.length) => Check.at_of hc hW hbw j hj)
  have HD := hid (dues_len xs)
  have HV := hid hv
  have HBX := hid (Blk.new w 25 #[.slice (some ⟨b, off, none⟩) xs.length c])
  have HE1 := hid (Ext.new w (.cells #[.slice (some ⟨b, off, none⟩) xs.length c] 25))
  have hmk := run_made 79 3 _ 1 8 Try.underlying79 infoIntN xs.length (by omega) (by unfold maxLen; omega)
  have hmk2 := run_made 29 2 _ 1 8 Try.underlying29 infoInt xs.length (by omega) (by unfold maxLen; omega)
  simp only [Nat.mul_one] at hmk hmk2
  clear hv hc hcell
  go_enter Try.func51, Try.ntmps51
  go_wp2
  clear hmk
  go_loopw [9, 18] (fun _ i W => ∃ (k : Nat), k ≤ xs.length ∧ i = .int .i64 k ∧ Hid (Part W (w.heap.size + 1) 3 xs.length k (flat encI (ixN xs.length))) ∧ Hid (Ext (w.alloc (.cells #[.slice (some ⟨b, off, none⟩) xs.length c] 25)) W)) (fun _ i _ => xs.length - (intOf i).toNat)
  case atStart => exact ⟨0, by omega, rfl, hid (by have := Part.zeros (w.alloc (.cells #[.slice (some ⟨b, off, none⟩) xs.length c] 25)) 3 (.int .i64 0) xs.length 1 (flat encI (ixN xs.length)); simpa using this), hid (Ext.new _ _)⟩
  case round =>
    obtain ⟨k, hk, rfl, HP, HE⟩ := hrel
    by_cases hlt : k < xs.length
    · obtain ⟨u0, g0⟩ := HP.out.cell k hlt
      have f0 := HP.out.frozen k
      go_wp2
      go_roundw
      case rel => exact ⟨k + 1, by omega, by go_num, hid (HP.out.set_ hlt (by have := getI (ixN xs.length) k (by rw [ixN_len]; exact hlt); rw [this]; congr 2; unfold ixN; simp)), hid (Below.setCell HE.out (p := ⟨w.heap.size + 1, k, none⟩) (by simp) _)⟩
      case measure => simp [intOf]; omega
    · obtain rfl : k = xs.length := by omega
      have HO := hid (Part.own (K := 1) (base := (w.alloc (.cells #[.slice (some ⟨b, off, none⟩) xs.length c] 25)).heap.size) (by simpa using HP.out) (by simp) (by unfold maxLen; omega) (by rw [flat_length encI_len, ixN_len]))
      have hz := HE.out.size
      generalize hwb : w.alloc (.cells #[.slice (some ⟨b, off, none⟩) xs.length c] 25) = wb at *
      have hbz : wb.heap.size = w.heap.size + 1 := by rw [← hwb]; simp
      have HBX2 := hid (HBX.out.ext HE.out)
      clear HP
      rw [hbz] at HO
      have hg : w.heap.size < wr.heap.size := by omega
      have HV2 := hid (HV.out.ext (Ext.tr HE1.out HE.out))
      have HS : Hid (Calls Try.prog 59 #[.slice (some ⟨w.heap.size + 1, 0, none⟩) xs.length xs.length, .func (.func 60) #[] #[.pointer (some ⟨w.heap.size, 0, none⟩)]] wr fun e w' => e = .returned (.tuple #[]) ∧ (∃ L : List Int, OUp (duesOf xs) xs.length L ∧ w'.ownsRow (w.heap.size + 1) 3 1 (.slice (some ⟨w.heap.size + 1, 0, none⟩) xs.length xs.length) xs.length (flat encI L)) ∧ Below (w.heap.size + 1) wr w') := hid (by
        have h := sortStableC (duesOf xs) (.pointer (some ⟨w.heap.size, 0, none⟩)) (w.heap.size + 1) (w.heap.size + 1) xs.length wr (by rw [HD.out]; exact hx0) (by rw [HD.out]; exact hx16) (by omega) (by rw [HD.out]; exact HO.out) (fun a b' W ha hb' hW => by
          rw [HD.out] at ha hb'
          exact spreadCl xs a b' w.heap.size lo hi _ W (HV2.out.below hW (by omega) hW.size) hx ha hb' ((hW.cell (p := ⟨w.heap.size, 0, none⟩) (Nat.lt_succ_self _)).trans (HBX2.out.cell 0)) (Nat.lt_of_lt_of_le hg hW.size))
        rw [HD.out] at h; exact h)
      go_wp2_with fail
      refine HS.out.mono ?_
      rintro e w2 ⟨rfl, ⟨L, hL, hO2⟩, hB2⟩
      have HL := hid hL
      have HO2 := hid hO2
      have HE2 : Hid (Ext w w2) := hid (Ext.tr HE1.out (by have h := HE.out; unfold Ext at h ⊢; rw [hbz] at h ⊢; exact h.trans hB2))
      have hz2 := hB2.size
      have HBX3 := hid (show Blk w2 w.heap.size 25 #[.slice (some ⟨b, off, none⟩) xs.length c] from (hB2.block w.heap.size (Nat.lt_succ_self _)).trans HBX2.out)
      have x0 : w2.cell? ⟨w.heap.size, 0, none⟩ = some (.slice (some ⟨b, off, none⟩) xs.length c) := HBX3.out.cell 0
      clear hL hO2 hB2 HS HO HE HBX2 HV2
      go_wp2
      clear hmk2 x0
      have hgz : w.heap.size < w2.heap.size := by omega
      go_loopw [11, 12, 34] (fun _ _ i W => ∃ (k : Nat), k ≤ xs.length ∧ i = .int .i64 k ∧ Hid (∃ cs, Blk W w2.heap.size 2 cs ∧ cs.size = xs.length) ∧ Hid (KeepI w2.heap.size (w2.heap.size + 1) w2 W) ∧ Hid (∀ j, j < k → inTime (duesOf xs) frm n j = true)) (fun _ _ i _ => xs.length - (intOf i).toNat)
      case atStart => exact ⟨0, by omega, rfl, hid ⟨_, Blk.new _ _ _, zeros_size _ _⟩, hid (Ext.new _ _).keep, hid (fun j h => by omega)⟩
      case round =>
        obtain ⟨k, hk, rfl, HB, HK, HT⟩ := hrel
        by_cases hlt : k < xs.length
        · obtain ⟨m, hm, hml⟩ := perm_at HL.out.1 k (by rw [HD.out]; exact hlt)
          rw [HD.out] at hml
          have HLl := HL.out.len
          have c2 : w2.cell? ⟨w.heap.size + 1, k, none⟩ = some (.int .i64 m) := row_cell HO2.out (j := k) (by rw [getI L k (by rw [HLl, HD.out]; exact hlt), at0_of, hm])
          have hg1 : w.heap.size + 1 < w2.heap.size := World.block_lt_of_cell? w2 _ c2
          have c0 : wr.cell? ⟨w.heap.size + 1, k, none⟩ = some (.int .i64 m) := (World.cell?_of_block (w := w2) (HK.out.block _ hg1 (.inl hg1))).trans c2
          obtain ⟨cs, hB, hcs⟩ := HB.out
          have HB3 := hid hB
          have p0 : ∃ u, wr.cell? ⟨w2.heap.size, m, none⟩ = some u := ⟨cs[m]'(by omega), (hB.cell m).trans (Array.getElem?_eq_getElem (by omega))⟩
          obtain ⟨u0, p0⟩ := p0
          have fp := hB.frozen m
          have hml' : (m : Int) < xs.length := by omega
          have HKY := hid (show at0 (ord (duesOf xs)) k = xs[m].last + xs[m].every by
            rw [← OUp.end_ (by rw [HD.out]; exact HL.out), keys_at (by rw [HLl, HD.out]; exact hlt) hm, dues_at hml])
          clear hB c2 HLl hm HB
          have hkn : (k : Int) / n ≤ 16 := Int.le_trans (Int.ediv_le_self (a := (k : Int)) (n : Int) (Int.natCast_nonneg k)) (by omega)
          have hkn0 : 0 ≤ (k : Int) / n := Int.ediv_nonneg (by omega) (by omega)
          have HIT := hid (show (((k / n : Nat)) : Int) = (k : Int) / n from Int.natCast_ediv k n)
          go_wp2_with fail
          have HB4 := hid (HB3.out.set_ m (.int .i64 (frm + (k : Int) / n)))
          have HK4 := hid (HK.out.set_ (g := w2.heap.size) (m := m) (Nat.le_refl _) (Nat.lt_succ_self _) (.int .i64 (frm + (k : Int) / n)))
          have HE4 := hid (HK4.out.ext HE2.out (Nat.le_of_lt hgz))
          have c4 := (HB4.out.cell m).trans (show (cs.setIfInBounds m (.int .i64 (frm + (k : Int) / n)))[m]? = some (.int .i64 (frm + (k : Int) / n)) by rw [Array.getElem?_setIfInBounds]; simp; omega)
          have l4 := HB4.out.lt
          generalize wr.setCell ⟨w2.heap.size, m, none⟩ (.int .i64 (frm + (k : Int) / n)) = B at *
          have x0 : ∀ d : Later B, d.w.cell? ⟨w2.heap.size, m, none⟩ = some (.int .i64 (frm + (k : Int) / n)) := fun d => (d.h.cell (p := ⟨w2.heap.size, m, none⟩) l4).trans c4
          have x1 : ∀ d : Later B, d.w.cell? ⟨w.heap.size, 0, none⟩ = some (.slice (some ⟨b, off, none⟩) xs.length c) := fun d => ((HBX3.out.keep HK4.out (.inl hgz)).ext d.h).cell 0
          have HA : Hid (∀ d : Later B, Check.At d.w b (off + m * 3) xs[m]) := hid (fun d => HCK.out d.w (Ext.tr HE4.out d.h) m hml)
          have a0 : ∀ d : Later B, d.w.cell? ⟨b, off + m * 3, none⟩ = some (.string xs[m].id) := fun d => (HA.out d).1
          have a1 : ∀ d : Later B, d.w.cell? ⟨b, off + m * 3 + 1, none⟩ = some (.int .i64 xs[m].every) := fun d => (HA.out d).2.1
          have a2 : ∀ d : Later B, d.w.cell? ⟨b, off + m * 3 + 2, none⟩ = some (.int .i64 xs[m].last) := fun d => (HA.out d).2.2
          have hba := checksOkB_p hx m hml
          clear c4 p0 fp c0
          by_cases hlate : xs[m].last + xs[m].every < frm + (k : Int) / n
          · have HN := hid (spreadB_no (D := duesOf xs) (frm := frm) (n := n) (k := k) (by rw [HD.out]; exact hlt) (by rw [HKY.out, HIT.out]; exact hlate))
            refine wp_region_later B (by kernel_rfl) (by kernel_rfl) (Below.refl _ _) ?_
            repeat (go_big_quiet_step ((go_at_call 39; exact ql (checkDue xs[m].id xs[m].every xs[m].last _ hba.1 hba.2) rfl)))
            refine wpQuiet_nil ?_
            rintro _ ⟨d, rfl⟩
            go_wp2
            go_ret2
            exact ⟨⟨_, by rw [HN.out]; rfl⟩, Ext.tr HE4.out d.h⟩
          · have HIN := hid (show inTime (duesOf xs) frm n k = true by unfold inTime; rw [HKY.out, HIT.out]; simp only [decide_eq_true_eq]; omega)
            refine wp_region_later B (by kernel_rfl) (by kernel_rfl) (Below.refl _ _) ?_
            repeat (go_big_quiet_step ((go_at_call 39; exact ql (checkDue xs[m].id xs[m].every xs[m].last _ hba.1 hba.2) rfl)))
            refine wpQuiet_nil ?_
            rintro _ ⟨d, rfl⟩
            go_wp2
            go_roundw
            case rel => exact ⟨k + 1, by omega, by go_num, hid ⟨_, HB4.out.ext d.h, by simp [hcs]⟩, hid (HK4.out.trE d.h), hid (fun j hj => by rcases Nat.lt_succ_iff_lt_or_eq.1 hj with h1 | rfl; exact HT.out j h1; exact HIN.out)⟩
            case measure => simp [intOf]; omega
        · obtain rfl : k = xs.length := by omega
          have HN := hid (spreadB_yes (D := duesOf xs) (frm := frm) (n := n) (by rw [HD.out]; exact HT.out))
          have HE3 := hid (HK.out.ext HE2.out (Nat.le_of_lt hgz))
          go_wp2
          go_ret2
          exact ⟨⟨_, by rw [HN.out]; rfl⟩, HE3.out⟩
end Go.Proofs.Ytcocdigcmcpefaa
