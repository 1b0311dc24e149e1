/- The walk of the law FnPlans: it returns true; nothing that was there has turned. -/
import Derived.Test.YtibmcailjodpkaaDrawT
import Derived.Test.YtibmcailjodpkaaPlanP
import Derived.Test.YtibmcailjodpkaaI28
import Derived.Test.YtibmcailjodpkaaQ29
import Derived.Deep.RegionLaw
namespace Go.Proofs.Ytibmcailjodpkaa
set_option linter.unusedVariables false
open Go.RowKit
theorem flatI_map (xs : List Int) : flat encI xs = xs.map (Value.int .i64) := by
  induction xs with
  | nil => rfl
  | cons x xs ih => show flat encI (x :: xs) = _; unfold flat at ih ⊢; rw [List.flatMap_cons, ih]; rfl
theorem own_sl1 {lo hi t : Nat} {w : World} {v : Value} {xs : List Value} (h : Own lo hi w t 1 v 1 xs) : ∃ A c, v = .slice A 1 c := by
  obtain ⟨_, _, A, c, h, _⟩ := h.sl
  exact ⟨A, c, h⟩
theorem sl_take {lo hi n c g i o : Nat} {w : World} {xs : List Int} (h : Sl lo hi w 1 (.slice (some ⟨g, o, none⟩) n c) n (flat encI xs)) (hi' : i ≤ n) : Sl lo hi w 1 (.slice (some ⟨g, o, none⟩) i c) i (flat encI (xs.take i)) := by
  obtain ⟨h1, h2, A, c', h3, h4, h5, h6⟩ := h
  simp only [Value.slice.injEq] at h3
  obtain ⟨rfl, _, rfl⟩ := h3
  rw [flatI_map] at h2
  refine ⟨h1, by rw [flatI_map]; simp at h2 ⊢; omega, _, c, rfl, by omega, h5, fun hi0 => ?_⟩
  obtain ⟨b, off, e, h7, h8, h9⟩ := h6 (by omega)
  refine ⟨b, off, e, h7, h8, fun j u hu => h9 j u ?_⟩
  rw [flatI_map, List.map_take, List.getElem?_take] at hu
  split at hu
  · rw [flatI_map]; exact hu
  · cases hu
theorem b10Long (bs : List Int) (lo hi : Nat) (v : Value) (w : World) (hv : Sl lo hi w 1 v bs.length (flat encB bs)) :
    Calls Try.prog 40 #[v] w fun e w' => e = .returned (.bool (decide (1048576 < bs.length))) ∧ w = w' := by
  obtain ⟨_, _, A, c, rfl, hnc, hcm, _⟩ := hv
  unfold maxLen at hcm
  by_cases h : 1048576 < bs.length
  · have h' : (1048576 : Int) < bs.length := by omega
    go_enter Try.func40, Try.ntmps40
    go_wp2
    go_ret
    exact ⟨ret_bool (decide_eq_true h).symm, rfl⟩
  · have h' : ¬ (1048576 : Int) < bs.length := by omega
    go_enter Try.func40, Try.ntmps40
    go_wp2
    go_ret
    exact ⟨rfl, rfl⟩
theorem b10HasNo (xs : List Int) (x : Int) (hx : hasI xs x = false) (lo hi : Nat) (v : Value) (w : World) (hv : Sl lo hi w 1 v xs.length (flat encI xs)) (hn : xs.length ≤ 1048576) :
    Calls Try.prog 42 #[v, .int .i64 x] w fun e w' => e = .returned (.bool false) ∧ w = w' := by
  obtain ⟨hhi, _, A, c, rfl, hnc, hcm, hcell⟩ := hv
  have HX : Hid (∀ k (h : k < xs.length), (xs[k] == x) = false) := hid (fun k hk => by
    unfold hasI at hx
    rw [List.any_eq_false] at hx
    have := hx xs[k] (List.getElem_mem _)
    simpa using this)
  clear hx
  go_enter Try.func42, Try.ntmps42
  go_wp2
  go_loop [5] (fun i => ∃ k : Nat, k ≤ xs.length ∧ i = .int .i64 k) (fun i => xs.length - (intOf i).toNat)
  case atStart => exact ⟨0, Nat.zero_le _, rfl⟩
  case round =>
    obtain ⟨k, hk, rfl⟩ := hrel
    by_cases hlt : k < xs.length
    · obtain ⟨b, off, rfl, hb1, hb2, hc⟩ := hcell (by omega)
      have c0 := cellsI hc k hlt
      have he := HX.out k hlt
      clear hc
      go_wp2
      go_round
      case rel => exact ⟨k + 1, by omega, by go_num⟩
      case measure => simp [intOf]; omega
    · obtain rfl : k = xs.length := by omega
      go_wp2
      go_ret
      exact ⟨rfl, rfl⟩
set_option maxRecDepth 100000 in
set_option maxHeartbeats 8000000 in
theorem lawPlans (w : World) (code : List Int) (v0 : Value) (hv0 : Sl 0 w.heap.size w 1 v0 code.length (flat encB code)) (hb0 : ∀ b ∈ code, 0 ≤ b ∧ b ≤ 255) :
    Calls Try.prog 10 #[v0] w fun e w' => e = .returned (.bool true) ∧ Ext w w' := by
  have HV0 := hid hv0
  have HB0 := hid hb0
  clear hv0 hb0
  cases h0 : decide (1048576 < code.length)
  case true =>
    go_enter Try.func10, Try.ntmps10
    go_wp2_with (go_at_call 40; refine (cv (b10Long code _ _ _ _ HV0.out) (vb h0)).mono ?_; rintro e w' ⟨rfl, rfl⟩)
    go_ret
    exact ⟨rfl, Below.refl _ _⟩
  go_enter Try.func10, Try.ntmps10
  go_wp2_with fail
  refine (cv (b10Long code _ _ _ _ HV0.out) (vb h0)).mono ?_
  rintro e w' ⟨rfl, rfl⟩
  go_wp2_with fail
  refine (drawPlanDrills code _ _ v0 w HV0.out HB0.out).mono ?_
  rintro e w1 ⟨⟨vd, vc, xs, cs, f, iv, rfl, ⟨hxl, hcl⟩, hc10, hn20, hsd, hsc⟩, hE1⟩
  have HSD := hid hsd
  have HSC := hid hsc
  have HE1 := hid hE1
  have HC10 := hid (show ∀ x ∈ xs, x.crew.size ≤ maxLen from fun x hx => by have := hc10 x hx; unfold maxLen; omega)
  have HN20 := hid (show ∀ x ∈ cs, x.size ≤ maxLen from fun x hx => by have := hn20 x hx; unfold maxLen; omega)
  obtain ⟨_, _, Ad, cd, rfl, _, _, _⟩ := hsd
  obtain ⟨_, _, Ac, cc, rfl, _, _, _⟩ := hsc
  clear hE1 hc10 hn20
  go_wp2_with fail
  refine (implPlanDrills xs cs f iv _ _ _ _ _ _ w1 HSD.out HC10.out (by omega) HSC.out HN20.out (by omega)).mono ?_
  rintro e w2 ⟨⟨vp, rfl, hO⟩, hE2⟩
  have HO := hid hO.sl
  have HE2 := hid (Ext.tr HE1.out hE2)
  have HSD2 := hid (HSD.out.ext hE2)
  have HSC2 := hid (HSC.out.ext hE2)
  obtain ⟨_, _, Ap, cp, rfl, _, _, _⟩ := hO.sl
  clear hO hE2 HSD HSC HE1
  by_cases hc : (planR xs cs f iv).2 = 0
  case neg =>
    have hcb : ((planR xs cs f iv).2 != 0) = true := by simpa using hc
    have hm := planR_miss hc
    have hl : (planR xs cs f iv).1.length = 0 := by rw [hm]; rfl
    have hlb : (((planR xs cs f iv).1.length : Int) == 0) = true := by rw [hl]; rfl
    clear hc hm hl
    go_wp2
    go_ret
    exact ⟨rfl, HE2.out⟩
  have hcb : ((planR xs cs f iv).2 != 0) = false := by simpa using hc
  obtain ⟨hd, ha, hlen, hday⟩ := planR_hit hc
  have HDAY := hid hday
  have HLEN := hid hlen
  have hlb : (((planR xs cs f iv).1.length : Int) != (cs.length : Int)) = false := by rw [hlen]; simp
  clear hc hday hlen
  generalize hps : planR xs cs f iv = pr at *
  obtain ⟨ps, pc⟩ := pr
  simp only at HO HDAY HLEN hlb hcb
  go_wp2
  clear hcb hlb
  go_loopw [9] (fun i W => ∃ k : Nat, k ≤ ps.length ∧ i = .int .i64 k ∧ Hid (Ext w2 W)) (fun i _ => ps.length - (intOf i).toNat)
  case atStart => exact ⟨0, Nat.zero_le _, rfl, hid (Below.refl _ _)⟩
  case round =>
    obtain ⟨k, hk, rfl, HEk⟩ := hrel
    by_cases hlt : k < ps.length
    · have hkc : k < cs.length := by have := HLEN.out; omega
      obtain ⟨hf1, hf2, hf3, hf4, hf5⟩ := HDAY.out k hlt hkc
      have HDUE := hid (due_one hd ha hkc (HDAY.out k hlt hkc))
      obtain ⟨_, _, A', c', he, _, _, hpc⟩ := HO.out
      simp only [Value.slice.injEq, true_and] at he
      obtain ⟨rfl, rfl⟩ := he
      obtain ⟨bp, op, rfl, _, hbp, hpcc⟩ := hpc (by omega)
      obtain ⟨_, _, A', c', he, _, _, hcc⟩ := HSC2.out
      simp only [Value.slice.injEq, true_and] at he
      obtain ⟨rfl, rfl⟩ := he
      obtain ⟨bc, oc, rfl, _, hbc, hccc⟩ := hcc (by omega)
      have hz2 := HSC2.out.1
      have HP := hid (fun (W : World) (hW : Ext w2 W) => (hW.cell (p := ⟨bp, op + k, none⟩) hbp).trans (cellsI hpcc k hlt))
      have HC := hid (fun (W : World) (hW : Ext w2 W) => (hW.cell (p := ⟨bc, oc + k, none⟩) (by show bc < _; omega)).trans (show w2.cell? ⟨bc, oc + k, none⟩ = some (.string cs[k]) by
        have := cell_flat (K := 1) (enc := encT) (fun _ => rfl) hccc k hkc 0 _ (by omega) rfl
        simpa using this))
      have HT := hid (fun (n : Nat) => b10HasNo (ps.take k) ps[k] hf3 _ _ (.slice (some ⟨bp, op, none⟩) k cp) (wr.drewN n) (by
        have := sl_take (HO.out.ext (Ext.tr HEk.out (Ext.drewN wr n))) (i := k) (by omega)
        rw [show (ps.take k).length = k by rw [List.length_take]; omega]; exact this) (by rw [List.length_take]; omega))
      have HF4 := hid (fun (j : Nat) (hj : j < xs.length) => (show (xs[j].day == ps[k]) = false by rw [beq_eq_false_iff_ne]; exact hf4 _ (List.getElem_mem _)))
      have HS20 := hid (HN20.out cs[k] (List.getElem_mem _))
      have hgone := gone_ cs[k] hd
      have HIMP := hid (fun (W : World) (hW : Ext w2 W) => implImprovementOf xs cs[k] _ _ _ W (HSD2.out.ext hW) HC10.out (by omega))
      have HDD := hid (fun (W : World) (hW : Ext w2 W) => implDrillsDue xs [cs[k]] ps[k] iv _ _ _ _ _ (.slice (some ⟨W.heap.size, 0, none⟩) 1 1) (W.alloc (.cells #[.string cs[k]] 9)) (HSD2.out.ext (Ext.tr hW (Ext.new _ _))) HC10.out (by omega) (lit_slT W 9 [cs[k]] _ rfl (by simp)) (.inr ⟨W.heap.size, 0, 1, rfl⟩) (fun x hx => by rw [List.mem_singleton] at hx; subst hx; exact HS20.out) (by simp))
      rw [HDUE.out] at HDD
      clear hpc hcc hpcc hccc hf3 hf4 hf5
      generalize hdd : ps[k] = d at *
      generalize hss : cs[k] = s at *
      have hf1' : decide (d < f) = false := by simp; omega
      have hf1'' : ¬ d < f := by omega
      have p0 := HP.out wr HEk.out
      clear hdd hss
      go_wp2_with fail
      go_quiet ((go_at_call 42; exact Calls.quiet_of_same (qs (HT.out _))))
      go_wp2
      clear p0 hf1' hf1''
      go_loopw [10] (fun q W => ∃ j : Nat, q = .int .i64 j ∧ j ≤ xs.length ∧ Hid (Ext w2 W)) (fun q _ => xs.length - (intOf q).toNat)
      case atStart => exact ⟨0, rfl, Nat.zero_le _, hid (Ext.tr HEk.out (Ext.drewN _ _))⟩
      case round =>
        clear HEk HT
        obtain ⟨j, rfl, hj, HEj⟩ := hrel
        by_cases hjl : j < xs.length
        · obtain ⟨_, _, A', c', he, _, _, hdc⟩ := HSD2.out
          simp only [Value.slice.injEq, true_and] at he
          obtain ⟨rfl, rfl⟩ := he
          obtain ⟨bd, od, rfl, _, hbd, hdcc⟩ := hdc (by omega)
          have c0 := (HEj.out.cell (p := ⟨bd, od + j * 5, none⟩) (by show bd < _; omega)).trans (Drill.cells hdcc j hjl).1
          have p0 := HP.out wr HEj.out
          have hne := HF4.out j hjl
          clear hdc hdcc
          go_wp2_with fail
          go_quiet (fail)
          go_wp2
          go_roundw
          case rel => exact ⟨j + 1, by go_num, by omega, hid (Ext.tr HEj.out (Ext.drewN _ _))⟩
          case measure => simp [intOf]; omega
        · obtain rfl : j = xs.length := by omega
          have p0 := HP.out wr HEj.out
          have s0 := HC.out wr HEj.out
          have HDR := hid (HDD.out (wr.drewN 1) (Ext.tr HEj.out (Ext.drewN wr 1)))
          have HBW := hid (Ext.tr (Ext.tr HEj.out (Ext.drewN wr 1)) (Ext.new (wr.drewN 1) (.cells #[.string s] 9)))
          have hki : (k : Int) < cs.length := by omega
          have hzw := HEj.out.size
          have hbpw : bp < wr.heap.size := by omega
          have hbcw : bc < wr.heap.size := by omega
          clear HF4
          go_wp2_with fail
          go_region_law (first | (go_simp; go_at_call 29; refine HDR.out.mono ?_; rintro e w5 ⟨⟨v5, rfl, hO5⟩, hE5⟩; obtain ⟨A5, c5, rfl⟩ := own_sl1 hO5))
          all_goals
            have HE5 := hid (Ext.tr HBW.out hE5)
            have s1 := HC.out w5 HE5.out
            have HIM := hid (HIMP.out w5 HE5.out)
            clear hO5 hE5 HDR HBW p0 s0
            rcases hgone with h3 | ⟨h3, h4⟩
            · rw [h3] at HIM
              clear h3
              go_wp2_with (go_at_call 19; refine HIM.out.mono ?_; rintro e w6 ⟨rfl, hE6⟩)
              go_roundw
              case rel => exact ⟨k + 1, by omega, by go_num, hid (Ext.tr HE5.out hE6)⟩
              case measure => simp [intOf]; omega
            · rw [h3, h4] at HIM
              clear h3 h4
              go_wp2_with (go_at_call 19; refine HIM.out.mono ?_; rintro e w6 ⟨rfl, hE6⟩)
              go_roundw
              case rel => exact ⟨k + 1, by omega, by go_num, hid (Ext.tr HE5.out hE6)⟩
              case measure => simp [intOf]; omega
    · obtain rfl : k = ps.length := by omega
      go_wp2
      go_ret
      exact ⟨rfl, Ext.tr HE2.out HEk.out⟩
end Go.Proofs.Ytibmcailjodpkaa
