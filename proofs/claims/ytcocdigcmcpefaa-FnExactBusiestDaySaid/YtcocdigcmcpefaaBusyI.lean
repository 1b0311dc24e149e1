/- The program's busiest day. -/
import Derived.Test.YtcocdigcmcpefaaBusyM
import Derived.Test.YtcocdigcmcpefaaIter
namespace Go.Proofs.Ytcocdigcmcpefaa
set_option linter.unusedVariables false
open Go.RowKit Go.Maps
theorem lawK : Keyed Try.prog 2 := int_keyed Try.underlying2
theorem zeroK (w : World) : (zeroValue 2).run Try.prog w = .ok (.int .i64 0) w := by kernel_rfl
theorem mapE {P : Program} {k : TypeId} {R : Value → Option (DataW Unit × List MemPlace)} {b n : Nat} {D : DataW Unit} {W W' : World} (h : W.ownsMap P k R b n D) (hE : Ext W W') : W'.ownsMap P k R b n D := by
  have hbl := h.lt
  obtain ⟨es, clock, hb, F, hs, hD⟩ := h
  exact ⟨es, clock, (hE.block b hbl).trans hb, F, hs, hD⟩
theorem flatZ (ks : List Int) : ks.map encZ = flat encI ks := by
  induction ks with
  | nil => rfl
  | cons x xs ih => rw [List.map_cons, ih]; rfl
theorem keys_len {D : DataW Unit} {ss : List Int} (hp : ∃ es, D = .map es ∧ es.Pairwise (fun p q => p.1 ≠ q.1) ∧ ∀ p ∈ es, ∃ x, p.1 = .int .i64 x) (hs : ss.Perm (intKeys D)) : ss.length = Maps.size D := by
  obtain ⟨es, rfl, _, _⟩ := hp
  rw [hs.length_eq, size_eq]
  show (es.map fun p => Go.intOf p.1).length = _
  simp
theorem mapKeys {b n : Nat} {D : DataW Unit} {W : World} (h : W.ownsMap Try.prog 2 (plainElem Try.prog 2) b n D) : ∃ es, D = .map es ∧ es.Pairwise (fun p q => p.1 ≠ q.1) ∧ ∀ p ∈ es, ∃ x, p.1 = .int .i64 x := by
  obtain ⟨es, hD, hpw, _⟩ := h.entries lawK
  obtain ⟨es', hD', hko⟩ := h.keysOf
  obtain rfl : es = es' := by rw [hD] at hD'; simpa using hD'
  exact ⟨es, hD, hpw, fun p hp => by obtain ⟨v, hv⟩ := hko p hp; obtain ⟨x, _, hx, _⟩ := Maps.keyOf_i64 Try.underlying2 hv; exact ⟨x, hx⟩⟩
set_option maxRecDepth 100000 in
set_option maxHeartbeats 1000000 in
theorem implBusiestDay (xs : List Int) (lo hi : Nat) (v : Value) (w : World) (hv : Sl lo hi w 1 v xs.length (flat encI xs)) (hn : xs.length ≤ 1048576) :
    Calls Try.prog 29 #[v] w fun e w' => e = .returned (.tuple #[.int .i64 (busyR xs).1, .int .i64 (busyR xs).2.1, .int .i64 (busyR xs).2.2]) ∧ Ext w w' := by
  obtain ⟨hhi, _, A, c, rfl, hnc, hcm, hcell⟩ := id hv
  have hmm := @run_makeMap Try.prog
  go_enter Try.func29, Try.ntmps29
  cases hd : daysB xs
  · rw [busyR_a hd]
    go_wp2_with (go_at_call 38; refine (cv (planDays xs lo hi _ _ hv hn) (vb hd)).mono ?_; rintro e w1 ⟨rfl, hE1⟩)
    go_ret3; exact ⟨rfl, hE1⟩
  · by_cases h0 : xs.length = 0
    · rw [busyR_b hd h0]
      have H0 := hid h0
      clear h0
      go_wp2_with (go_at_call 38; refine (cv (planDays xs lo hi _ _ hv hn) (vb hd)).mono ?_; rintro e w1 ⟨rfl, hE1⟩; have h0 := H0.out)
      go_ret3; exact ⟨rfl, hE1⟩
    · have HD := hid hd
      have h0b : ((xs.length : Int) == 0) = false := by rw [beq_eq_false_iff_ne]; omega
      have HN : xs.length ≤ 16 := by unfold daysB at hd; rw [Bool.and_eq_true] at hd; simpa using hd.1
      go_wp2_with (go_at_call 38; refine (cv (planDays xs lo hi _ _ hv hn) (vb hd)).mono ?_; rintro e w1 ⟨rfl, hE1⟩)
      clear hd
      obtain ⟨b', off, rfl, hb1, hb2, hc⟩ := hcell (by omega)
      have hbw : b' < w.heap.size := Nat.lt_of_lt_of_le hb2 hhi
      have HX : Hid (∀ W, Ext w W → ∀ k (hk : k < xs.length), W.cell? ⟨b', off + k, none⟩ = some (.int .i64 xs[k])) := fun W hE k hk => (hE.cell (p := ⟨b', off + k, none⟩) hbw).trans (cellsI hc k hk)
      clear hcell hc hv
      go_loopw [23] (fun i wr => ∃ (k : Nat) (D : DataW Unit), k ≤ xs.length ∧ i = .int .i64 k ∧ wr.ownsMap Try.prog 2 (plainElem Try.prog 2) w1.heap.size k D ∧ Hid (CntD D (xs.take k)) ∧ Ext w1 wr) (fun i _ => xs.length - (RowKit.intOf i).toNat)
      case atStart => exact ⟨0, .map [], Nat.zero_le _, rfl, World.ownsMap_made _ _ _ _, hid CntD.zero, Ext.new _ _⟩
      case round =>
        obtain ⟨k, D, hk, rfl, hown, HC, hE⟩ := hrel
        by_cases hlt : k < xs.length
        · have c0 := HX.out wr (Ext.tr hE1 hE) k hlt
          have hbd := daysB_bd HD.out k hlt
          have hcn := cnt_nn (xs.take k) xs[k]
          have hcl : (xs.take k).length ≤ xs.length := by simp; omega
          have hkey : keyOf Try.prog 2 (.int .i64 xs[k]) = some (.int .i64 xs[k]) := keyOf_int_mk Try.underlying2 (WalkArith.wf_i64 (by omega))
          go_wp2_with (first
            | (at_lookup; refine wpList_lookup_own_int _ rfl _ _ 69 rfl 2 2 .i64 lawK Try.underlying69 Try.underlying2 (zeroK _) w1.heap.size k _ rfl hown _ _ rfl hkey ?_; intro c hat hwc; obtain rfl := HC.out.val hat)
            | (at_mapUpdate; refine wpList_mapUpdate_own _ rfl _ _ _ 69 rfl 2 2 lawK Try.underlying69 _ w1.heap.size k _ rfl hown (by unfold maxLen; omega) _ _ _ rfl rfl hkey _ [] (plainElem_int Try.underlying2 (WalkArith.wf_i64 (by omega))) ?_; intro w2 hown2 hgrow2)
            | go_in)
          go_roundw
          case rel => exact ⟨k + 1, _, by omega, by go_num, hown2, hid (by rw [List.take_succ_eq_append_getElem hlt]; exact HC.out.step hown.isMap xs[k]), Below.grown hE hgrow2 hE.size (fun j hj => by cases hj; exact Nat.le_refl _)⟩
          case measure => simp [RowKit.intOf]; omega
        · obtain rfl : k = xs.length := by omega
          have HC2 := hid (show CntD D xs by have := HC.out; rwa [List.take_length] at this)
          clear HC HX
          have hsz := hown.size_le
          have HM := hid (mapKeys hown)
          have HS := hid (Try.slices_SortedI w1.heap.size xs.length D (plainElem Try.prog 2) wr hown (by unfold maxLen; omega) (by omega))
          go_wp2_with (first
            | (go_at_call 53; refine (Try.maps_KeysI _ _).mono ?_; rintro e w' ⟨rfl, rfl⟩)
            | (go_at_call 52; refine HS.out.mono ?_; rintro e w3 ⟨v3, ss, rfl, hS, hrow, _, hb3⟩; obtain ⟨hlen, hmem, hpw⟩ := keys_sorted HC2.out HM.out hS; generalize (ss.mergeSort fun x y => decide (x ≤ y)) = ks at hlen hmem hpw hrow; rw [flatZ, ← hlen] at hrow; obtain ⟨hhi3, _, A3, c3, rfl, hnc3, hcm3, hcell3⟩ := Sl.of_own hrow (by have := keys_len HM.out hS; unfold maxLen; omega)))
          obtain ⟨wo, rfl⟩ : ∃ wo : World, wo = wr := ⟨_, rfl⟩
          have hE3 : Ext wo w3 := Ext.tr (Ext.new _ _) hb3
          have HO := hid (fun (W : World) (hW : Ext w3 W) => mapE hown (Ext.tr hE3 hW))
          have hks : 0 < ks.length := List.length_pos_of_mem ((hmem xs[0]).2 (List.getElem_mem (Nat.pos_of_ne_zero h0)))
          obtain ⟨bk, ok, rfl, _, hbk, hck⟩ := hcell3 hks
          have HK : Hid (∀ W, Ext w3 W → ∀ j (hj : j < ks.length), W.cell? ⟨bk, ok + j, none⟩ = some (.int .i64 ks[j])) := fun W hW j hj => (hW.cell (p := ⟨bk, ok + j, none⟩) hbk).trans (cellsI hck j hj)
          have hkn : ks.length ≤ 16 := by have := keys_len HM.out hS; omega
          clear hck
          clear hcell3 hrow hown hb3 hS HS
          go_loopw [8, 9, 36] (fun b m i wr => ∃ (j : Nat) (z y : Int), j ≤ ks.length ∧ i = .int .i64 j ∧ b = .int .i64 z ∧ m = .int .i64 y ∧ Hid (BusyTo xs (ks.take j) z y) ∧ Ext w3 wr) (fun _ _ i _ => ks.length - (RowKit.intOf i).toNat)
          case atStart => exact ⟨0, 0, 0, Nat.zero_le _, rfl, rfl, rfl, hid (BusyTo.zero xs), Below.refl _ _⟩
          case round =>
            obtain ⟨j, z, y, hj, rfl, rfl, rfl, HB, hE4⟩ := hrel
            have hyb := HB.out.bd
            by_cases hlt2 : j < ks.length
            · have hc3 := HK.out wr hE4 j hlt2
              have hmj := (hmem ks[j]).1 (List.getElem_mem hlt2)
              obtain ⟨q, hq, hqe⟩ := List.mem_iff_getElem.1 hmj
              have hbd := daysB_bd HD.out q hq
              rw [hqe] at hbd
              have hcn := cnt_nn xs ks[j]
              have hround := busy_round hlt2 HB.out hmem hpw
              have hkey : keyOf Try.prog 2 (.int .i64 ks[j]) = some (.int .i64 ks[j]) := keyOf_int_mk Try.underlying2 (WalkArith.wf_i64 (by omega))
              by_cases hy : y < cnt xs ks[j]
              · have HR := hid (hround.1 hy)
                clear hround
                go_wp2_with (first
                  | (at_lookup; refine wpList_lookup_own_int _ rfl _ _ 69 rfl 2 2 .i64 lawK Try.underlying69 Try.underlying2 (zeroK _) w1.heap.size xs.length _ rfl (HO.out _ hE4) _ _ rfl hkey ?_; intro c hat hwc; obtain rfl := HC2.out.val hat)
                  | go_in)
                have hl : ∀ n, (Instr.lookup 69 (.map (some w1.heap.size)) (.int .i64 ks[j]) false).run Try.prog (wr.drewN n) = .ok (.int .i64 (cnt xs ks[j])) (wr.drewN n) := fun n => by
                  obtain ⟨c', hr, hat', _⟩ := (HO.out (wr.drewN n) (Ext.tr hE4 (Ext.drewN _ n))).lookup_int lawK Try.underlying69 Try.underlying2 (zeroK _) hkey
                  obtain rfl := HC2.out.val hat'
                  exact hr
                go_quiet (fail)
                go_wp2
                go_roundw
                case rel => exact ⟨j + 1, _, _, by omega, by go_num, rfl, rfl, HR, Ext.tr hE4 (Ext.drewN _ _)⟩
                case measure => simp [RowKit.intOf]; omega
              · have HR := hid (hround.2 hy)
                clear hround
                go_wp2_with (first
                  | (at_lookup; refine wpList_lookup_own_int _ rfl _ _ 69 rfl 2 2 .i64 lawK Try.underlying69 Try.underlying2 (zeroK _) w1.heap.size xs.length _ rfl (HO.out _ hE4) _ _ rfl hkey ?_; intro c hat hwc; obtain rfl := HC2.out.val hat)
                  | go_in)
                go_roundw
                case rel => exact ⟨j + 1, _, _, by omega, by go_num, rfl, rfl, HR, hE4⟩
                case measure => simp [RowKit.intOf]; omega
            · obtain rfl : j = ks.length := by omega
              have hend := busy_end HB.out hmem
              have HF := hid (show busyR xs = (z, y, 0) by rw [busyR_c HD.out h0, hend.1, hend.2])
              go_wp2
              go_ret3
              exact ⟨by rw [HF.out]; rfl, Ext.tr hE1 (Ext.tr hE (Ext.tr hE3 hE4))⟩
end Go.Proofs.Ytcocdigcmcpefaa
