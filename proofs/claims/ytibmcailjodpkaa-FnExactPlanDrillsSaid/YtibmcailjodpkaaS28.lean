/- Contracts of PlanDrills in both packages: the public functions. -/
import Derived.Test.YtibmcailjodpkaaK28
namespace Go.Proofs.Ytibmcailjodpkaa
set_option linter.unusedVariables false
open Go.RowKit
set_option maxRecDepth 100000 in
set_option maxHeartbeats 8000000 in
theorem specPlanDrills (xs : List Drill) (cs : List ByteArray) (f iv : Int) (lo hi lo2 hi2 : Nat) (v v2 : Value) (w : World) (hv : Sl lo hi w 5 v xs.length (flat Drill.enc xs)) (hs : ∀ x ∈ xs, x.crew.size ≤ maxLen) (hn : xs.length ≤ 1048576) (hv2 : Sl lo2 hi2 w 1 v2 cs.length (flat encT cs)) (hs2 : ∀ x ∈ cs, x.size ≤ maxLen) (hn2 : cs.length ≤ 1048576) :
    Calls Try.prog 33 #[v, v2, .int .i64 f, .int .i64 iv] w fun e w' => (∃ v', e = .returned (.tuple #[v', .int .i64 (planR xs cs f iv).2]) ∧ Own w.heap.size w'.heap.size w' 2 1 v' (planR xs cs f iv).1.length (flat encI (planR xs cs f iv).1)) ∧ Ext w w' := by
  cases h1 : drillsB xs
  · have HQ := hid (planR_no cs f iv h1)
    go_enter Try.func33, Try.ntmps33
    go_wp2_with (first | (go_at_call 43; refine (cv (l28Ok xs lo hi _ _ hv hs hn) (vb h1)).mono ?_; rintro e w1 ⟨rfl, hE⟩))
    go_ret2
    exact ⟨⟨_, by rw [HQ.out]; rfl, by rw [HQ.out]; exact Own.nil _ _ hE⟩, hE⟩
  cases h2 : namesB cs
  · have HQ := hid (planR_range h1 (show argsB cs f iv = false by unfold argsB; rw [h2]; rfl))
    go_enter Try.func33, Try.ntmps33
    go_wp2_with (first | (go_at_call 43; refine (cv (l28Ok xs lo hi _ _ hv hs hn) (vb h1)).mono ?_; rintro e w1 ⟨rfl, hE⟩) | (go_at_call 53; refine (cv (l28Names cs lo2 hi2 _ _ (hv2.ext hE) hs2 hn2) (vb h2)).mono ?_; rintro e w2 ⟨rfl, hE2⟩))
    replace hE := Ext.tr hE hE2
    go_ret2
    exact ⟨⟨_, by rw [HQ.out]; rfl, by rw [HQ.out]; exact Own.nil _ _ hE⟩, hE⟩
  cases h3 : inB f 0 100000
  · have HQ := hid (planR_range h1 (show argsB cs f iv = false by unfold argsB; rw [h2, h3]; rfl))
    go_enter Try.func33, Try.ntmps33
    go_wp2_with (first | (go_at_call 43; refine (cv (l28Ok xs lo hi _ _ hv hs hn) (vb h1)).mono ?_; rintro e w1 ⟨rfl, hE⟩) | (go_at_call 53; refine (cv (l28Names cs lo2 hi2 _ _ (hv2.ext hE) hs2 hn2) (vb h2)).mono ?_; rintro e w2 ⟨rfl, hE2⟩) | (go_at_call 54; refine (cv (l28Day _ _) (vb h3)).mono ?_; rintro e w' ⟨rfl, rfl⟩))
    replace hE := Ext.tr hE hE2
    go_ret2
    exact ⟨⟨_, by rw [HQ.out]; rfl, by rw [HQ.out]; exact Own.nil _ _ hE⟩, hE⟩
  cases h4 : inB iv 1 1000
  · have HQ := hid (planR_range h1 (show argsB cs f iv = false by unfold argsB; rw [h2, h3, h4]; rfl))
    go_enter Try.func33, Try.ntmps33
    go_wp2_with (first | (go_at_call 43; refine (cv (l28Ok xs lo hi _ _ hv hs hn) (vb h1)).mono ?_; rintro e w1 ⟨rfl, hE⟩) | (go_at_call 53; refine (cv (l28Names cs lo2 hi2 _ _ (hv2.ext hE) hs2 hn2) (vb h2)).mono ?_; rintro e w2 ⟨rfl, hE2⟩) | (go_at_call 54; refine (cv (l28Day _ _) (vb h3)).mono ?_; rintro e w' ⟨rfl, rfl⟩) | (go_at_call 55; refine (cv (l28Interval _ _) (vb h4)).mono ?_; rintro e w' ⟨rfl, rfl⟩))
    replace hE := Ext.tr hE hE2
    go_ret2
    exact ⟨⟨_, by rw [HQ.out]; rfl, by rw [HQ.out]; exact Own.nil _ _ hE⟩, hE⟩
  have hargs : argsB cs f iv = true := by unfold argsB; rw [h2, h3, h4]; rfl
  have hl8 := names_len h2
  have hl32 : xs.length ≤ 32 := by unfold drillsB at h1; simp only [Bool.and_eq_true, decide_eq_true_eq] at h1; exact h1.1
  have hf : 0 ≤ f ∧ f ≤ 100000 := by unfold inB at h3; simp only [Bool.and_eq_true, decide_eq_true_eq] at h3; exact h3
  have hi' : 1 ≤ iv ∧ iv ≤ 1000 := by unfold inB at h4; simp only [Bool.and_eq_true, decide_eq_true_eq] at h4; exact h4
  have HF := hid hf
  have HI := hid hi'
  obtain ⟨hf0, hf1⟩ := hf
  obtain ⟨hi0, hi1⟩ := hi'
  have hv0 := hv
  have hv20 := hv2
  obtain ⟨hhi, _, A, c, rfl, hnc, hcm, hcell⟩ := hv0
  obtain ⟨hhi2, _, A2, c2, rfl, hnc2, hcm2, hcell2⟩ := hv20
  go_enter Try.func33, Try.ntmps33
  go_wp2_with (first | (go_at_call 43; refine (cv (l28Ok xs lo hi _ _ hv hs hn) (vb h1)).mono ?_; rintro e w1 ⟨rfl, hE⟩) | (go_at_call 53; refine (cv (l28Names cs lo2 hi2 _ _ (hv2.ext hE) hs2 hn2) (vb h2)).mono ?_; rintro e w2 ⟨rfl, hE2⟩) | (go_at_call 54; refine (cv (l28Day _ _) (vb h3)).mono ?_; rintro e w' ⟨rfl, rfl⟩) | (go_at_call 55; refine (cv (l28Interval _ _) (vb h4)).mono ?_; rintro e w' ⟨rfl, rfl⟩))
  replace hE := Ext.tr hE hE2
  have hz := hE.size
  go_loopw [10, 11] (fun t i wr => ∃ k : Nat, k ≤ xs.length ∧ i = .int .i64 k ∧ wr.ownsRow w.heap.size 2 1 t (days xs k).length (flat encI (days xs k)) ∧ Ext w wr) (fun _ i _ => xs.length - (intOf i).toNat)
  case atStart => exact ⟨0, by omega, rfl, own_empty _ _ _ _ hz, Ext.tr hE (Ext.new _ _)⟩
  case round =>
    obtain ⟨k, hk, rfl, hown, hE3⟩ := hrel
    by_cases hlt : k < xs.length
    · obtain ⟨b, off, rfl, hb1, hb2, hc⟩ := hcell (by omega)
      have hbw : b < w.heap.size := by omega
      obtain ⟨c0, c1, c2, c3, c4⟩ := Drill.at_of hc hE3 hbw k hlt
      clear hc
      have HX := hid (days_snoc hlt)
      have hz3 := hE3.size
      have hil := days_len xs k
      go_wp2_with (at_builtin; refine wp_append1 wr rfl (.tmp 39) (.tmp 45) _ rfl w.heap.size 2 1 8 _ Try.underlying32 infoInt rfl (by omega) (by omega) _ _ _ hown rfl [.int .i64 xs[k].day] rfl (by simp [Value.oneCell']) _ rfl rfl (by omega) hz3 ?_; intro v' w' ho' hb')
      go_roundw
      case rel => exact ⟨k + 1, by omega, by go_num, by rw [HX.out, flat_snoc, List.length_append]; exact ho', hE3.trans hb'⟩
      case measure => simp [intOf]; omega
    · obtain rfl : k = xs.length := by omega
      rw [days_all] at hown
      have hz3 := hE3.size
      have HOW := hid hown
      have HZ3 := hid hz3
      clear hown hz3
      go_wp2
      go_loopw [10, 12, 13] (fun t u i wr => ∃ (k : Nat) (ps : List Int), k ≤ cs.length ∧ i = .int .i64 k ∧ Hid (PlanOk xs cs f iv k ps) ∧ wr.ownsRow w.heap.size 2 1 t (xs.map Drill.day ++ ps).length (flat encI (xs.map Drill.day ++ ps)) ∧ wr.ownsRow w.heap.size 2 1 u ps.length (flat encI ps) ∧ Apart t u ∧ Ext w wr) (fun _ _ i _ => cs.length - (intOf i).toNat)
      case atStart => exact ⟨0, [], by omega, rfl, hid PlanOk.zero, by rw [List.append_nil]; exact ownE HOW.out (Ext.new _ _), own_empty _ _ _ _ HZ3.out, (Apart.new HOW.out _ (fun g h => by cases h; exact Nat.le_refl _)).symm, Ext.tr hE3 (Ext.new _ _)⟩
      case round =>
        obtain ⟨k, ps, hk, rfl, HP, ht, hu, hap, hE4⟩ := hrel
        by_cases hlt : k < cs.length
        · obtain ⟨b2, off2, rfl, hb21, hb22, hc2⟩ := hcell2 (by omega)
          have hb2w : b2 < w.heap.size := by omega
          have y0 := ((bcell hE4).1 _ _ hb2w).trans (cellsT hc2 k hlt)
          clear hc2
          have HLN := hid (show (xs.map Drill.day ++ ps).length ≤ 2097152 by have := HP.out.2.1; simp; omega)
          have HPN := hid (show ps.length ≤ 2097152 by have := HP.out.2.1; omega)
          have HS0 := hid (startTo_bd (crew := cs[k]) h1 HF.out HI.out xs.length (Nat.le_refl _))
          have hblen := ixs_len (ofP xs cs[k]) xs.length
          by_cases hne : (ixs (ofP xs cs[k]) xs.length).length = 0
          · have HD := hid (start_none (f := f) (iv := iv) h1 hne)
            have H2 : ((ixs (ofP xs cs[k]) xs.length).length : Int) = 0 := by omega
            clear hne
            go_wp2_with (first | (go_at_call 48; refine (l28Of xs cs[k] lo hi _ _ (hv.ext hE4) hn).mono ?_; rintro e w3 ⟨⟨v', rfl, hO⟩, hE5⟩; obtain ⟨_, _, A5, c5, rfl, _, _, _⟩ := hO.sl; clear hO))
            have hT3 := Ext.tr hE4 hE5
            have hz3 := hT3.size
            have ht2 := ownE ht hE5
            have hu2 := ownE hu hE5
            have HSL := hid (Own.of ht2 (by have := HP.out.2.1; simp; omega)).sl
            go_loop [14] (fun dv => ∃ d : Int, dv = .int .i64 d ∧ Hid (Look xs ps (startTo xs cs[k] f iv xs.length) d)) (fun dv => (102000 - intOf dv).toNat)
            case atStart => exact ⟨_, rfl, hid (by rw [HD.out]; exact Look.zero (by have := HD.out; omega))⟩
            case round =>
              obtain ⟨d, rfl, hL⟩ := hrel
              obtain ⟨d0, d1⟩ := hL.out.bd HS0.out.1
              cases hT : takenB xs ps d
              rotate_left
              · go_wp2_with (go_at_call 63; refine (cv (l00Has (xs.map Drill.day ++ ps) d _ _ _ _ HSL.out HLN.out) (vb ((takenB_app xs ps d).trans hT))).mono ?_; rintro e w' ⟨rfl, rfl⟩)
                go_round
                case rel => exact ⟨d + 1, rfl, hid (hL.out.next HS0.out.1 h1 HP.out.2.2 hT)⟩
                case measure => simp [intOf]; omega
              · have HDY := hid (show dayOf xs ps cs[k] f iv = d from hL.out.stop hT)
                cases h5 : inB d 0 100000
                · have h5' : ¬ d ≤ 100000 := by unfold inB at h5; simp only [Bool.and_eq_false_iff, decide_eq_false_iff_not] at h5; omega
                  have HQ := hid (planR_state h1 hargs (k + 1) (by omega) (planTo_no hlt HP.out.1 (by rw [HDY.out]; exact h5')))
                  go_wp2_with (first | (go_at_call 63; refine (cv (l00Has (xs.map Drill.day ++ ps) d _ _ _ _ HSL.out HLN.out) (vb ((takenB_app xs ps d).trans hT))).mono ?_; rintro e w' ⟨rfl, rfl⟩) | (go_at_call 54; refine (cv (l28Day _ _) (vb h5)).mono ?_; rintro e w' ⟨rfl, rfl⟩))
                  go_ret2
                  exact ⟨⟨_, by rw [HQ.out]; rfl, by rw [HQ.out]; exact Own.nil _ _ hT3⟩, hT3⟩
                · have h5' : d ≤ 100000 := by unfold inB at h5; simp only [Bool.and_eq_true, decide_eq_true_eq] at h5; omega
                  go_wp2_with (first | (go_at_call 63; refine (cv (l00Has (xs.map Drill.day ++ ps) d _ _ _ _ HSL.out HLN.out) (vb ((takenB_app xs ps d).trans hT))).mono ?_; rintro e w' ⟨rfl, rfl⟩) | (go_at_call 54; refine (cv (l28Day _ _) (vb h5)).mono ?_; rintro e w' ⟨rfl, rfl⟩) | (at_builtin; refine wp_append2 w3 _ rfl rfl (.tmp 86) (.tmp 88) _ rfl w.heap.size 2 1 8 _ Try.underlying32 infoInt rfl (by omega) (by omega) _ _ _ ht2 rfl [.int .i64 d] rfl (by simp [Value.oneCell']) _ rfl rfl HLN.out hz3 w.heap.size 2 1 _ _ _ hu2 hap ?_; intro t' w4 ht4 hb4 hu4 hap4) | (at_builtin; refine wp_append2 w4 _ rfl rfl (.tmp 90) (.tmp 92) _ rfl w.heap.size 2 1 8 _ Try.underlying32 infoInt rfl (by omega) (by omega) _ _ _ hu4 rfl [.int .i64 d] rfl (by simp [Value.oneCell']) _ rfl rfl HPN.out (Nat.le_trans hz3 hb4.size) w.heap.size 2 1 _ _ _ ht4 hap4.symm ?_; intro u' w5 hu5 hb5 ht5 hap5))
                  go_roundw
                  case rel => exact ⟨k + 1, ps ++ [d], by omega, by go_num, hid (HP.out.succ hlt HDY.out h5'), by rw [← List.append_assoc, flat_snoc, List.length_append]; exact ht5, by rw [flat_snoc, List.length_append]; exact hu5, hap5.symm, (hT3.trans hb4).trans hb5⟩
                  case measure => simp [intOf]; omega
          · obtain ⟨i1, hi1', e1⟩ := ofAt_lt xs cs[k] (lastJ xs cs[k]) (by unfold lastJ; omega)
            have HD := hid (start_last (f := f) (iv := iv) h1 hne i1 hi1' e1)
            have E1 := hid e1
            have hd1 := drill_day h1 i1 hi1'
            obtain ⟨dd0, dd1⟩ := hd1
            have H2 : ¬ ((ixs (ofP xs cs[k]) xs.length).length : Int) = 0 := by omega
            have H3 : (0 : Int) < ((ixs (ofP xs cs[k]) xs.length).length : Int) := by omega
            have q1 : ((ixs (ofP xs cs[k]) xs.length).length : Int) - 1 < (ixs (ofP xs cs[k]) xs.length).length := by omega
            have ii1 : (i1 : Int) < xs.length := by omega
            obtain ⟨b, off, rfl, hb1, hb2, hc⟩ := hcell (by omega)
            have hbw : b < w.heap.size := by omega
            clear e1
            go_wp2_with (first | (go_at_call 48; refine (l28Of xs cs[k] lo hi _ _ (hv.ext hE4) hn).mono ?_; rintro e w3 ⟨⟨v', rfl, hO⟩, hE5⟩; obtain ⟨bo, offo, co, rfl, g0, g1⟩ := own_cells hO hne; clear hO; rw [E1.out] at g1; obtain ⟨x0, _, _, _, _⟩ := Drill.at_of hc (Ext.tr hE4 hE5) hbw i1 hi1') | (go_at_call 62; refine (l00Max _ _ _).mono ?_; rintro e w' ⟨rfl, rfl⟩))
            have hT3 := Ext.tr hE4 hE5
            have hz3 := hT3.size
            have ht2 := ownE ht hE5
            have hu2 := ownE hu hE5
            clear hc
            have HSL := hid (Own.of ht2 (by have := HP.out.2.1; simp; omega)).sl
            go_loop [14] (fun dv => ∃ d : Int, dv = .int .i64 d ∧ Hid (Look xs ps (startTo xs cs[k] f iv xs.length) d)) (fun dv => (102000 - intOf dv).toNat)
            case atStart => exact ⟨_, rfl, hid (by rw [HD.out]; exact Look.zero (by have := HD.out; have := HS0.out; omega))⟩
            case round =>
              obtain ⟨d, rfl, hL⟩ := hrel
              obtain ⟨d0, d1⟩ := hL.out.bd HS0.out.1
              cases hT : takenB xs ps d
              rotate_left
              · go_wp2_with (go_at_call 63; refine (cv (l00Has (xs.map Drill.day ++ ps) d _ _ _ _ HSL.out HLN.out) (vb ((takenB_app xs ps d).trans hT))).mono ?_; rintro e w' ⟨rfl, rfl⟩)
                go_round
                case rel => exact ⟨d + 1, rfl, hid (hL.out.next HS0.out.1 h1 HP.out.2.2 hT)⟩
                case measure => simp [intOf]; omega
              · have HDY := hid (show dayOf xs ps cs[k] f iv = d from hL.out.stop hT)
                cases h5 : inB d 0 100000
                · have h5' : ¬ d ≤ 100000 := by unfold inB at h5; simp only [Bool.and_eq_false_iff, decide_eq_false_iff_not] at h5; omega
                  have HQ := hid (planR_state h1 hargs (k + 1) (by omega) (planTo_no hlt HP.out.1 (by rw [HDY.out]; exact h5')))
                  go_wp2_with (first | (go_at_call 63; refine (cv (l00Has (xs.map Drill.day ++ ps) d _ _ _ _ HSL.out HLN.out) (vb ((takenB_app xs ps d).trans hT))).mono ?_; rintro e w' ⟨rfl, rfl⟩) | (go_at_call 54; refine (cv (l28Day _ _) (vb h5)).mono ?_; rintro e w' ⟨rfl, rfl⟩))
                  go_ret2
                  exact ⟨⟨_, by rw [HQ.out]; rfl, by rw [HQ.out]; exact Own.nil _ _ hT3⟩, hT3⟩
                · have h5' : d ≤ 100000 := by unfold inB at h5; simp only [Bool.and_eq_true, decide_eq_true_eq] at h5; omega
                  go_wp2_with (first | (go_at_call 63; refine (cv (l00Has (xs.map Drill.day ++ ps) d _ _ _ _ HSL.out HLN.out) (vb ((takenB_app xs ps d).trans hT))).mono ?_; rintro e w' ⟨rfl, rfl⟩) | (go_at_call 54; refine (cv (l28Day _ _) (vb h5)).mono ?_; rintro e w' ⟨rfl, rfl⟩) | (at_builtin; refine wp_append2 w3 _ rfl rfl (.tmp 86) (.tmp 88) _ rfl w.heap.size 2 1 8 _ Try.underlying32 infoInt rfl (by omega) (by omega) _ _ _ ht2 rfl [.int .i64 d] rfl (by simp [Value.oneCell']) _ rfl rfl HLN.out hz3 w.heap.size 2 1 _ _ _ hu2 hap ?_; intro t' w4 ht4 hb4 hu4 hap4) | (at_builtin; refine wp_append2 w4 _ rfl rfl (.tmp 90) (.tmp 92) _ rfl w.heap.size 2 1 8 _ Try.underlying32 infoInt rfl (by omega) (by omega) _ _ _ hu4 rfl [.int .i64 d] rfl (by simp [Value.oneCell']) _ rfl rfl HPN.out (Nat.le_trans hz3 hb4.size) w.heap.size 2 1 _ _ _ ht4 hap4.symm ?_; intro u' w5 hu5 hb5 ht5 hap5))
                  go_roundw
                  case rel => exact ⟨k + 1, ps ++ [d], by omega, by go_num, hid (HP.out.succ hlt HDY.out h5'), by rw [← List.append_assoc, flat_snoc, List.length_append]; exact ht5, by rw [flat_snoc, List.length_append]; exact hu5, hap5.symm, (hT3.trans hb4).trans hb5⟩
                  case measure => simp [intOf]; omega
        · obtain rfl : k = cs.length := by omega
          have HQ := hid (planR_ok h1 hargs HP.out.1)
          go_wp2
          go_ret2
          exact ⟨⟨_, by rw [HQ.out]; rfl, by rw [HQ.out]; exact Own.of hu (by have := HP.out.2.1; show ps.length ≤ _; omega)⟩, hE4⟩
end Go.Proofs.Ytibmcailjodpkaa
