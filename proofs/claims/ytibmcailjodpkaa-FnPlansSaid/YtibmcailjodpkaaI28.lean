/- Contracts of PlanDrills in both packages: the program's function. -/
import Derived.Test.YtibmcailjodpkaaK28
namespace Go.Proofs.Ytibmcailjodpkaa
set_option linter.unusedVariables false
open Go.RowKit
theorem rowOne {W : World} {g t : Nat} {v0 : Value} (h : W.rowIs g t 1 (fun _ => v0)) (v : Value) : (W.setCell ⟨g, 0, none⟩ v).rowIs g t 1 (fun _ => v) :=
  (h.set 0 v).congr fun i hi => by
    have h0 : i = 0 := by omega
    simp [h0]
theorem rowBox (W : World) (t : Nat) (v : Value) : (W.alloc (.cells #[v] t)).rowIs W.heap.size t 1 (fun _ => v) :=
  World.rowIs_alloc W #[v] t _ fun i hi => by
    have h0 : i = 0 := by simpa using hi
    simp [h0]
theorem rowOneA {W : World} {g t : Nat} {v0 : Value} (h : W.rowIs g t 1 (fun _ => v0)) (o : Obj) (v v' : Value) (e : v = v') : ((W.setCell ⟨g, 0, none⟩ v).alloc o).rowIs g t 1 (fun _ => v') := e ▸ (rowOne h v).alloc o
theorem rowOneE {W W' : World} {g t : Nat} {v0 : Value} (h : W.rowIs g t 1 (fun _ => v0)) (hE : Ext W W') (v : Value) : (W'.setCell ⟨g, 0, none⟩ v).rowIs g t 1 (fun _ => v) := rowOne (h.of_block (hE.block _ h.lt)) v
set_option maxRecDepth 100000 in
set_option maxHeartbeats 8000000 in
theorem implPlanDrills (xs : List Drill) (cs : List ByteArray) (f iv : Int) (lo hi lo2 hi2 : Nat) (v v2 : Value) (w : World) (hv : Sl lo hi w 5 v xs.length (flat Drill.enc xs)) (hs : ∀ x ∈ xs, x.crew.size ≤ maxLen) (hn : xs.length ≤ 1048576) (hv2 : Sl lo2 hi2 w 1 v2 cs.length (flat encT cs)) (hs2 : ∀ x ∈ cs, x.size ≤ maxLen) (hn2 : cs.length ≤ 1048576) :
    Calls Try.prog 34 #[v, v2, .int .i64 f, .int .i64 iv] w fun e w' => (∃ v', e = .returned (.tuple #[v', .int .i64 (planR xs cs f iv).2]) ∧ Own w.heap.size w'.heap.size w' 2 1 v' (planR xs cs f iv).1.length (flat encI (planR xs cs f iv).1)) ∧ Ext w w' := by
  cases h1 : drillsB xs
  · have HQ := hid (planR_no cs f iv h1)
    go_enter Try.func34, Try.ntmps34
    go_wp2_with (first | (go_at_call 14; refine (cv (implValidDrills xs lo hi _ _ hv hs hn) (vb h1)).mono ?_; rintro e w1 ⟨rfl, hE⟩))
    go_ret2
    exact ⟨⟨_, by rw [HQ.out]; rfl, by rw [HQ.out]; exact Own.nil _ _ hE⟩, hE⟩
  cases h2 : namesB cs
  · have HQ := hid (planR_range h1 (show argsB cs f iv = false by unfold argsB; rw [h2]; rfl))
    go_enter Try.func34, Try.ntmps34
    go_wp2_with (first | (go_at_call 14; refine (cv (implValidDrills xs lo hi _ _ hv hs hn) (vb h1)).mono ?_; rintro e w1 ⟨rfl, hE⟩) | (go_at_call 56; refine (cv (crewNames cs lo2 hi2 _ _ (hv2.ext hE) hs2 hn2) (vb h2)).mono ?_; rintro e w' ⟨rfl, rfl⟩))
    go_ret2
    exact ⟨⟨_, by rw [HQ.out]; rfl, by rw [HQ.out]; exact Own.nil _ _ hE⟩, hE⟩
  cases h3 : inB f 0 100000
  · have HQ := hid (planR_range h1 (show argsB cs f iv = false by unfold argsB; rw [h2, h3]; rfl))
    go_enter Try.func34, Try.ntmps34
    go_wp2_with (first | (go_at_call 14; refine (cv (implValidDrills xs lo hi _ _ hv hs hn) (vb h1)).mono ?_; rintro e w1 ⟨rfl, hE⟩) | (go_at_call 56; refine (cv (crewNames cs lo2 hi2 _ _ (hv2.ext hE) hs2 hn2) (vb h2)).mono ?_; rintro e w' ⟨rfl, rfl⟩) | (go_at_call 51; refine (within _ _ _ _).mono ?_; rintro e w' ⟨rfl, rfl⟩; rw [h3]))
    go_ret2
    exact ⟨⟨_, by rw [HQ.out]; rfl, by rw [HQ.out]; exact Own.nil _ _ hE⟩, hE⟩
  cases h4 : inB iv 1 1000
  · have HQ := hid (planR_range h1 (show argsB cs f iv = false by unfold argsB; rw [h2, h3, h4]; rfl))
    go_enter Try.func34, Try.ntmps34
    go_wp2_with (first | (go_at_call 14; refine (cv (implValidDrills xs lo hi _ _ hv hs hn) (vb h1)).mono ?_; rintro e w1 ⟨rfl, hE⟩) | (go_at_call 56; refine (cv (crewNames cs lo2 hi2 _ _ (hv2.ext hE) hs2 hn2) (vb h2)).mono ?_; rintro e w' ⟨rfl, rfl⟩) | (go_at_call 51; refine (within _ _ _ _).mono ?_; rintro e w' ⟨rfl, rfl⟩; first | rw [h3] | rw [h4]))
    go_ret2
    exact ⟨⟨_, by rw [HQ.out]; rfl, by rw [HQ.out]; exact Own.nil _ _ hE⟩, hE⟩
  have hargs : argsB cs f iv = true := by unfold argsB; rw [h2, h3, h4]; rfl
  have hl8 := names_len h2
  have hl32 : xs.length ≤ 32 := by unfold drillsB at h1; simp only [Bool.and_eq_true, decide_eq_true_eq] at h1; exact h1.1
  have hf : 0 ≤ f ∧ f ≤ 100000 := by unfold inB at h3; simp only [Bool.and_eq_true, decide_eq_true_eq] at h3; exact h3
  have hi' : 1 ≤ iv ∧ iv ≤ 1000 := by unfold inB at h4; simp only [Bool.and_eq_true, decide_eq_true_eq] at h4; exact h4
  have HF := hid hf
  have HI := hid hi'
  obtain ⟨hf0, hf1⟩ := hf
  obtain ⟨hi0, hi1⟩ := hi'
  have hv0 := hv
  have hv20 := hv2
  obtain ⟨hhi, _, A, c, rfl, hnc, hcm, hcell⟩ := hv0
  obtain ⟨hhi2, _, A2, c2, rfl, hnc2, hcm2, hcell2⟩ := hv20
  go_enter Try.func34, Try.ntmps34
  go_wp2_with (first | (go_at_call 14; refine (cv (implValidDrills xs lo hi _ _ hv hs hn) (vb h1)).mono ?_; rintro e w1 ⟨rfl, hE⟩) | (go_at_call 56; refine (cv (crewNames cs lo2 hi2 _ _ (hv2.ext hE) hs2 hn2) (vb h2)).mono ?_; rintro e w' ⟨rfl, rfl⟩) | (go_at_call 51; refine (within _ _ _ _).mono ?_; rintro e w' ⟨rfl, rfl⟩; first | rw [h3] | rw [h4]))
  have hz := hE.size
  go_loopw [10, 36] (fun u i wr => ∃ (k : Nat) (ps : List Int), k ≤ cs.length ∧ i = .int .i64 k ∧ Hid (PlanOk xs cs f iv k ps) ∧ wr.ownsRow w.heap.size 2 1 u ps.length (flat encI ps) ∧ Ext w wr) (fun _ i _ => cs.length - (intOf i).toNat)
  case atStart => exact ⟨0, [], by omega, rfl, hid PlanOk.zero, World.ownsRow_nil _ _ _ _, hE⟩
  case round =>
    obtain ⟨k, ps, hk, rfl, HP, hu, hE3⟩ := hrel
    rename World => wr0
    by_cases hlt : k < cs.length
    · obtain ⟨b2, off2, rfl, hb21, hb22, hc2⟩ := hcell2 (by omega)
      have hb2w : b2 < w.heap.size := by omega
      have y0 := ((bcell hE3).1 _ _ hb2w).trans (cellsT hc2 k hlt)
      clear hc2
      have HPN := hid (show ps.length ≤ 2097152 by have := HP.out.2.1; omega)
      have HS0 := hid (startTo_bd (crew := cs[k]) h1 HF.out HI.out)
      have HZ3 := hid hE3.size
      have HU := hid hu
      clear hu
      go_wp2
      go_loopw [43] (fun i wr => ∃ q : Nat, q ≤ xs.length ∧ i = .int .i64 q ∧ wr.rowIs wr0.heap.size 2 1 (fun _ => .int .i64 (startTo xs cs[k] f iv q)) ∧ Ext wr0 wr) (fun i _ => xs.length - (intOf i).toNat)
      case atStart => exact ⟨0, by omega, rfl, rowBox _ _ _, Ext.new _ _⟩
      case round =>
        obtain ⟨q, hq, rfl, hR, hEq⟩ := hrel
        by_cases hltq : q < xs.length
        · obtain ⟨b, off, rfl, hb1, hb2, hc⟩ := hcell (by omega)
          have hbw : b < w.heap.size := by omega
          obtain ⟨c0, c1, c2, c3, c4⟩ := Drill.at_of hc (Ext.tr hE3 hEq) hbw q hltq
          clear hc
          have hqi : (q : Int) < xs.length := by omega
          have hrl := hR.lt
          obtain ⟨s0, s1⟩ := HS0.out q hq
          have hdd := drill_day h1 q hltq
          obtain ⟨dd0, dd1⟩ := hdd
          have e2 := hR.cell (Nat.zero_lt_one)
          have e3 := hR.frozen 0
          have HR := hid hR
          clear hR
          by_cases hd : xs[q].crew.toList = cs[k].toList
          · have HX := hid (startTo_yes (f := f) (iv := iv) hltq hd)
            have hdb : (xs[q].crew.toList == cs[k].toList) = true := by simp [hd]
            have hce : xs[q].crew = cs[k] := str_inj hd
            rw [hce] at c1
            clear hd hdb hce
            go_wp2
            all_goals
              go_roundw
              case rel => exact ⟨q + 1, by omega, by go_num, rowOneA HR.out _ _ _ (by rw [HX.out]; congr 1; unfold maxI; split <;> split <;> omega), Ext.tr (store_ext hEq (Nat.le_refl _) _) (Ext.new _ _)⟩
              case measure => simp [intOf]; omega
          · have HX := hid (startTo_no (f := f) (iv := iv) hltq hd)
            have hdb : (xs[q].crew.toList == cs[k].toList) = false := by simp [hd]
            go_wp2
            go_roundw
            case rel => exact ⟨q + 1, by omega, by go_num, by rw [HX.out]; exact HR.out.alloc _, Ext.tr hEq (Ext.new _ _)⟩
            case measure => simp [intOf]; omega
        · obtain rfl : q = xs.length := by omega
          have HS1 := hid (HS0.out xs.length (Nat.le_refl _))
          go_wp2
          go_loopw [59] (fun i wr => ∃ d : Int, Hid (Look xs ps (startTo xs cs[k] f iv xs.length) d) ∧ wr.rowIs wr0.heap.size 2 1 (fun _ => .int .i64 d) ∧ Ext wr0 wr) (fun _ wr => (102000 - intOf ((wr.cell? ⟨wr0.heap.size, 0, none⟩).getD undef)).toNat)
          case atStart => exact ⟨_, hid (Look.zero HS1.out.2), hR, hEq⟩
          case round =>
            obtain ⟨d, hL, hR4, hE4⟩ := hrel
            obtain ⟨d0, d1⟩ := hL.out.bd HS1.out.1
            have HSL := hid (Own.of (ownE HU.out hE4) HPN.out).sl
            have e4 := hR4.cell (Nat.zero_lt_one)
            have f4 := hR4.frozen 0
            have hrl4 := hR4.lt
            have HR4 := hid hR4
            cases hP : hasI ps d
            rotate_left
            · have HT := hid (show takenB xs ps d = true by rw [takenB_any, hP]; rfl)
              go_wp2_with (first | (go_at_call 64; refine (cv (containsI ps d _ _ _ _ HSL.out HPN.out) (vb hP)).mono ?_; rintro e w' ⟨rfl, rfl⟩))
              go_roundw
              case rel => exact ⟨d + 1, hid (hL.out.next HS1.out.1 h1 HP.out.2.2 HT.out), rowOne HR4.out _, store_ext hE4 (Nat.le_refl _) _⟩
              case measure => rw [(rowOne HR4.out _).cell Nat.zero_lt_one, e4]; simp [intOf]; omega
            cases hA : xs.any fun x => decide (x.day = d)
            rotate_left
            · have HT := hid (show takenB xs ps d = true by rw [takenB_any, hP, hA]; rfl)
              go_wp2_with (first | (go_at_call 64; refine (cv (containsI ps d _ _ _ _ HSL.out HPN.out) (vb hP)).mono ?_; rintro e w' ⟨rfl, rfl⟩) | (go_at_call 60; refine (cv (anyDay wr0.heap.size d xs lo hi _ _ e4 hR4.lt (hv.ext (Ext.tr hE3 hE4)) hn) (vb hA)).mono ?_; rintro e w5 ⟨rfl, hE5⟩; have R5 := hR4.of_block (hE5.block _ hR4.lt); have e5 := R5.cell (Nat.zero_lt_one); have f5 := R5.frozen 0))
              go_roundw
              case rel => exact ⟨d + 1, hid (hL.out.next HS1.out.1 h1 HP.out.2.2 HT.out), rowOneE HR4.out hE5 _, store_ext (Ext.tr hE4 hE5) (Nat.le_refl _) _⟩
              case measure => rw [(rowOneE HR4.out hE5 _).cell Nat.zero_lt_one, e4]; simp [intOf]; omega
            have hT : takenB xs ps d = false := by rw [takenB_any, hP, hA]; rfl
            have HDY := hid (show dayOf xs ps cs[k] f iv = d from hL.out.stop hT)
            by_cases h5 : 100000 < d
            · have HQ := hid (planR_state h1 hargs (k + 1) (by omega) (planTo_no hlt HP.out.1 (by rw [HDY.out]; omega)))
              go_wp2_with (first | (go_at_call 64; refine (cv (containsI ps d _ _ _ _ HSL.out HPN.out) (vb hP)).mono ?_; rintro e w' ⟨rfl, rfl⟩) | (go_at_call 60; refine (cv (anyDay wr0.heap.size d xs lo hi _ _ e4 hR4.lt (hv.ext (Ext.tr hE3 hE4)) hn) (vb hA)).mono ?_; rintro e w5 ⟨rfl, hE5⟩; have R5 := hR4.of_block (hE5.block _ hR4.lt); have e5 := R5.cell (Nat.zero_lt_one); have f5 := R5.frozen 0))
              have hTT := Ext.tr hE3 (Ext.tr hE4 hE5)
              go_ret2
              exact ⟨⟨_, by rw [HQ.out]; rfl, by rw [HQ.out]; exact Own.nil _ _ hTT⟩, hTT⟩
            · have h5' : d ≤ 100000 := by omega
              go_wp2_with (first | (go_at_call 64; refine (cv (containsI ps d _ _ _ _ HSL.out HPN.out) (vb hP)).mono ?_; rintro e w' ⟨rfl, rfl⟩) | (go_at_call 60; refine (cv (anyDay wr0.heap.size d xs lo hi _ _ e4 hR4.lt (hv.ext (Ext.tr hE3 hE4)) hn) (vb hA)).mono ?_; rintro e w5 ⟨rfl, hE5⟩; have R5 := hR4.of_block (hE5.block _ hR4.lt); have e5 := R5.cell (Nat.zero_lt_one); have f5 := R5.frozen 0) | (at_builtin; refine wp_append1 w5 rfl (.tmp 70) (.tmp 72) _ rfl w.heap.size 2 1 8 _ Try.underlying32 infoInt rfl (by omega) (by omega) _ _ _ (ownE HU.out (Ext.tr hE4 hE5)) rfl [.int .i64 d] rfl (by simp [Value.oneCell']) _ rfl rfl HPN.out (Ext.tr hE3 (Ext.tr hE4 hE5)).size ?_; intro v' w' ho' hb'))
              go_roundw
              case rel => exact ⟨k + 1, ps ++ [d], by omega, by go_num, hid (HP.out.succ hlt HDY.out h5'), by rw [flat_snoc, List.length_append]; exact ho', (Ext.tr hE3 (Ext.tr hE4 hE5)).trans hb'⟩
              case measure => simp [intOf]; omega
    · obtain rfl : k = cs.length := by omega
      have HQ := hid (planR_ok h1 hargs HP.out.1)
      go_wp2
      go_ret2
      exact ⟨⟨_, by rw [HQ.out]; rfl, by rw [HQ.out]; exact Own.of hu (by have := HP.out.2.1; show ps.length ≤ _; omega)⟩, hE3⟩
end Go.Proofs.Ytibmcailjodpkaa
