/- IsSafeRoute of the note: the walk. -/
import Derived.Test.YtlilmopcikogpaaEsc6
namespace Go.Proofs.Ytlilmopcikogpaa
set_option linter.unusedVariables false
open Go.RowKit
theorem Ext.size {w w' : World} (h : Ext w w') : w.heap.size ≤ w'.heap.size := Below.size h
set_option maxRecDepth 100000 in
set_option maxHeartbeats 2000000 in
theorem specIsSafeRoute (j : Int) (ays : List Airway) (arr : List Int) (bl : Int) (c : Crew) (st : Int) (rt : List Int) (lo hi lo2 hi2 lo3 hi3 : Nat) (v v2 v3 : Value) (w : World) (hv : Sl lo hi w 7 v ays.length (flat Airway.enc ays)) (hsA : ∀ x ∈ ays, x.id.size ≤ maxLen) (hnA : ays.length ≤ 1048576) (hv2 : Sl lo2 hi2 w 1 v2 arr.length (flat encI arr)) (hn2 : arr.length ≤ 1048576) (hs : c.id.size ≤ maxLen) (hv3 : Sl lo3 hi3 w 1 v3 rt.length (flat encI rt)) (hn3 : rt.length ≤ 1048576) :
    Calls Try.prog 25 #[.agg #[.int .i64 j, v], v2, .int .i64 bl, .agg #[.string c.id, .int .i64 c.junction, .int .i64 c.speed], .int .i64 st, v3] w fun e w' => e = .returned (.bool (safeR j ays arr bl c st rt)) ∧ Ext w w' := by
  have hv0 := hv
  obtain ⟨_, _, A0, c0, rfl, _, _, _⟩ := hv0
  have hv30 := hv3
  obtain ⟨hhi3, _, A3, c3, rfl, _, _, _⟩ := hv30
  go_enter Try.func25, Try.ntmps25
  go_wp2_with fail
  generalize hG : World.alloc _ _ = wz
  have hE1 : Ext w wz := by rw [← hG]; exact Ext.tr (Ext.new _ _) (Ext.new _ _)
  have HM : Hid (MineAt wz w.heap.size 0 j (.slice A0 ays.length c0)) := by refine hid ?_; subst hG; exact ⟨by go_simp, by go_simp⟩
  have HF : Hid (Crew.At wz (w.heap.size + 1) 0 c) := by refine hid ?_; subst hG; exact ⟨by go_simp, by go_simp, by go_simp⟩
  have hfl : w.heap.size + 1 < wz.heap.size := by rw [← hG]; simp
  clear hG
  have ma : ∀ d : Later wz, d.w.cell? ⟨w.heap.size, 0, none⟩ = some (.int .i64 j) := fun d => (HM.out.ext d.h).1
  have fb : ∀ d : Later wz, d.w.cell? ⟨w.heap.size + 1, 1, none⟩ = some (.int .i64 c.junction) := fun d => (HF.out.ext hfl d.h).2.1
  have fc : ∀ d : Later wz, d.w.cell? ⟨w.heap.size + 1, 2, none⟩ = some (.int .i64 c.speed) := fun d => (HF.out.ext hfl d.h).2.2
  by_cases ha : askE (crewsP j c) j ays arr bl st = 0
  rotate_left
  · have HQ := hid (safeR_ask (rt := rt) ha)
    have hab : (askE (crewsP j c) j ays arr bl st != 0) = true := by simpa using ha
    clear ha
    refine wp_region_later wz (by kernel_rfl) (by kernel_rfl) (Below.refl _ _) ?_
    repeat (go_big_quiet_step ((first | (go_at_call 52; exact ql (l19Ask j ays arr bl c st A0 c0 w.heap.size 0 (w.heap.size + 1) 0 _ _ _ _ _ _ (HM.out.ext (Later.h _)) (HF.out.ext hfl (Later.h _)) (Nat.lt_of_lt_of_le hfl (Ext.size (Later.h _))) hs (hv.ext (Ext.tr hE1 (Later.h _))) hsA hnA (hv2.ext (Ext.tr hE1 (Later.h _))) hn2) (vi rfl)))))
    refine wpQuiet_nil ?_
    rintro _ ⟨d, rfl⟩
    go_wp2
    go_ret
    exact ⟨ret_bool HQ.out.symm, Ext.tr hE1 d.h⟩
  have HA := hid ha
  clear ha
  by_cases hl0 : 0 < rt.length
  rotate_left
  · have HQ := hid (safeR_nil (j := j) (ays := ays) (arr := arr) (bl := bl) (c := c) (st := st) hl0)
    have hl0' : (rt.length : Int) = 0 := by omega
    refine wp_region_later wz (by kernel_rfl) (by kernel_rfl) (Below.refl _ _) ?_
    repeat (go_big_quiet_step ((first | (go_at_call 52; exact ql (l19Ask j ays arr bl c st A0 c0 w.heap.size 0 (w.heap.size + 1) 0 _ _ _ _ _ _ (HM.out.ext (Later.h _)) (HF.out.ext hfl (Later.h _)) (Nat.lt_of_lt_of_le hfl (Ext.size (Later.h _))) hs (hv.ext (Ext.tr hE1 (Later.h _))) hsA hnA (hv2.ext (Ext.tr hE1 (Later.h _))) hn2) (vi HA.out)))))
    refine wpQuiet_nil ?_
    rintro _ ⟨d, rfl⟩
    go_wp2
    go_ret
    exact ⟨ret_bool HQ.out.symm, Ext.tr hE1 d.h⟩
  have hl0' : ((rt.length : Int) == 0) = false := beq_eq_false_iff_ne.2 (by omega)
  by_cases hl1 : rt.length ≤ 64
  rotate_left
  · have HQ := hid (safeR_long (j := j) (ays := ays) (arr := arr) (bl := bl) (c := c) (st := st) hl1)
    have hl1' : (64 : Int) < rt.length := by omega
    refine wp_region_later wz (by kernel_rfl) (by kernel_rfl) (Below.refl _ _) ?_
    repeat (go_big_quiet_step ((first | (go_at_call 52; exact ql (l19Ask j ays arr bl c st A0 c0 w.heap.size 0 (w.heap.size + 1) 0 _ _ _ _ _ _ (HM.out.ext (Later.h _)) (HF.out.ext hfl (Later.h _)) (Nat.lt_of_lt_of_le hfl (Ext.size (Later.h _))) hs (hv.ext (Ext.tr hE1 (Later.h _))) hsA hnA (hv2.ext (Ext.tr hE1 (Later.h _))) hn2) (vi HA.out)))))
    refine wpQuiet_nil ?_
    rintro _ ⟨d, rfl⟩
    go_wp2
    go_ret
    exact ⟨ret_bool HQ.out.symm, Ext.tr hE1 d.h⟩
  have hl1' : ¬ (64 : Int) < rt.length := by omega
  have hl1b : decide ((64 : Int) < rt.length) = false := by simp; omega
  obtain ⟨b3, o3, q3, he3, hb3, _⟩ := rt_cell hv3 0 hl0 rfl
  simp only [Value.slice.injEq, true_and] at he3
  obtain ⟨rfl, rfl⟩ := he3
  have hb3w : b3 < w.heap.size := by omega
  have RC : Hid (∀ (d : Later wz) (k : Nat), k < rt.length → d.w.cell? ⟨b3, o3 + k, none⟩ = some (.int .i64 (rtAt rt k))) := hid (fun d k hk => by
    obtain ⟨b, o, q, he, _, hc⟩ := rt_cell (hv3.ext (Ext.tr hE1 d.h)) k hk rfl
    simp only [Value.slice.injEq, Option.some.injEq, Addr.mk.injEq, and_true, true_and] at he
    obtain ⟨⟨rfl, rfl⟩, rfl⟩ := he
    exact hc)
  have r0 : ∀ d : Later wz, d.w.cell? ⟨b3, o3, none⟩ = some (.int .i64 (rtAt rt 0)) := fun d => RC.out d 0 hl0
  have hl2 : (0 : Int) < rt.length := by omega
  by_cases hf : rtAt rt 0 = c.junction
  rotate_left
  · have HQ := hid (safeR_from (j := j) (ays := ays) (arr := arr) (bl := bl) (st := st) hf)
    have hf' : (rtAt rt 0 != c.junction) = true := by simpa using hf
    clear hf
    refine wp_region_later wz (by kernel_rfl) (by kernel_rfl) (Below.refl _ _) ?_
    repeat (go_big_quiet_step ((first | (go_at_call 52; exact ql (l19Ask j ays arr bl c st A0 c0 w.heap.size 0 (w.heap.size + 1) 0 _ _ _ _ _ _ (HM.out.ext (Later.h _)) (HF.out.ext hfl (Later.h _)) (Nat.lt_of_lt_of_le hfl (Ext.size (Later.h _))) hs (hv.ext (Ext.tr hE1 (Later.h _))) hsA hnA (hv2.ext (Ext.tr hE1 (Later.h _))) hn2) (vi HA.out)))))
    refine wpQuiet_nil ?_
    rintro _ ⟨d, rfl⟩
    go_wp2
    go_ret
    exact ⟨ret_bool HQ.out.symm, Ext.tr hE1 d.h⟩
  have HFR := hid hf
  have hf' : (rtAt rt 0 != c.junction) = false := by simpa using hf
  clear hf
  obtain ⟨hM, hC, hst, hjl⟩ := ask_parts HA.out
  have HJL := hid hjl
  clear hjl
  obtain ⟨hsp1, hsp2, _⟩ := crew_parts hC
  have hAir : ∀ a ∈ ays, airB a = true := fun a ha => by
    obtain ⟨k, hk, rfl⟩ := List.getElem_of_mem ha
    exact (mineB_ok hM k hk).1
  have hays := mineB_len hM
  obtain ⟨hj1, hj2⟩ := mineB_j hM
  refine wp_region_later wz (by kernel_rfl) (by kernel_rfl) (Below.refl _ _) ?_
  repeat (go_big_quiet_step ((first | (go_at_call 52; exact ql (l19Ask j ays arr bl c st A0 c0 w.heap.size 0 (w.heap.size + 1) 0 _ _ _ _ _ _ (HM.out.ext (Later.h _)) (HF.out.ext hfl (Later.h _)) (Nat.lt_of_lt_of_le hfl (Ext.size (Later.h _))) hs (hv.ext (Ext.tr hE1 (Later.h _))) hsA hnA (hv2.ext (Ext.tr hE1 (Later.h _))) hn2) (vi HA.out)))))
  refine wpQuiet_nil ?_
  rintro _ ⟨d, rfl⟩
  go_wp2_with fail
  have hEd := d.h
  have HEd := hid hEd
  clear hEd r0
  generalize d.w = wd at *
  go_loopw [13, 14] (fun t i wr => ∃ k : Nat, k ≤ rt.length ∧ i = .int .i64 k ∧ t = .int .i64 (nowTo ays bl c.speed st rt k) ∧ Hid (∀ q, q < k → okR j ays arr bl c.speed st rt q = true) ∧ Ext wz wr) (fun _ i _ => rt.length - (intOf i).toNat)
  case atStart => exact ⟨0, Nat.zero_le _, rfl, rfl, hid (fun q hq => absurd hq (by omega)), HEd.out⟩
  case round =>
    obtain ⟨k, hk, rfl, rfl, hall, hE⟩ := hrel
    by_cases hlt : k < rt.length
    · have hki : (k : Int) < rt.length := by omega
      have rk : ∀ d : Later wz, d.w.cell? ⟨b3, o3 + k, none⟩ = some (.int .i64 (rtAt rt k)) := fun d => RC.out d k hlt
      have hnow := now_bd (bl := bl) (rt := rt) (sp := c.speed) hAir hsp1 hsp2 hst k
      have hleg := leg_bd (bl := bl) (rt := rt) (sp := c.speed) hAir hsp1 hsp2 k
      obtain ⟨hnow0, hnow1⟩ := hnow
      obtain ⟨hleg0, hleg1⟩ := hleg
      cases hR : inB (rtAt rt k) 0 (j - 1)
      · have HQ := hid (safeR_at (c := c) hlt (okR_range (ays := ays) (arr := arr) (bl := bl) (sp := c.speed) (st := st) hR))
        go_wp2_with fail
        refine wp_region_later wz (by kernel_rfl) (by kernel_rfl) hE ?_
        repeat (go_big_quiet_step ((first | (go_at_call 53; exact qls (l00In _ _ _ _) (vb hR)))))
        refine wpQuiet_nil ?_
        rintro _ ⟨d2, rfl⟩
        go_wp2
        go_ret
        exact ⟨ret_bool HQ.out.symm, Ext.tr hE1 d2.h⟩
      obtain ⟨n, hn, hnl⟩ : ∃ n : Nat, rtAt rt k = (n : Int) ∧ n < arr.length := by
        unfold inB at hR; simp only [Bool.and_eq_true, decide_eq_true_eq] at hR
        have := HJL.out
        exact ⟨(rtAt rt k).toNat, by omega, by omega⟩
      have hnt : (rtAt rt k).toNat = n := by omega
      have HN := hid hn
      have HNT := hid hnt
      have SAFE : Hid (∀ (t : Int) (d : Later wz), Calls Try.prog 55 #[v2, .int .i64 (rtAt rt k), .int .i64 t] d.w fun e w' => e = .returned (.bool (mayB arr n t)) ∧ d.w = w') := hid (fun t d => by rw [hn]; exact l19Safe arr n t _ _ _ _ (hv2.ext (Ext.tr hE1 d.h)) hnl)
      clear hn hnt
      by_cases hk0 : 0 < k
      · have hk0' : (0 : Int) < k := by omega
        have hk1' : (k : Int) - 1 < rt.length := by omega
        have rp : ∀ d : Later wz, d.w.cell? ⟨b3, o3 + (k - 1), none⟩ = some (.int .i64 (rtAt rt (k - 1))) := fun d => RC.out d (k - 1) (by omega)
        have HNX := hid (now_next (ays := ays) (bl := bl) (sp := c.speed) (st := st) (rt := rt) hk0)
        have STEP : Hid (∀ d : Later wz, Calls Try.prog 54 #[.pointer (some ⟨w.heap.size, 0, none⟩), .int .i64 bl, .int .i64 c.speed, .int .i64 (rtAt rt (k - 1)), .int .i64 (rtAt rt k)] d.w fun e w' => e = .returned (.int .i64 (legI ays bl c.speed rt k)) ∧ d.w = w') := hid (fun d => l19Step j ays bl c.speed _ _ A0 c0 w.heap.size 0 _ _ d.w (HM.out.ext d.h) (hv.ext (Ext.tr hE1 d.h)) hAir hays hsp1 hsp2)
        by_cases hlg : legI ays bl c.speed rt k < 0
        · have HQ := hid (safeR_at (c := c) (j := j) (arr := arr) (st := st) hlt (okR_leg hk0 hlg))
          go_wp2_with fail
          refine wp_region_later wz (by kernel_rfl) (by kernel_rfl) hE ?_
          repeat (go_big_quiet_step ((first | (go_at_call 53; exact qls (l00In _ _ _ _) (vb hR)))))
          refine wpQuiet_nil ?_
          rintro _ ⟨d2, rfl⟩
          go_wp2_with fail
          refine wp_region_later wz (by kernel_rfl) (by kernel_rfl) d2.h ?_
          repeat (go_big_quiet_step ((first | (go_at_call 54; exact qls (STEP.out _) rfl))))
          refine wpQuiet_nil ?_
          rintro _ ⟨d3, rfl⟩
          go_wp2
          go_ret
          exact ⟨ret_bool HQ.out.symm, Ext.tr hE1 d3.h⟩
        cases hS : mayB arr n (nowTo ays bl c.speed st rt k + legI ays bl c.speed rt k)
        · have HQ := hid (safeR_at (c := c) (j := j) (st := st) hlt (okR_smoke (by rw [HNT.out, HNX.out]; exact hS)))
          go_wp2_with fail
          refine wp_region_later wz (by kernel_rfl) (by kernel_rfl) hE ?_
          repeat (go_big_quiet_step ((first | (go_at_call 53; exact qls (l00In _ _ _ _) (vb hR)))))
          refine wpQuiet_nil ?_
          rintro _ ⟨d2, rfl⟩
          go_wp2_with fail
          refine wp_region_later wz (by kernel_rfl) (by kernel_rfl) d2.h ?_
          repeat (go_big_quiet_step ((first | (go_at_call 54; exact qls (STEP.out _) rfl))))
          refine wpQuiet_nil ?_
          rintro _ ⟨d3, rfl⟩
          go_wp2_with (go_at_call 55; refine (cv (SAFE.out _ d3) (vb hS)).mono ?_; rintro e w9 ⟨rfl, hw9⟩; subst hw9)
          go_ret
          exact ⟨ret_bool HQ.out.symm, Ext.tr hE1 d3.h⟩
        · have HOK := hid (okR_yes (ays := ays) (arr := arr) (bl := bl) (sp := c.speed) (st := st) hR (.inr (by omega)) (by rw [HNT.out, HNX.out]; exact hS))
          go_wp2_with fail
          refine wp_region_later wz (by kernel_rfl) (by kernel_rfl) hE ?_
          repeat (go_big_quiet_step ((first | (go_at_call 53; exact qls (l00In _ _ _ _) (vb hR)))))
          refine wpQuiet_nil ?_
          rintro _ ⟨d2, rfl⟩
          go_wp2_with fail
          refine wp_region_later wz (by kernel_rfl) (by kernel_rfl) d2.h ?_
          repeat (go_big_quiet_step ((first | (go_at_call 54; exact qls (STEP.out _) rfl))))
          refine wpQuiet_nil ?_
          rintro _ ⟨d3, rfl⟩
          go_wp2_with (go_at_call 55; refine (cv (SAFE.out _ d3) (vb hS)).mono ?_; rintro e w9 ⟨rfl, hw9⟩; subst hw9)
          go_roundw
          case rel => exact ⟨k + 1, by omega, by go_num, vi HNX.out.symm, hid (fun q hq => by rcases Nat.lt_succ_iff_lt_or_eq.1 hq with h | rfl; exact hall.out q h; exact HOK.out), d3.h⟩
          case measure => simp [intOf]; omega
      · obtain rfl : k = 0 := by omega
        have HNX := hid (now_first (ays := ays) (bl := bl) (sp := c.speed) (st := st) (rt := rt))
        have r0 : ∀ d : Later wz, d.w.cell? ⟨b3, o3, none⟩ = some (.int .i64 (rtAt rt 0)) := fun d => RC.out d 0 hl0
        cases hS : mayB arr n (nowTo ays bl c.speed st rt 0)
        · have HQ := hid (safeR_at (c := c) (j := j) (st := st) hlt (okR_smoke (by rw [HNT.out, HNX.out]; exact hS)))
          go_wp2_with fail
          refine wp_region_later wz (by kernel_rfl) (by kernel_rfl) hE ?_
          repeat (go_big_quiet_step ((first | (go_at_call 53; exact qls (l00In _ _ _ _) (vb hR)))))
          refine wpQuiet_nil ?_
          rintro _ ⟨d2, rfl⟩
          go_wp2_with (go_at_call 55; refine (cv (SAFE.out _ d2) (vb hS)).mono ?_; rintro e w9 ⟨rfl, hw9⟩; subst hw9)
          go_ret
          exact ⟨ret_bool HQ.out.symm, Ext.tr hE1 d2.h⟩
        · have HOK := hid (okR_yes (ays := ays) (arr := arr) (bl := bl) (sp := c.speed) (st := st) hR (.inl rfl) (by rw [HNT.out, HNX.out]; exact hS))
          go_wp2_with fail
          refine wp_region_later wz (by kernel_rfl) (by kernel_rfl) hE ?_
          repeat (go_big_quiet_step ((first | (go_at_call 53; exact qls (l00In _ _ _ _) (vb hR)))))
          refine wpQuiet_nil ?_
          rintro _ ⟨d2, rfl⟩
          go_wp2_with (go_at_call 55; refine (cv (SAFE.out _ d2) (vb hS)).mono ?_; rintro e w9 ⟨rfl, hw9⟩; subst hw9)
          go_roundw
          case rel => exact ⟨1, by omega, by go_num, vi HNX.out.symm, hid (fun q hq => by rw [show q = 0 from by omega]; exact HOK.out), d2.h⟩
          case measure => simp [intOf]; omega
    · obtain rfl : k = rt.length := by omega
      have HQ := hid (safeR_yes HA.out hl0 hl1 HFR.out hall.out)
      go_wp2
      go_ret
      exact ⟨ret_bool HQ.out.symm, Ext.tr hE1 hE⟩
end Go.Proofs.Ytlilmopcikogpaa
