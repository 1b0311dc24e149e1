/- IsSafeRoute of the program: the walk. -/
import Derived.Test.YtlilmopcikogpaaEsc7
namespace Go.Proofs.Ytlilmopcikogpaa
set_option linter.unusedVariables false
open Go.RowKit
theorem safeR_in {j : Int} {ays : List Airway} {arr : List Int} {bl : Int} {c : Crew} {st : Int} {rt : List Int} (h : allIn rt 0 (j - 1) = false) : safeR j ays arr bl c st rt = false := by
  have : ∃ k, ∃ hk : k < rt.length, inB rt[k] 0 (j - 1) = false := by
    refine Classical.byContradiction fun hh => ?_
    rw [allIn_yes (fun k hk => by
      cases h1 : inB rt[k] 0 (j - 1)
      · exact absurd ⟨k, hk, h1⟩ hh
      · rfl)] at h
    cases h
  obtain ⟨k, hk, h1⟩ := this
  rw [rtAt_of hk] at h1
  exact safeR_at hk (okR_range h1)
theorem vt {a : Int} {b b' : Bool} (h : b = b') : Value.tuple #[.int .i64 a, .bool b] = .tuple #[.int .i64 a, .bool b'] := by rw [h]
theorem crews_one (j : Int) (c : Crew) : crewsB j [c] = crewsP j c := by
  unfold crewsB allOk okAt; simp
set_option maxRecDepth 100000 in
set_option maxHeartbeats 2000000 in
theorem implIsSafeRoute (j : Int) (ays : List Airway) (arr : List Int) (bl : Int) (c : Crew) (st : Int) (rt : List Int) (lo hi lo2 hi2 lo3 hi3 : Nat) (v v2 v3 : Value) (w : World) (hv : Sl lo hi w 7 v ays.length (flat Airway.enc ays)) (hsA : ∀ x ∈ ays, x.id.size ≤ maxLen) (hnA : ays.length ≤ 1048576) (hv2 : Sl lo2 hi2 w 1 v2 arr.length (flat encI arr)) (hn2 : arr.length ≤ 1048576) (hs : c.id.size ≤ maxLen) (hv3 : Sl lo3 hi3 w 1 v3 rt.length (flat encI rt)) (hn3 : rt.length ≤ 1048576) :
    Calls Try.prog 27 #[.agg #[.int .i64 j, v], v2, .int .i64 bl, .agg #[.string c.id, .int .i64 c.junction, .int .i64 c.speed], .int .i64 st, v3] w fun e w' => e = .returned (.bool (safeR j ays arr bl c st rt)) ∧ Ext w w' := by
  have hv0 := hv
  obtain ⟨_, _, A0, c0, rfl, _, _, _⟩ := hv0
  have hv20 := hv2
  obtain ⟨_, _, A2, c2, rfl, _, _, _⟩ := hv20
  have hv30 := hv3
  obtain ⟨hhi3, _, A3, c3, rfl, _, _, _⟩ := hv30
  go_enter Try.func27, Try.ntmps27
  go_wp2_with fail
  generalize hG : World.alloc _ _ = wz
  have hE1 : Ext w wz := by rw [← hG]; exact Ext.tr (Ext.new _ _) (Ext.tr (Ext.new _ _) (Ext.new _ _))
  have HM : Hid (MineAt wz w.heap.size 0 j (.slice A0 ays.length c0)) := by refine hid ?_; subst hG; exact ⟨by go_simp, by go_simp⟩
  have HF : Hid (Crew.At wz (w.heap.size + 1) 0 c) := by refine hid ?_; subst hG; exact ⟨by go_simp, by go_simp, by go_simp⟩
  have HB : Blk wz (w.heap.size + 1 + 1) 54 #[.string c.id, .int .i64 c.junction, .int .i64 c.speed] := by
    rw [← hG]; have := Blk.new ((w.alloc (.cells #[.int .i64 j, .slice A0 ays.length c0] 31)).alloc (.cells #[.string c.id, .int .i64 c.junction, .int .i64 c.speed] 54)) 54 #[.string c.id, .int .i64 c.junction, .int .i64 c.speed]; simpa using this
  have hfl : w.heap.size + 1 < wz.heap.size := by rw [← hG]; simp
  have hfl2 : w.heap.size + 1 + 1 < wz.heap.size := by rw [← hG]; simp
  clear hG
  have hsl : Sl 0 wz.heap.size wz 3 (.slice (some ⟨w.heap.size + 1 + 1, 0, none⟩) 1 1) [c].length (flat Crew.enc [c]) := by
    refine ⟨Nat.le_refl _, rfl, _, 1, rfl, Nat.le_refl _, by decide, fun _ => ⟨_, 0, rfl, Nat.zero_le _, hfl2, fun q u hu => ?_⟩⟩
    rw [Nat.zero_add, HB.cell]
    simpa [flat, Crew.enc] using hu
  have ESC := escapeI j ays arr bl [c] st _ _ _ _ _ _ _ _ _ wz (hv.ext hE1) hsA hnA (hv2.ext hE1) hn2 hsl (by intro x hx; simp at hx; subst hx; exact hs) (by simp)
  rw [crews_one] at ESC
  clear HB hsl
  by_cases ha : askE (crewsP j c) j ays arr bl st = 0
  rotate_left
  · have HQ := hid (safeR_ask (rt := rt) ha)
    have hab : (askE (crewsP j c) j ays arr bl st != 0) = true := by simpa using ha
    unfold escV at ESC
    rw [if_neg ha] at ESC
    refine ESC.mono ?_
    rintro e w1 ⟨rfl, hE⟩
    clear ESC ha
    have hEq0 := Ext.tr hE1 hE
    generalize askE (crewsP j c) j ays arr bl st = ac at *
    go_wp2_with fail
    generalize hG : World.alloc w1 _ = wq
    have hEq : Ext w wq := by rw [← hG]; exact Ext.tr hEq0 (Ext.new _ _)
    clear hG
    refine wp_region_later wq (by kernel_rfl) (by kernel_rfl) (Below.refl _ _) ?_
    repeat (go_big_quiet_step ((fail)))
    refine wpQuiet_nil ?_
    rintro _ ⟨d, rfl⟩
    go_wp2
    go_ret
    exact ⟨ret_bool HQ.out.symm, Ext.tr hEq d.h⟩
  rw [ha] at ESC
  unfold escV at ESC
  rw [if_pos rfl] at ESC
  refine ESC.mono ?_
  rintro e w1 ⟨rfl, hE⟩
  have HA := hid ha
  clear ESC ha
  have hEq0 := Ext.tr hE1 hE
  go_wp2_with fail
  generalize hG : World.alloc w1 _ = wq
  have hEzq : Ext wz wq := by rw [← hG]; exact Ext.tr hE (Ext.new _ _)
  have hEq : Ext w wq := Ext.tr hE1 hEzq
  have HE4 : Hid (Blk wq w1.heap.size 91 #[.int .i64 j, .slice A0 ays.length c0, .slice A2 arr.length c2, .int .i64 bl]) := by refine hid ?_; rw [← hG]; exact Blk.new _ _ _
  clear hG
  have ma : ∀ d : Later wq, d.w.cell? ⟨w.heap.size, 0, none⟩ = some (.int .i64 j) := fun d => (HM.out.ext (Ext.tr hEzq d.h)).1
  have fb : ∀ d : Later wq, d.w.cell? ⟨w.heap.size + 1, 1, none⟩ = some (.int .i64 c.junction) := fun d => (HF.out.ext hfl (Ext.tr hEzq d.h)).2.1
  have fc : ∀ d : Later wq, d.w.cell? ⟨w.heap.size + 1, 2, none⟩ = some (.int .i64 c.speed) := fun d => (HF.out.ext hfl (Ext.tr hEzq d.h)).2.2
  have ga : ∀ d : Later wq, d.w.cell? ⟨w1.heap.size, 0, none⟩ = some (.int .i64 j) := fun d => (HE4.out.ext d.h).cell 0
  have gb : ∀ d : Later wq, d.w.cell? ⟨w1.heap.size, 1, none⟩ = some (.slice A0 ays.length c0) := fun d => (HE4.out.ext d.h).cell 1
  have gc : ∀ d : Later wq, d.w.cell? ⟨w1.heap.size, 2, none⟩ = some (.slice A2 arr.length c2) := fun d => (HE4.out.ext d.h).cell 2
  have gd : ∀ d : Later wq, d.w.cell? ⟨w1.heap.size, 3, none⟩ = some (.int .i64 bl) := fun d => (HE4.out.ext d.h).cell 3
  by_cases hl0 : 0 < rt.length
  rotate_left
  · have HQ := hid (safeR_nil (j := j) (ays := ays) (arr := arr) (bl := bl) (c := c) (st := st) hl0)
    have hl0' : (rt.length : Int) < 1 := by omega
    refine wp_region_later wq (by kernel_rfl) (by kernel_rfl) (Below.refl _ _) ?_
    repeat (go_big_quiet_step ((fail)))
    refine wpQuiet_nil ?_
    rintro _ ⟨d, rfl⟩
    go_wp2
    go_ret
    exact ⟨ret_bool HQ.out.symm, Ext.tr hEq d.h⟩
  have hl0' : decide ((rt.length : Int) < 1) = false := by simp only [decide_eq_false_iff_not]; omega
  have hl0'' : ¬ ((rt.length : Int) < 1) := by omega
  by_cases hl1 : rt.length ≤ 64
  rotate_left
  · have HQ := hid (safeR_long (j := j) (ays := ays) (arr := arr) (bl := bl) (c := c) (st := st) hl1)
    have hl1' : (64 : Int) < rt.length := by omega
    refine wp_region_later wq (by kernel_rfl) (by kernel_rfl) (Below.refl _ _) ?_
    repeat (go_big_quiet_step ((fail)))
    refine wpQuiet_nil ?_
    rintro _ ⟨d, rfl⟩
    go_wp2
    go_ret
    exact ⟨ret_bool HQ.out.symm, Ext.tr hEq d.h⟩
  have hl1' : ¬ (64 : Int) < rt.length := by omega
  have hl1b : decide ((64 : Int) < rt.length) = false := by simp only [decide_eq_false_iff_not]; omega
  obtain ⟨b3, o3, q3, he3, hb3, _⟩ := rt_cell hv3 0 hl0 rfl
  simp only [Value.slice.injEq, true_and] at he3
  obtain ⟨rfl, rfl⟩ := he3
  have RC : Hid (∀ (d : Later wq) (k : Nat), k < rt.length → d.w.cell? ⟨b3, o3 + k, none⟩ = some (.int .i64 (rtAt rt k))) := hid (fun d k hk => by
    obtain ⟨b, o, q, he, _, hc⟩ := rt_cell (hv3.ext (Ext.tr hEq d.h)) k hk rfl
    simp only [Value.slice.injEq, Option.some.injEq, Addr.mk.injEq, and_true, true_and] at he
    obtain ⟨⟨rfl, rfl⟩, rfl⟩ := he
    exact hc)
  have r0 : ∀ d : Later wq, d.w.cell? ⟨b3, o3, none⟩ = some (.int .i64 (rtAt rt 0)) := fun d => RC.out d 0 hl0
  have hl2 : (0 : Int) < rt.length := by omega
  by_cases hf : rtAt rt 0 = c.junction
  rotate_left
  · have HQ := hid (safeR_from (j := j) (ays := ays) (arr := arr) (bl := bl) (st := st) hf)
    have hf' : (rtAt rt 0 != c.junction) = true := by simpa using hf
    clear hf
    refine wp_region_later wq (by kernel_rfl) (by kernel_rfl) (Below.refl _ _) ?_
    repeat (go_big_quiet_step ((fail)))
    refine wpQuiet_nil ?_
    rintro _ ⟨d, rfl⟩
    go_wp2
    go_ret
    exact ⟨ret_bool HQ.out.symm, Ext.tr hEq d.h⟩
  have HFR := hid hf
  have hf' : (rtAt rt 0 != c.junction) = false := by simpa using hf
  clear hf
  obtain ⟨hM, hC, hst, hjl⟩ := ask_parts HA.out
  obtain ⟨hj1, hj2⟩ := mineB_j hM
  have HJL := hid hjl
  clear hjl
  cases hall0 : allIn rt 0 (j - 1)
  · have HQ := hid (safeR_in (ays := ays) (arr := arr) (bl := bl) (c := c) (st := st) hall0)
    refine wp_region_later wq (by kernel_rfl) (by kernel_rfl) (Below.refl _ _) ?_
    repeat (go_big_quiet_step (((first | (go_at_call 57; exact ql (allWithin rt 0 (j - 1) _ _ _ _ (hv3.ext (Ext.tr hEq (Later.h _))) hn3) (vb hall0))))))
    refine wpQuiet_nil ?_
    rintro _ ⟨d, rfl⟩
    go_wp2
    go_ret
    exact ⟨ret_bool HQ.out.symm, Ext.tr hEq d.h⟩
  obtain ⟨hsp1, hsp2, _⟩ := crew_parts hC
  have hAir : ∀ a ∈ ays, airB a = true := fun a ha => by
    obtain ⟨k, hk, rfl⟩ := List.getElem_of_mem ha
    exact (mineB_ok hM k hk).1
  have hays := mineB_len hM
  refine wp_region_later wq (by kernel_rfl) (by kernel_rfl) (Below.refl _ _) ?_
  repeat (go_big_quiet_step (((first | (go_at_call 57; exact ql (allWithin rt 0 (j - 1) _ _ _ _ (hv3.ext (Ext.tr hEq (Later.h _))) hn3) (vb hall0))))))
  refine wpQuiet_nil ?_
  rintro _ ⟨d, rfl⟩
  have hEd := d.h
  have HEd := hid hEd
  clear hEd r0
  generalize d.w = wd at *
  go_wp2
  go_loopw [15, 61] (fun t i wr => ∃ k : Nat, k ≤ rt.length ∧ i = .int .i64 k ∧ t = .int .i64 (nowTo ays bl c.speed st rt k) ∧ Hid (∀ q, q < k → okR j ays arr bl c.speed st rt q = true) ∧ Ext wq wr) (fun _ i _ => rt.length - (intOf i).toNat)
  case atStart => exact ⟨0, Nat.zero_le _, rfl, rfl, hid (fun q hq => absurd hq (by omega)), HEd.out⟩
  case round =>
    obtain ⟨k, hk, rfl, rfl, hall, hE⟩ := hrel
    by_cases hlt : k < rt.length
    · have hki : (k : Int) < rt.length := by omega
      have rk : ∀ d : Later wq, d.w.cell? ⟨b3, o3 + k, none⟩ = some (.int .i64 (rtAt rt k)) := fun d => RC.out d k hlt
      have ck := rk ⟨wr, hE⟩
      have hnow := now_bd (bl := bl) (rt := rt) (sp := c.speed) hAir hsp1 hsp2 hst k
      have hleg := leg_bd (bl := bl) (rt := rt) (sp := c.speed) hAir hsp1 hsp2 k
      obtain ⟨hnow0, hnow1⟩ := hnow
      obtain ⟨hleg0, hleg1⟩ := hleg
      have hR : inB (rtAt rt k) 0 (j - 1) = true := by rw [← rtAt_of hlt]; unfold allIn at hall0; rw [List.all_eq_true] at hall0; exact hall0 _ (List.getElem_mem hlt)
      obtain ⟨n, hn, hnl⟩ : ∃ n : Nat, rtAt rt k = (n : Int) ∧ n < arr.length := by
        unfold inB at hR; simp only [Bool.and_eq_true, decide_eq_true_eq] at hR
        have := HJL.out
        exact ⟨(rtAt rt k).toNat, by omega, by omega⟩
      have hnt : (rtAt rt k).toNat = n := by omega
      have HN := hid hn
      have HNT := hid hnt
      have SAFE : Hid (∀ (t : Int) (d : Later wq), Calls Try.prog 59 #[.agg #[.int .i64 j, .slice A0 ays.length c0, .slice A2 arr.length c2, .int .i64 bl], .int .i64 (rtAt rt k), .int .i64 t] d.w fun e w' => e = .returned (.bool (mayB arr n t)) ∧ Ext d.w w') := hid (fun t d => by rw [hn]; exact mayBeI j _ bl arr n t _ _ _ _ (hv2.ext (Ext.tr hEq d.h)) hnl)
      clear hn hnt
      by_cases hk0 : 0 < k
      · have hk0' : (0 : Int) < k := by omega
        have hk1' : (k : Int) - 1 < rt.length := by omega
        have rp : ∀ d : Later wq, d.w.cell? ⟨b3, o3 + (k - 1), none⟩ = some (.int .i64 (rtAt rt (k - 1))) := fun d => RC.out d (k - 1) (by omega)
        have HNX := hid (now_next (ays := ays) (bl := bl) (sp := c.speed) (st := st) (rt := rt) hk0)
        have STEP : Hid (∀ d : Later wq, Calls Try.prog 58 #[.agg #[.int .i64 j, .slice A0 ays.length c0, .slice A2 arr.length c2, .int .i64 bl], .int .i64 (rtAt rt (k - 1)), .int .i64 (rtAt rt k), .int .i64 c.speed] d.w fun e w' => e = .returned (.tuple #[.int .i64 (legI ays bl c.speed rt k), .bool (decide (0 ≤ legI ays bl c.speed rt k))]) ∧ Ext d.w w') := hid (fun d => betweenI j ays _ bl c.speed _ _ A0 c0 _ _ d.w (hv.ext (Ext.tr hEq d.h)) hAir hays hsp1 hsp2)
        by_cases hlg : legI ays bl c.speed rt k < 0
        · have HQ := hid (safeR_at (c := c) (j := j) (arr := arr) (st := st) hlt (okR_leg hk0 hlg))
          have HLG := hid hlg
          go_wp2_with fail
          refine wp_region_later wq (by kernel_rfl) (by kernel_rfl) hE ?_
          repeat (go_big_quiet_step ((first | (go_at_call 58; exact ql (STEP.out _) (vt (by simp; exact HLG.out : decide (0 ≤ legI ays bl c.speed rt k) = false))))))
          refine wpQuiet_nil ?_
          rintro _ ⟨d3, rfl⟩
          go_wp2
          go_ret
          exact ⟨ret_bool HQ.out.symm, Ext.tr hEq d3.h⟩
        have HLG := hid hlg
        cases hS : mayB arr n (nowTo ays bl c.speed st rt k + legI ays bl c.speed rt k)
        · have HQ := hid (safeR_at (c := c) (j := j) (st := st) hlt (okR_smoke (by rw [HNT.out, HNX.out]; exact hS)))
          go_wp2_with fail
          refine wp_region_later wq (by kernel_rfl) (by kernel_rfl) hE ?_
          repeat (go_big_quiet_step ((first | (go_at_call 58; exact ql (STEP.out _) (vt (by simp; have := HLG.out; omega : decide (0 ≤ legI ays bl c.speed rt k) = true))))))
          refine wpQuiet_nil ?_
          rintro _ ⟨d3, rfl⟩
          go_wp2_with (go_at_call 59; refine (cv (SAFE.out _ d3) (vb hS)).mono ?_; rintro e w9 ⟨rfl, hE9⟩)
          go_ret
          exact ⟨ret_bool HQ.out.symm, Ext.tr hEq (Ext.tr d3.h hE9)⟩
        · have HOK := hid (okR_yes (ays := ays) (arr := arr) (bl := bl) (sp := c.speed) (st := st) hR (.inr (by omega)) (by rw [HNT.out, HNX.out]; exact hS))
          go_wp2_with fail
          refine wp_region_later wq (by kernel_rfl) (by kernel_rfl) hE ?_
          repeat (go_big_quiet_step ((first | (go_at_call 58; exact ql (STEP.out _) (vt (by simp; have := HLG.out; omega : decide (0 ≤ legI ays bl c.speed rt k) = true))))))
          refine wpQuiet_nil ?_
          rintro _ ⟨d3, rfl⟩
          go_wp2_with (go_at_call 59; refine (cv (SAFE.out _ d3) (vb hS)).mono ?_; rintro e w9 ⟨rfl, hE9⟩)
          go_roundw
          case rel => exact ⟨k + 1, by omega, by go_num, vi HNX.out.symm, hid (fun q hq => by rcases Nat.lt_succ_iff_lt_or_eq.1 hq with h | rfl; exact hall.out q h; exact HOK.out), Ext.tr d3.h hE9⟩
          case measure => simp [intOf]; omega
      · obtain rfl : k = 0 := by omega
        have HNX := hid (now_first (ays := ays) (bl := bl) (sp := c.speed) (st := st) (rt := rt))
        have r0 : wr.cell? ⟨b3, o3, none⟩ = some (.int .i64 (rtAt rt 0)) := RC.out ⟨wr, hE⟩ 0 hl0
        have g0 := ga ⟨wr, hE⟩
        have g1 := gb ⟨wr, hE⟩
        have g2 := gc ⟨wr, hE⟩
        have g3 := gd ⟨wr, hE⟩
        cases hS : mayB arr n (nowTo ays bl c.speed st rt 0)
        · have HQ := hid (safeR_at (c := c) (j := j) (st := st) hlt (okR_smoke (by rw [HNT.out, HNX.out]; exact hS)))
          go_wp2_with (go_at_call 59; refine (cv (SAFE.out _ ⟨wr, hE⟩) (vb hS)).mono ?_; rintro e w9 ⟨rfl, hE9⟩)
          go_ret
          exact ⟨ret_bool HQ.out.symm, Ext.tr hEq (Ext.tr hE hE9)⟩
        · have HOK := hid (okR_yes (ays := ays) (arr := arr) (bl := bl) (sp := c.speed) (st := st) hR (.inl rfl) (by rw [HNT.out, HNX.out]; exact hS))
          go_wp2_with (go_at_call 59; refine (cv (SAFE.out _ ⟨wr, hE⟩) (vb hS)).mono ?_; rintro e w9 ⟨rfl, hE9⟩)
          go_roundw
          case rel => exact ⟨1, by omega, by go_num, vi HNX.out.symm, hid (fun q hq => by rw [show q = 0 from by omega]; exact HOK.out), Ext.tr hE hE9⟩
          case measure => simp [intOf]; omega
    · obtain rfl : k = rt.length := by omega
      have HQ := hid (safeR_yes HA.out hl0 hl1 HFR.out hall.out)
      go_wp2
      go_ret
      exact ⟨ret_bool HQ.out.symm, Ext.tr hEq hE⟩
end Go.Proofs.Ytlilmopcikogpaa
