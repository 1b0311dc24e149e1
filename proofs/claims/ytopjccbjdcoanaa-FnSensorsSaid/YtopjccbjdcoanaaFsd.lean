/- The note's FewestSensors, whole. -/
import Derived.Test.YtopjccbjdcoanaaFsc
import Derived.Test.YtopjccbjdcoanaaMedS
namespace Go.Proofs.Ytopjccbjdcoanaa
set_option linter.unusedVariables false
open Go.RowKit
def headLen (times : List (List Int)) : Nat := (times.headD []).length
def rowsB (times : List (List Int)) : Bool := times.all fun ts => timesB ts && decide (ts.length = headLen times)
def fewOk (times : List (List Int)) (limit budget : Int) : Bool := decide (times.length ≤ 16) && decide (0 ≤ limit) && inB budget 1 20000 && rowsB times
def fewR (times : List (List Int)) (limit budget : Int) : List Int × Int :=
  if fewOk times limit budget then
    (if (firstG (rightB times limit) (headLen times) (headLen times + 1) 0 budget).1.isSome then ((firstG (rightB times limit) (headLen times) (headLen times + 1) 0 budget).1.getD [], 0)
     else if (firstG (rightB times limit) (headLen times) (headLen times + 1) 0 budget).2 then ([], 5) else ([], 3))
  else ([], 2)
theorem fewR_a {times : List (List Int)} {limit budget : Int} (h : fewOk times limit budget = false) : fewR times limit budget = ([], 2) := by unfold fewR; rw [h]; rfl
theorem fewR_s {times : List (List Int)} {limit budget : Int} {s : List Int} {f : Bool} (h : fewOk times limit budget = true) (hs : firstG (rightB times limit) (headLen times) (headLen times + 1) 0 budget = (some s, f)) : fewR times limit budget = (s, 0) := by unfold fewR; rw [h, hs]; rfl
theorem fewR_n {times : List (List Int)} {limit budget : Int} {f : Bool} (h : fewOk times limit budget = true) (hs : firstG (rightB times limit) (headLen times) (headLen times + 1) 0 budget = (none, f)) : fewR times limit budget = ([], if f then 5 else 3) := by unfold fewR; rw [h, hs]; cases f <;> rfl
theorem head_at {times : List (List Int)} (h : 0 < times.length) : headLen times = times[0].length := by
  cases times with
  | nil => simp at h
  | cons a l => rfl
theorem rows_no {times : List (List Int)} (k : Nat) (hk : k < times.length) (h : (timesB times[k] && decide (times[k].length = headLen times)) = false) : rowsB times = false := by
  rw [Bool.eq_false_iff]; intro hh; unfold rowsB at hh; rw [List.all_eq_true] at hh
  have := hh _ (List.getElem_mem hk); rw [h] at this; cases this
theorem rows_yes {times : List (List Int)} (h : ∀ k (hk : k < times.length), (timesB times[k] && decide (times[k].length = headLen times)) = true) : rowsB times = true := by
  unfold rowsB; rw [List.all_eq_true]; intro x hx
  obtain ⟨k, hk, rfl⟩ := List.getElem_of_mem hx; exact h k hk
theorem rows_at {times : List (List Int)} (h : rowsB times = true) (k : Nat) (hk : k < times.length) : timesB times[k] = true ∧ times[k].length = headLen times := by
  unfold rowsB at h; rw [List.all_eq_true] at h
  have := h _ (List.getElem_mem hk); simpa using this
theorem head_le {times : List (List Int)} (h : rowsB times = true) : headLen times ≤ 16 := by
  cases ht : times with
  | nil => unfold headLen; simp
  | cons a l =>
    rw [ht] at h
    have := (rows_at h 0 (by simp)).1
    unfold timesB at this
    simp only [Bool.and_eq_true, decide_eq_true_eq] at this
    exact this.1
theorem lp_true {f : Nat → Int → SR} {p : List Int → Prop} (hf : ∀ j b, (f j b).1 = true → p (f j b).2.1) : ∀ (k i : Nat) (b : Int), (lp f k i b).1 = true → p (lp f k i b).2.1
  | 0, _, _, h => by cases h
  | k + 1, i, b, h => by
    rw [lp_succ] at h ⊢
    split at h
    · rename_i h1; rw [if_pos h1]; exact hf _ _ h1
    · rename_i h1
      rw [if_neg h1]
      split at h
      · cases h
      · rename_i h2; rw [if_neg h2]; exact lp_true hf k (i + 1) _ h
theorem extS_len (R : List Int → Bool) (P : Nat) : ∀ (m frm : Nat) (set : List Int) (b : Int), (extS R P m frm set b).1 = true → (extS R P m frm set b).2.1.length = set.length + m
  | 0, frm, set, b, h => by
    unfold extS at h ⊢
    split at h
    · rename_i h1; rw [if_pos h1]; rfl
    · cases h
  | m + 1, frm, set, b, h => by
    refine lp_true (p := fun s => s.length = set.length + (m + 1)) (fun j b h => ?_) _ _ _ h
    have := extS_len R P m (j + 1) (set ++ [(j : Int)]) b h
    rw [this]; simp; omega
theorem row_shape {w : World} {base e K n : Nat} {v : Value} {xs : List Value} (h : w.ownsRow base e K v n xs) : Shape v n := by
  rcases h.2 with ⟨rfl, _⟩ | ⟨g, c, cur, rfl, _⟩
  · exact .inl rfl
  · exact .inr ⟨g, 0, c, rfl⟩
theorem postS_open1 {sb : Nat} {tv : Value} {P limit N budget b' : Int} {set st : List Int} {w w' : World} (h : PostS sb tv P limit N budget set (true, st, b') w w') :
    ∃ sv', Blk w' sb 93 (StS tv sv' P limit N (if b' < 0 then budget else budget - b') budget (decide (b' < 0))) ∧ w'.ownsRow (sb + 1) 2 1 sv' st.length (flat encI st) ∧ Below sb w w' := h
theorem row_base {w : World} {base base' e K n : Nat} {v : Value} {xs : List Value} (h : w.ownsRow base e K v n xs) (hb : base' ≤ base) : w.ownsRow base' e K v n xs := by
  obtain ⟨h1, h2 | ⟨g, cap, cur, h3, h4, h5⟩⟩ := h
  · exact ⟨h1, .inl h2⟩
  · exact ⟨h1, .inr ⟨g, cap, cur, h3, Nat.le_trans hb h4, h5⟩⟩
theorem firstG_succ (R : List Int → Bool) (P k n : Nat) (b : Int) (hb : 0 ≤ b) : firstG R P (k + 1) n b = if (extS R P n 0 [] b).1 then (some (extS R P n 0 [] b).2.1, false) else if (extS R P n 0 [] b).2.2 < 0 then (none, true) else firstG R P k (n + 1) (extS R P n 0 [] b).2.2 := by
  rw [extS_eq R P n 0 [] b hb]; rfl
set_option maxRecDepth 100000 in
set_option maxHeartbeats 1000000 in
theorem specFewestSensors (times : List (List Int)) (limit budget : Int) (lo hi : Nat) (v : Value) (w : World) (hv : SlSS lo hi w v times) (hn : totN nSS times + times.length ≤ 1048576) :
    Calls Try.prog 28 #[v, .int .i64 limit, .int .i64 budget] w fun e w' => (∃ v', e = .returned (.tuple #[v', .int .i64 (fewR times limit budget).2]) ∧ Own w.heap.size w'.heap.size w' 2 1 v' (fewR times limit budget).1.length (flat encI (fewR times limit budget).1)) ∧ Ext w w' := by
  obtain ⟨At, ct, rfl, hnct, hcct⟩ := SlSS.slice hv
  have HV := hid hv
  clear hv
  by_cases h1 : times.length ≤ 16
  case neg =>
    have HQ := hid (fewR_a (limit := limit) (budget := budget) (show fewOk times limit budget = false by unfold fewOk; simp [h1]))
    have h1' : (16 : Int) < times.length := by omega
    go_enter Try.func28, Try.ntmps28
    go_wp2
    go_ret2
    exact ⟨⟨_, by rw [HQ.out]; rfl, by rw [HQ.out]; exact Own.nil _ _ (Below.refl _ _)⟩, Below.refl _ _⟩
  by_cases h2 : 0 ≤ limit
  case neg =>
    have HQ := hid (fewR_a (budget := budget) (show fewOk times limit budget = false by unfold fewOk; simp [h2]))
    go_enter Try.func28, Try.ntmps28
    go_wp2
    go_ret2
    exact ⟨⟨_, by rw [HQ.out]; rfl, by rw [HQ.out]; exact Own.nil _ _ (Below.refl _ _)⟩, Below.refl _ _⟩
  cases h3 : inB budget 1 20000
  · have HQ := hid (fewR_a (limit := limit) (show fewOk times limit budget = false by unfold fewOk; rw [h3]; simp))
    go_enter Try.func28, Try.ntmps28
    go_wp2_with (go_at_call 73; refine (cv (l00In _ _ _ _) (vb h3)).mono ?_; rintro e w' ⟨rfl, rfl⟩)
    go_ret2
    exact ⟨⟨_, by rw [HQ.out]; rfl, by rw [HQ.out]; exact Own.nil _ _ (Below.refl _ _)⟩, Below.refl _ _⟩
  have hbu : 1 ≤ budget ∧ budget ≤ 20000 := by unfold inB at h3; simpa using h3
  go_enter Try.func28, Try.ntmps28
  go_wp2_with (go_at_call 73; refine (cv (l00In _ _ _ _) (vb h3)).mono ?_; rintro e w' ⟨rfl, rfl⟩)
  go_loopw [8, 9] (fun p i wr => ∃ (k : Nat) (pv : Int), k ≤ times.length ∧ i = .int .i64 k ∧ p = .int .i64 pv ∧ Hid (pv = if k = 0 then 0 else (headLen times : Int)) ∧ Hid (∀ j (h : j < times.length), j < k → (timesB times[j] && decide (times[j].length = headLen times)) = true) ∧ Hid (Ext w wr)) (fun _ i _ => times.length - (intOf i).toNat)
  case atStart => exact ⟨0, 0, Nat.zero_le _, rfl, rfl, hid rfl, hid (fun j h hj => absurd hj (by omega)), hid (Below.refl _ _)⟩
  case round =>
    obtain ⟨k, pv, hk, rfl, rfl, hpv, hall, HE⟩ := hrel
    by_cases hltk : k < times.length
    · obtain ⟨ys, hys, ⟨hhi, _, A', c', he, _, _, hcell⟩, hin⟩ := SlSS.opn (HV.out.ext HE.out)
      simp only [Value.slice.injEq, true_and] at he
      obtain ⟨rfl, rfl⟩ := he
      obtain ⟨b', off, rfl, _, hb2', hc⟩ := hcell (by omega)
      obtain ⟨Au, cu, c0, hu⟩ := SS.at_ hys hin hc (Below.refl _ _) (by omega) k hltk
      obtain ⟨A0, cu0, c00, hu0⟩ := SS.at_ hys hin hc (Below.refl _ _) (by omega) 0 (by omega)
      simp only [Nat.add_zero] at c00
      have hcu := hu.2
      have HU := hid hu
      have HL : Hid (times[k].length ≤ 1048576) := hid (by have := totN_mem nSS times k hltk; show nSS.n times[k] ≤ _; omega)
      have hh0 := head_at (times := times) (by omega)
      rw [← hh0] at c00
      clear hys hin hcell hc hu hu0 hh0 hcu
      cases h4 : timesB times[k]
      · have HQ := hid (fewR_a (show fewOk times limit budget = false by unfold fewOk; rw [rows_no k hltk (by rw [h4]; rfl)]; simp))
        go_wp2
        go_quiet ((go_at_call 59; exact Calls.quiet_of_same (qv (l24Times times[k] _ _ _ _ (HU.out.ext (Ext.drewN _ _)) HL.out) (vb h4))))
        go_wp2
        go_ret2
        exact ⟨⟨_, by rw [HQ.out]; rfl, by rw [HQ.out]; exact Own.nil _ _ (Ext.tr HE.out (Ext.drewN _ _))⟩, Ext.tr HE.out (Ext.drewN _ _)⟩
      by_cases h5 : times[k].length = headLen times
      case neg =>
        have HQ := hid (fewR_a (show fewOk times limit budget = false by unfold fewOk; rw [rows_no k hltk (by simp [h5])]; simp))
        have h5' : ((times[k].length : Int) != headLen times) = true := by simp; omega
        go_wp2
        go_quiet ((go_at_call 59; exact Calls.quiet_of_same (qv (l24Times times[k] _ _ _ _ (HU.out.ext (Ext.drewN _ _)) HL.out) (vb h4))))
        go_wp2
        go_ret2
        exact ⟨⟨_, by rw [HQ.out]; rfl, by rw [HQ.out]; exact Own.nil _ _ (Ext.tr HE.out (Ext.drewN _ _))⟩, Ext.tr HE.out (Ext.drewN _ _)⟩
      · have H5 := hid h5
        have HG := hid (show (timesB times[k] && decide (times[k].length = headLen times)) = true by rw [h4, decide_eq_true h5]; rfl)
        have HU2 := hid (show Sl lo hi wr 1 (.slice Au (headLen times) cu) times[k].length (flat encI times[k]) from (show Value.slice Au times[k].length cu = Value.slice Au (headLen times) cu by rw [h5]) ▸ HU.out)
        rw [h5] at c0
        clear h5 HU
        go_wp2
        go_quiet ((go_at_call 59; exact Calls.quiet_of_same (qv (l24Times times[k] _ _ _ _ (HU2.out.ext (Ext.drewN _ _)) HL.out) (vb h4))))
        have hE2 : Ext w (wr.drewN nq) := Ext.tr HE.out (Ext.drewN _ _)
        have c0' : (wr.drewN nq).cell? ⟨b', off + k, none⟩ = some (.slice Au (headLen times) cu) := c0
        go_wp2
        go_roundw
        case rel => exact ⟨k + 1, _, by omega, by go_num, rfl, hid (by rw [if_neg (by omega)]), hid (fun j h hj => by rcases Nat.lt_succ_iff_lt_or_eq.1 hj with h3 | rfl; exact hall.out j h h3; exact HG.out), hid hE2⟩
        case measure => simp [intOf]; omega
    · obtain rfl : k = times.length := by omega
      have hpv2 : pv = (headLen times : Int) := by
        rw [hpv.out]; split
        · rename_i hz; have : times = [] := List.length_eq_zero_iff.1 hz; rw [this]; rfl
        · rfl
      subst hpv2
      have HRW := hid (rows_yes fun k hk => hall.out k hk hk)
      have hP := head_le HRW.out
      have HF := hid (show fewOk times limit budget = true by unfold fewOk; rw [HRW.out, h3]; simp [h1, h2])
      clear hall hpv hk hltk
      go_wp2
      have hhi : hi ≤ wr.heap.size := by
        obtain ⟨_, _, ⟨h, _⟩, _⟩ := SlSS.opn (HV.out.ext HE.out); exact h
      have hRT : Hid (∀ k (h : k < times.length), times[k].length = headLen times) := hid (fun k h => (rows_at HRW.out k h).2)
      have HB := hid (Blk.new wr 93 (StS (.slice At times.length ct) (.slice none 0 0) (headLen times) limit 0 0 budget false))
      have HX : Hid (Ext wr (wr.alloc (.cells (StS (.slice At times.length ct) (.slice none 0 0) (headLen times) limit 0 0 budget false) 93))) := hid (Ext.new _ _)
      have HT := hid ((HV.out.ext HE.out).ext HX.out)
      unfold StS at HX HB HT
      generalize wr.alloc _ = w1 at *
      obtain ⟨w0, hw0⟩ : ∃ w0, w0 = wr := ⟨_, rfl⟩
      subst hw0
      go_loopw [61] (fun _ W => ∃ (n : Nat) (b nd : Int) (sv : Value), n ≤ headLen times + 1 ∧ (0 ≤ b ∧ b ≤ budget) ∧ Hid (firstG (rightB times limit) (headLen times) (headLen times + 1) 0 budget = firstG (rightB times limit) (headLen times) (headLen times + 1 - n) n b) ∧ Hid (nd = budget - b) ∧ Hid (Blk W w0.heap.size 93 (StS (.slice At times.length ct) sv (headLen times) limit n nd budget false)) ∧ Hid (W.ownsRow (w0.heap.size + 1) 2 1 sv 0 []) ∧ Hid (Below w0.heap.size w0 W)) (fun _ W => headLen times + 1 - (intOf ((W.cell? ⟨w0.heap.size, 3, none⟩).getD undef)).toNat)
      case atStart => exact ⟨0, budget, 0, _, Nat.zero_le _, ⟨by omega, by omega⟩, hid rfl, hid (by omega), HB, hid ⟨rfl, .inl ⟨rfl, rfl⟩⟩, HX⟩
      case round =>
        obtain ⟨n, b, nd, sv, hn1, ⟨hb0, hb1⟩, HF2, HND, HB2, HO2, HW⟩ := hrel
        obtain ⟨A2, c2, rfl⟩ := own_slice HO2.out
        have hbd := extS_bd (rightB times limit) (headLen times) n 0 [] b hb0
        have hlen := extS_len (rightB times limit) (headLen times) n 0 [] b
        have hww : w.heap.size ≤ w0.heap.size := HE.out.size
        have hsz := HW.out.size
        obtain ⟨q0, q1, q2, q3, q4, q5, q6, q7⟩ := StS.cells HB2.out
        have Q3 := hid q3
        by_cases hnP : n ≤ headLen times
        · have HC := hid (runS times (headLen times) limit budget n _ lo hi w0.heap.size hhi hRT.out h1 hP (by omega) n 0 0 b nd [] _ wr rfl (Nat.zero_le _) (by simp) (by simp; omega) (SlSS.below (HV.out.ext HE.out) HW.out hhi) (fun j h => absurd h (by simp)) HB2.out HO2.out ⟨hb0, hb1⟩ HND.out)
          have HF3 := hid (HF2.out.trans ((congrArg (fun z => firstG (rightB times limit) (headLen times) z n b) (show headLen times + 1 - n = (headLen times - n) + 1 by omega)).trans (firstG_succ _ _ _ n b hb0)))
          dsimp only [Hid] at HF3
          generalize extS (rightB times limit) (headLen times) n 0 [] b = r at *
          obtain ⟨ok, st, b2⟩ := r
          replace HF3 := hid HF3
          cases ok
          · by_cases hb2 : b2 < 0
            · have HQ := hid (fewR_n HF.out (HF3.out.trans ((if_neg (by simp)).trans (if_pos hb2))))
              go_wp2_with (go_at_call 74; refine HC.out.mono ?_; rintro e w2 ⟨rfl, hPS⟩; obtain ⟨sv4, hB4, hO4, hb4⟩ := postS_open hPS; have q7 : w2.cell? ⟨w0.heap.size, 7, none⟩ = some (.bool true) := (hB4.cell 7).trans (by show some (Value.bool (decide (b2 < 0))) = _; rw [decide_eq_true hb2]); have HW4 := hid (HW.out.trans hb4); clear hB4 hO4 hb4)
              go_ret2
              exact ⟨⟨_, by rw [HQ.out]; rfl, by rw [HQ.out]; exact Own.nil _ _ (Ext.tr HE.out HW4.out)⟩, Ext.tr HE.out HW4.out⟩
            · have HF4 := hid (HF3.out.trans ((if_neg (by simp)).trans (if_neg hb2)))
              go_wp2_with (go_at_call 74; refine HC.out.mono ?_; rintro e w2 ⟨rfl, hPS⟩; obtain ⟨sv4, hB4, hO4, hb4⟩ := postS_open hPS; have HB4 := hid hB4; have q7 : w2.cell? ⟨w0.heap.size, 7, none⟩ = some (.bool false) := (hB4.cell 7).trans (by show some (Value.bool (decide (b2 < 0))) = _; rw [decide_eq_false hb2]); have q3 : w2.cell? ⟨w0.heap.size, 3, none⟩ = some (.int .i64 n) := hB4.cell 3; have f3 := hB4.frozen 3; have HO4 := hid hO4; have HW4 := hid (HW.out.trans hb4); clear hB4 hO4 hb4)
              have HB5 := hid (StS.set3 HB4.out ((n : Int) + 1))
              have HO5 := hid (ownsRow_setCell_below HO4.out (a := ⟨w0.heap.size, 3, none⟩) (Nat.lt_succ_self _) (.int .i64 ((n : Int) + 1)))
              have HW5 := hid (HW4.out.setCell (p := ⟨w0.heap.size, 3, none⟩) (Nat.le_refl _) (.int .i64 ((n : Int) + 1)))
              rw [decide_eq_false (by omega : ¬ b2 < 0)] at HB5
              have q3' : (w2.setCell ⟨w0.heap.size, 3, none⟩ (.int .i64 ((n : Int) + 1))).cell? ⟨w0.heap.size, 3, none⟩ = some (.int .i64 ((n : Int) + 1)) := HB5.out.cell 3
              go_roundw
              case rel => exact ⟨n + 1, b2, _, sv4, by omega, ⟨by omega, by omega⟩, hid (HF4.out.trans (congrArg (fun z => firstG (rightB times limit) (headLen times) z (n + 1) b2) (by omega))), hid (by rw [if_neg (by omega)]), HB5, HO5, HW5⟩
              case measure => rw [q3', Q3.out]; simp [intOf]; omega
          · have HQ := hid (fewR_s HF.out (HF3.out.trans (if_pos rfl)))
            have hl16 : st.length ≤ 1048576 := by have := hlen rfl; simp at this; omega
            clear hlen
            go_wp2_with (first | (go_at_call 74; refine HC.out.mono ?_; rintro e w2 ⟨rfl, hPS⟩; obtain ⟨sv4, hB4, hO4, hb4⟩ := postS_open1 hPS; obtain ⟨A4, c4, rfl⟩ := own_slice hO4; have q4 : w2.cell? ⟨w0.heap.size, 4, none⟩ = some (.slice A4 st.length c4) := hB4.cell 4; have HO4 := hid hO4; have HW4 := hid (HW.out.trans hb4); clear hB4 hO4 hb4) | (go_at_call 75; refine (l00OwnI st _ _ _ _ (Sl.of_own HO4.out (by unfold maxLen; omega)) (row_shape HO4.out) hl16).mono ?_; rintro e w3 ⟨⟨v3, rfl, hO5⟩, hE5⟩))
            go_ret2
            have hw2 := HW4.out.size
            exact ⟨⟨_, by rw [HQ.out]; rfl, by rw [HQ.out]; exact Own.of (row_base hO5 (by omega)) (by show st.length ≤ _; omega)⟩, Ext.tr (Ext.tr HE.out HW4.out) hE5⟩
        · obtain rfl : n = headLen times + 1 := by omega
          have HQ := hid (fewR_n (f := false) HF.out (HF2.out.trans (by rw [Nat.sub_self]; rfl)))
          go_wp2
          go_ret2
          exact ⟨⟨_, by rw [HQ.out]; rfl, by rw [HQ.out]; exact Own.nil _ _ (Ext.tr HE.out HW.out)⟩, Ext.tr HE.out HW.out⟩
end Go.Proofs.Ytopjccbjdcoanaa
