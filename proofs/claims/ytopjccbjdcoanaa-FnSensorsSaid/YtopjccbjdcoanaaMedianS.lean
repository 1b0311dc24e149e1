/- MedianOf of the note. -/
import Derived.Test.YtopjccbjdcoanaaVoteS
namespace Go.Proofs.Ytopjccbjdcoanaa
set_option linter.unusedVariables false
open Go.RowKit
/-- the readings around the t-th one -/
def winA (h t : Nat) : Nat := t - h
def winB (ns : List Int) (h t : Nat) : Nat := min ns.length (t + h + 1)
def win (ns : List Int) (h t : Nat) : List Int := (ns.take (winB ns h t)).drop (winA h t)
def meds (ns : List Int) (h n : Nat) : List Int := (List.range n).map fun t => mid (win ns h t)
theorem meds_succ (ns : List Int) (h n : Nat) : meds ns h (n + 1) = meds ns h n ++ [mid (win ns h n)] := by unfold meds; rw [List.range_succ, List.map_append]; rfl
theorem meds_len (ns : List Int) (h n : Nat) : (meds ns h n).length = n := by simp [meds]
def medB (ns : List Int) (wd : Int) : Bool := seriesB ns && inB wd 1 9 && decide (¬ wd % 2 = 0)
def medR (ns : List Int) (wd : Int) : List Int × Int := if medB ns wd then (meds ns (wd / 2).toNat ns.length, 0) else ([], 2)
theorem medR_no {ns : List Int} {wd : Int} (h : medB ns wd = false) : medR ns wd = ([], 2) := by unfold medR; rw [h]; rfl
theorem medR_yes {ns : List Int} {wd : Int} (h : medB ns wd = true) : medR ns wd = (meds ns (wd / 2).toNat ns.length, 0) := by unfold medR; rw [h]; rfl
theorem win_len {ns : List Int} {h t : Nat} (ht : t < ns.length) : (win ns h t).length = winB ns h t - winA h t := by
  unfold win; rw [List.length_drop, List.length_take]; unfold winB; omega
theorem win_le {ns : List Int} {h t : Nat} (ht : t < ns.length) : winA h t ≤ winB ns h t ∧ winB ns h t ≤ ns.length ∧ winB ns h t - winA h t ≤ 2 * h + 1 := by unfold winA winB; omega
theorem vi {k : IntKind} {a b : Int} (h : a = b) : Value.int k a = Value.int k b := by rw [h]
theorem win_sl {lo hi n c g o h t : Nat} {w : World} {ns : List Int} (hv : Sl lo hi w 1 (.slice (some ⟨g, o, none⟩) n c) n (flat encI ns)) (hn : ns.length = n) (ht : t < n) : Sl lo hi w 1 (.slice (some ⟨g, o + winA h t, none⟩) (winB ns h t - winA h t) (c - winA h t)) (win ns h t).length (flat encI (win ns h t)) := by
  subst hn
  rw [win_len ht]
  exact sl_drop (sl_take hv (win_le (h := h) ht).2.1) (win_le (h := h) ht).1
set_option maxRecDepth 100000 in
set_option maxHeartbeats 1000000 in
theorem specMedianOf (ns : List Int) (wd : Int) (lo hi : Nat) (v : Value) (w : World) (hv : Sl lo hi w 1 v ns.length (flat encI ns)) (hn : ns.length ≤ 1048576) :
    Calls Try.prog 37 #[v, .int .i64 wd] w fun e w' => (∃ v', e = .returned (.tuple #[v', .int .i64 (medR ns wd).2]) ∧ Own w.heap.size w'.heap.size w' 2 1 v' (medR ns wd).1.length (flat encI (medR ns wd).1)) ∧ Ext w w' := by
  have S1 := hid (l24Series ns lo hi v w hv hn)
  have HV1 := hid hv
  obtain ⟨_, _, A1, c1, rfl, hnc, hcm, _⟩ := hv
  cases h1 : seriesB ns
  · have HQ := hid (medR_no (show medB ns wd = false by unfold medB; simp [h1]))
    go_enter Try.func37, Try.ntmps37
    go_wp2_with (first | (go_at_call 77; with_reducible refine (cv S1.out (vb h1)).mono ?_; rintro e w1 ⟨rfl, rfl⟩))
    go_ret2
    exact ⟨⟨_, by rw [HQ.out]; rfl, by rw [HQ.out]; exact Own.nil _ _ (Below.refl _ _)⟩, Below.refl _ _⟩
  cases h2 : inB wd 1 9
  · have HQ := hid (medR_no (show medB ns wd = false by unfold medB; simp [h2]))
    go_enter Try.func37, Try.ntmps37
    go_wp2_with (first | (go_at_call 77; with_reducible refine (cv S1.out (vb h1)).mono ?_; rintro e w1 ⟨rfl, rfl⟩) | (go_at_call 73; refine (cv (l00In _ _ _ _) (vb h2)).mono ?_; rintro e w1 ⟨rfl, rfl⟩))
    go_ret2
    exact ⟨⟨_, by rw [HQ.out]; rfl, by rw [HQ.out]; exact Own.nil _ _ (Below.refl _ _)⟩, Below.refl _ _⟩
  have hwd : 1 ≤ wd ∧ wd ≤ 9 := by unfold inB at h2; simpa using h2
  obtain ⟨hw1, hw9⟩ := hwd
  by_cases e1 : wd % 2 = 0
  · have HQ := hid (medR_no (ns := ns) (show medB ns wd = false by unfold medB; simp [e1]))
    have e2 : (wd % 2 == 0) = true := by simp [e1]
    clear e1
    go_enter Try.func37, Try.ntmps37
    go_wp2_with (first | (go_at_call 77; with_reducible refine (cv S1.out (vb h1)).mono ?_; rintro e w1 ⟨rfl, rfl⟩) | (go_at_call 73; refine (cv (l00In _ _ _ _) (vb h2)).mono ?_; rintro e w1 ⟨rfl, rfl⟩))
    go_ret2
    exact ⟨⟨_, by rw [HQ.out]; rfl, by rw [HQ.out]; exact Own.nil _ _ (Below.refl _ _)⟩, Below.refl _ _⟩
  have HQ := hid (medR_yes (ns := ns) (show medB ns wd = true by unfold medB; simp [h1, h2, e1]))
  have hl1 := series_len h1
  have e2 : (wd % 2 == 0) = false := by simp [e1]
  obtain ⟨h, hh, hh4⟩ : ∃ h : Nat, wd / 2 = (h : Int) ∧ h ≤ 4 := ⟨(wd / 2).toNat, by omega, by omega⟩
  have HH := hid (show (wd / 2).toNat = h by omega)
  clear e1
  go_enter Try.func37, Try.ntmps37
  go_wp2_with (first | (go_at_call 77; with_reducible refine (cv S1.out (vb h1)).mono ?_; rintro e w1 ⟨rfl, rfl⟩) | (go_at_call 73; refine (cv (l00In _ _ _ _) (vb h2)).mono ?_; rintro e w1 ⟨rfl, rfl⟩))
  go_loopw [6, 8] (fun u i wr => ∃ k : Nat, k ≤ ns.length ∧ i = .int .i64 k ∧ wr.ownsRow w.heap.size 2 1 u k (flat encI (meds ns h k)) ∧ Ext w wr) (fun _ i _ => ns.length - (intOf i).toNat)
  case atStart => exact ⟨0, Nat.zero_le _, rfl, own_empty w _ _ _ (Nat.le_refl _), Ext.new _ _⟩
  case round =>
    obtain ⟨k, hk, rfl, hown, hE⟩ := hrel
    by_cases hlt : k < ns.length
    · obtain ⟨g, o, q1, he1, hb1, _⟩ := sl_cell0 (HV1.out.ext hE) k hlt rfl
      simp only [Value.slice.injEq, true_and] at he1
      obtain ⟨rfl, rfl⟩ := he1
      have hki : (k : Int) < ns.length := by omega
      have HW := hid (win_sl (h := h) (HV1.out.ext hE) rfl hlt)
      obtain ⟨hab, hbn, hw9'⟩ := win_le (h := h) hlt
      have HLW := hid (show (win ns h k).length ≤ 9 by rw [win_len hlt]; omega)
      have ea : maxI (0 : Int) ((k : Int) - (h : Int)) = (winA h k : Nat) := by unfold winA maxI; split <;> omega
      have eb : minI ((ns.length : Int)) ((k : Int) + (h : Int) + 1) = (winB ns h k : Nat) := by unfold winB minI; split <;> omega
      have HE := hid hE
      have HO := hid hown
      clear hE hown
      have hcw : ¬ c1 = winA h k := by unfold winA; omega
      go_wp2_with (first
        | (go_at_call 81; refine (cv (l00Max _ _ _) (vi ea)).mono ?_; rintro e w' ⟨rfl, rfl⟩)
        | (go_at_call 82; refine (cv (l00Min _ _ _) (vi eb)).mono ?_; rintro e w' ⟨rfl, rfl⟩)
        | (go_at_call 79; refine (l24Middle (win ns h k) _ _ _ _ HW.out (by have := HLW.out; omega)).mono ?_; rintro e w5 ⟨rfl, hE5⟩)
        | (at_builtin; refine wp_append1 w5 rfl (.tmp 30) (.tmp 46) _ rfl w.heap.size 2 1 8 _ Try.underlying27 infoInt rfl (by omega) (by omega) _ k _ (ownE HO.out hE5) rfl [.int .i64 (mid (win ns h k))] rfl (by simp [Value.oneCell']) _ rfl rfl (by omega) (Nat.le_trans HE.out.size hE5.size) ?_; intro v6 w6 ho6 hb6))
      go_roundw
      case rel => exact ⟨k + 1, by omega, by go_num, by rw [meds_succ, flat_snoc]; exact ho6, (HE.out.trans (hE5.mono HE.out.size)).trans hb6⟩
      case measure => simp [intOf]; omega
    · obtain rfl : k = ns.length := by omega
      go_wp2
      go_ret2
      exact ⟨⟨_, by rw [HQ.out]; rfl, by rw [HQ.out, HH.out, meds_len]; exact Own.of hown (by omega)⟩, hE⟩
end Go.Proofs.Ytopjccbjdcoanaa
