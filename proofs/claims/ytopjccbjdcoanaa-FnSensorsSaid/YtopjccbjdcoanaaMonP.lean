/- What the alarms of a series are, and medians and votes: the plain laws of the monitors' law. No program in sight. -/
import Derived.Test.YtopjccbjdcoanaaAlo
import Derived.Test.YtopjccbjdcoanaaMedianS
namespace Go.Proofs.Ytopjccbjdcoanaa
set_option linter.unusedVariables false
open Go.RowKit
/-- one alarm: it comes after its delay, and lasts while no reading is low -/
def Al1 (x : Sensor) (ns : List Int) (s e : Nat) : Prop := s < e ∧ e ≤ ns.length ∧ x.delay ≤ s + 1 ∧ (∀ k : Nat, (k : Int) < x.delay → x.limit < at0 ns (s - k)) ∧ ∀ t, s ≤ t → t < e → at0 ns t = -1 ∨ x.release < at0 ns t
def AlGood (x : Sensor) (ns : List Int) : Int → List (List Int) → Prop
  | _, [] => True
  | last, a :: l => ∃ s e : Nat, a = [(s : Int), (e : Int)] ∧ last ≤ s ∧ Al1 x ns s e ∧ AlGood x ns e l
def endOf : Int → List (List Int) → Int
  | last, [] => last
  | _, a :: l => endOf (a.getD 1 0) l
theorem AlGood.snoc {x : Sensor} {ns : List Int} {s e : Nat} (h1 : Al1 x ns s e) : ∀ {last : Int} {L : List (List Int)}, AlGood x ns last L → endOf last L ≤ s → AlGood x ns last (L ++ [[(s : Int), (e : Int)]])
  | last, [], _, h => ⟨s, e, rfl, h, h1, trivial⟩
  | last, a :: L, ⟨s', e', ha, h2, h3, h4⟩, h => ⟨s', e', ha, h2, h3, AlGood.snoc h1 h4 (by subst ha; exact h)⟩
theorem endOf_snoc (s e : Int) : ∀ (last : Int) (L : List (List Int)), endOf last (L ++ [[s, e]]) = e
  | _, [] => rfl
  | _, _ :: L => endOf_snoc s e _ L
/-- the machine's state after k minutes -/
def MSt (x : Sensor) (ns : List Int) (k : Nat) (z : Alm) : Prop :=
  (∃ r : Nat, z.run = r ∧ r ≤ k ∧ ∀ j, j < r → x.limit < at0 ns (k - 1 - j)) ∧ AlGood x ns 0 z.acc ∧
  ((z.since = -1 ∧ endOf 0 z.acc ≤ k) ∨ ∃ s : Nat, z.since = s ∧ s < k ∧ endOf 0 z.acc ≤ s ∧ x.delay ≤ s + 1 ∧ (∀ j : Nat, (j : Int) < x.delay → x.limit < at0 ns (s - j)) ∧ ∀ t, s ≤ t → t < k → at0 ns t = -1 ∨ x.release < at0 ns t)
theorem mst (x : Sensor) (ns : List Int) (hd : 1 ≤ x.delay) (hr : x.release ≤ x.limit) : ∀ k, k ≤ ns.length → MSt x ns k (aTo x ns k)
  | 0, _ => ⟨⟨0, rfl, Nat.le_refl _, fun j h => by omega⟩, trivial, .inl ⟨rfl, by simp [aTo, endOf]⟩⟩
  | k + 1, hk => by
    obtain ⟨⟨r, hz1, hz2, hz3⟩, hz4, hz5⟩ := mst x ns hd hr k (by omega)
    rw [aTo_succ x ns k (by omega), at0_of (by omega : k < ns.length)]
    generalize hR : at0 ns k = R
    generalize aTo x ns k = z at *
    obtain ⟨run, since, acc⟩ := z
    simp only at hz1 hz4 hz5
    subst hz1
    by_cases h1 : x.limit < R
    · have hrun : ∃ r' : Nat, ((r : Int) + 1) = r' ∧ r' ≤ k + 1 ∧ ∀ j, j < r' → x.limit < at0 ns (k + 1 - 1 - j) := ⟨r + 1, by omega, by omega, fun j hj => by
        by_cases e : j = 0
        · subst e; rw [show k + 1 - 1 - 0 = k by omega, hR]; exact h1
        · have := hz3 (j - 1) (by omega)
          rw [show k + 1 - 1 - j = k - 1 - (j - 1) by omega]; exact this⟩
      rcases hz5 with ⟨rfl, h5⟩ | ⟨s, rfl, h6, h7, h8, h9, h10⟩
      · by_cases h3 : x.delay ≤ (r : Int) + 1
        · rw [aStep_high_on h1 (by simp) h3]
          refine ⟨hrun, hz4, .inr ⟨k, rfl, by omega, by simpa using h5, ?_, fun j hj => ?_, fun t ht1 ht2 => ?_⟩⟩
          · omega
          · obtain ⟨r', e', _, h⟩ := hrun
            have := h j (by omega)
            rw [show k + 1 - 1 - j = k - j by omega] at this; exact this
          · obtain rfl : t = k := by omega
            right; rw [hR]; omega
        · rw [aStep_high_no h1 (by simp) h3]
          exact ⟨hrun, hz4, .inl ⟨rfl, by simp only; omega⟩⟩
      · rw [aStep_high_in hr h1 (by simp only; omega)]
        refine ⟨hrun, hz4, .inr ⟨s, rfl, by omega, h7, h8, h9, fun t ht1 ht2 => ?_⟩⟩
        by_cases e : t = k
        · subst e; right; rw [hR]; omega
        · exact h10 t ht1 (by omega)
    · have hrun : ∃ r' : Nat, (0 : Int) = r' ∧ r' ≤ k + 1 ∧ ∀ j, j < r' → x.limit < at0 ns (k + 1 - 1 - j) := ⟨0, rfl, by omega, fun j hj => by omega⟩
      rcases hz5 with ⟨rfl, h5⟩ | ⟨s, rfl, h6, h7, h8, h9, h10⟩
      · rw [aStep_low_no hd h1 (by simp)]
        exact ⟨hrun, hz4, .inl ⟨rfl, by simp only; omega⟩⟩
      · by_cases h3 : R = -1 ∨ x.release < R
        · rw [aStep_low_in h1 (by simp only; omega) h3]
          refine ⟨hrun, hz4, .inr ⟨s, rfl, by omega, h7, h8, h9, fun t ht1 ht2 => ?_⟩⟩
          by_cases e : t = k
          · subst e; rw [hR]; exact h3
          · exact h10 t ht1 (by omega)
        · rw [aStep_low_off h1 (by simp only; omega) (fun e => h3 (.inl e)) (by omega)]
          refine ⟨hrun, AlGood.snoc ⟨h6, by omega, h8, h9, h10⟩ hz4 h7, .inl ⟨rfl, ?_⟩⟩
          simp only [endOf_snoc]; omega
theorem alarms_good (x : Sensor) (ns : List Int) (hd : 1 ≤ x.delay) (hr : x.release ≤ x.limit) : AlGood x ns 0 (alarms x ns) := by
  obtain ⟨_, h4, h5⟩ := mst x ns hd hr ns.length (Nat.le_refl _)
  unfold alarms aTail
  rcases h5 with ⟨h, _⟩ | ⟨s, h, h6, h7, h8, h9, h10⟩
  · rw [h, if_neg (by omega), List.append_nil]; exact h4
  · rw [h, if_pos (by omega)]; exact AlGood.snoc ⟨h6, Nat.le_refl _, h8, h9, h10⟩ h4 h7
/-- a minute lies in one of them -/
def inAny (t : Int) (L : List (List Int)) : Bool := L.any fun a => decide (a.getD 0 0 ≤ t) && decide (t < a.getD 1 0)
/-! ### medians -/
theorem mid_one (r : Int) : mid [r] = r := by
  by_cases h : r = -1
  · subst h
    have : srt [-1] = [] := (srt_eq (ns := [-1]) (L := []) (by decide) List.Pairwise.nil).symm
    exact mid_nil this
  · have : srt [r] = [r] := (srt_eq (ns := [r]) (L := [r]) (by rw [List.filter_cons_of_pos (by simpa using h)]; exact List.Perm.refl _) (List.pairwise_singleton ..)).symm
    unfold mid; rw [this, if_neg (by simp)]; simp
theorem med_at {ns : List Int} {h n k : Nat} (hk : k < (meds ns h n).length) : (meds ns h n)[k] = mid (win ns h k) := by
  have h1 : (meds ns h n)[k]? = some (mid (win ns h k)) := by
    have hk' : k < n := by simpa [meds_len] using hk
    unfold meds; rw [List.getElem?_map, List.getElem?_range hk']; rfl
  rw [List.getElem?_eq_getElem hk] at h1
  exact Option.some.inj h1
theorem win_one {ns : List Int} {t : Nat} (h : t < ns.length) : win ns 0 t = [ns[t]] := by
  unfold win winA winB
  rw [show min ns.length (t + 0 + 1) = t + 1 by omega, List.take_succ_eq_append_getElem h, List.drop_append_of_le_length (by simp; omega)]
  simp
theorem meds_one (ns : List Int) : meds ns 0 ns.length = ns := by
  apply List.ext_getElem
  · rw [meds_len]
  · intro i h1 h2
    rw [med_at, win_one h2, mid_one]
theorem medB_one {ns : List Int} {wd : Int} (h : medB ns wd = true) : medB ns 1 = true := by
  unfold medB at h ⊢
  simp only [Bool.and_eq_true] at h
  rw [h.1.1]; rfl
theorem medR_one {ns : List Int} {wd : Int} (h : medB ns wd = true) : medR ns 1 = (ns, 0) := by
  rw [medR_yes (medB_one h)]
  show (meds ns 0 ns.length, 0) = _
  rw [meds_one]
theorem mid_mem {ns : List Int} (h : ns ≠ []) : mid ns ∈ ns := by
  by_cases hs : srt ns = []
  · rw [mid_nil hs]
    cases ns with
    | nil => exact absurd rfl h
    | cons a l =>
      by_cases ha : a = -1
      · subst ha; exact List.mem_cons_self ..
      · have h1 : (srt (a :: l)).Perm ((a :: l).filter fun x => decide (¬ x = -1)) := List.mergeSort_perm _ _
        rw [hs, List.filter_cons_of_pos (by simpa using ha)] at h1
        have := h1.length_eq; simp at this
  · have hk : ((srt ns).length - 1) / 2 < (srt ns).length := by
      have : 0 < (srt ns).length := List.length_pos_iff.2 hs
      omega
    rw [mid_at hs hk]
    have h1 : (srt ns).Perm (ns.filter fun x => decide (¬ x = -1)) := List.mergeSort_perm _ _
    exact (List.mem_filter.1 (h1.subset (List.getElem_mem hk))).1
theorem win_mem {ns : List Int} {h t : Nat} {x : Int} (hx : x ∈ win ns h t) : x ∈ ns := List.mem_of_mem_take (List.mem_of_mem_drop hx)
theorem win_ne {ns : List Int} {h t : Nat} (ht : t < ns.length) : win ns h t ≠ [] := by
  intro e
  have := win_len (h := h) ht
  rw [e] at this
  have h2 : winB ns h t - winA h t = 0 := by simpa using this.symm
  unfold winB winA at h2; omega
theorem med_mem {ns : List Int} {h : Nat} (k : Nat) (hk : k < (meds ns h ns.length).length) : (meds ns h ns.length)[k] ∈ ns := by
  have hk' : k < ns.length := by simpa [meds_len] using hk
  rw [med_at]
  exact win_mem (mid_mem (win_ne hk'))
/-! ### votes -/
theorem srt_perm {a b : List Int} (h : a.Perm b) : srt a = srt b := by
  refine srt_eq ?_ ?_
  · exact (List.mergeSort_perm _ _).trans (h.filter _)
  · have := List.pairwise_mergeSort (le := leI) (fun a b c h1 h2 => by unfold leI at *; simp at *; omega) (fun a b => by unfold leI; simp; omega) (a.filter fun x => decide (¬ x = -1))
    exact this.imp (fun h => by unfold leI at h; simpa using h)
theorem mid_perm {a b : List Int} (h : a.Perm b) : mid a = mid b := by unfold mid; rw [srt_perm h]
theorem vote_rot (a b c : List Int) : voteR c a b = voteR a b c := by
  have hb : voteB c a b = voteB a b c := by
    rw [Bool.eq_iff_iff]
    unfold voteB
    simp only [Bool.and_eq_true, decide_eq_true_eq]
    constructor
    · rintro ⟨⟨⟨⟨h1, h2⟩, h3⟩, h4⟩, h5⟩; exact ⟨⟨⟨⟨h2, h3⟩, h1⟩, by omega⟩, by omega⟩
    · rintro ⟨⟨⟨⟨h1, h2⟩, h3⟩, h4⟩, h5⟩; exact ⟨⟨⟨⟨h3, h1⟩, h2⟩, by omega⟩, by omega⟩
  cases h : voteB a b c
  · rw [voteR_no h, voteR_no (hb.trans h)]
  · rw [voteR_yes h, voteR_yes (hb.trans h)]
    have hl : c.length = a.length := by
      unfold voteB at h; simp only [Bool.and_eq_true, decide_eq_true_eq] at h; omega
    rw [hl]
    unfold votes
    refine Prod.ext (List.map_congr_left fun k _ => ?_) rfl
    show mid _ = mid _
    refine mid_perm ?_
    exact (List.Perm.swap _ _ _).trans ((List.Perm.swap _ _ _).cons _)
end Go.Proofs.Ytopjccbjdcoanaa
