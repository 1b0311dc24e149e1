/- What planned days are: the plain law of the law on plans. No program in sight. -/
import Derived.Test.YtibmcailjodpkaaK28
import Derived.Test.YtibmcailjodpkaaN29
namespace Go.Proofs.Ytibmcailjodpkaa
set_option linter.unusedVariables false
open Go.RowKit
theorem freeF_ge (T : Int → Bool) : ∀ (n : Nat) (d : Int), d ≤ freeF T d n
  | 0, _ => Int.le_refl _
  | n + 1, d => by
    rw [freeF]
    split
    · have := freeF_ge T n (d + 1); omega
    · exact Int.le_refl _
theorem freeF_free {T : Int → Bool} {D : Int} (hT : ∀ d, T d = true → d ≤ D) : ∀ (n : Nat) (d : Int), D < d + n → T (freeF T d n) = false
  | 0, d, h => by
    cases e : T d
    · rw [freeF]; exact e
    · have := hT d e; omega
  | n + 1, d, h => by
    rw [freeF]
    split
    · exact freeF_free hT n (d + 1) (by omega)
    · rename_i h1; simpa using h1
theorem startTo_ge {xs : List Drill} {crew : ByteArray} {f iv : Int} : ∀ k, k ≤ xs.length → f ≤ startTo xs crew f iv k ∧ ∀ j (h : j < xs.length), j < k → xs[j].crew.toList = crew.toList → xs[j].day + iv ≤ startTo xs crew f iv k
  | 0, _ => ⟨Int.le_refl _, fun j _ h => by omega⟩
  | k + 1, hk => by
    obtain ⟨h1, h2⟩ := startTo_ge (xs := xs) (crew := crew) (f := f) (iv := iv) k (by omega)
    have hm : ∀ a b : Int, a ≤ maxI a b ∧ b ≤ maxI a b := fun a b => by unfold maxI; split <;> omega
    by_cases e : xs[k].crew.toList = crew.toList
    · rw [startTo_yes (by omega) e]
      have hm1 := hm (startTo xs crew f iv k) (xs[k].day + iv)
      refine ⟨by omega, fun j hj hjk he => ?_⟩
      rcases Nat.lt_succ_iff_lt_or_eq.1 hjk with h3 | rfl
      · have := h2 j hj h3 he; omega
      · exact hm1.2
    · rw [startTo_no (by omega) e]
      refine ⟨h1, fun j hj hjk he => ?_⟩
      rcases Nat.lt_succ_iff_lt_or_eq.1 hjk with h3 | rfl
      · exact h2 j hj h3 he
      · exact absurd he e
/-- one day of a plan -/
def Day1 (xs : List Drill) (ps : List Int) (crew : ByteArray) (f iv d : Int) : Prop :=
  f ≤ d ∧ d ≤ 100000 ∧ hasI ps d = false ∧ (∀ x ∈ xs, ¬ x.day = d) ∧ ∀ x ∈ xs, x.crew.toList = crew.toList → x.day + iv ≤ d
theorem day1 {xs : List Drill} {ps : List Int} {crew : ByteArray} {f iv : Int} (hx : drillsB xs = true) (hf : 0 ≤ f) (hp : ∀ p ∈ ps, p ≤ 100000) (hd : dayOf xs ps crew f iv ≤ 100000) : Day1 xs ps crew f iv (dayOf xs ps crew f iv) := by
  obtain ⟨h1, h2⟩ := startTo_ge (xs := xs) (crew := crew) (f := f) (iv := iv) xs.length (Nat.le_refl _)
  have hge := freeF_ge (takenB xs ps) 200000 (startTo xs crew f iv xs.length)
  have hfr := freeF_free (T := takenB xs ps) (D := 100000) (fun d h => taken_le hx hp h) 200000 (startTo xs crew f iv xs.length) (by omega)
  unfold dayOf at hd ⊢
  generalize freeF (takenB xs ps) (startTo xs crew f iv xs.length) 200000 = d at *
  unfold takenB at hfr
  rw [Bool.or_eq_false_iff] at hfr
  refine ⟨by omega, hd, hfr.1, fun x hm e => ?_, fun x hm e => ?_⟩
  · have h3 := hfr.2
    unfold hasI at h3
    rw [List.any_map, List.any_eq_false] at h3
    exact h3 x hm (by simpa using e)
  · obtain ⟨j, hj, rfl⟩ := List.getElem_of_mem hm
    have := h2 j hj hj e
    omega
theorem planTo_all {xs : List Drill} {cs : List ByteArray} {f iv : Int} (hx : drillsB xs = true) (hf : 0 ≤ f) : ∀ (k : Nat) (ps : List Int), k ≤ cs.length → planTo xs cs f iv k = some ps → ps.length = k ∧ ∀ i (h : i < ps.length) (hc : i < cs.length), Day1 xs (ps.take i) cs[i] f iv ps[i]
  | 0, ps, _, h => by
    unfold planTo at h
    simp only [Option.some.injEq] at h
    subst h
    exact ⟨rfl, fun i h => by simp at h⟩
  | k + 1, ps, hk, h => by
    rw [planTo] at h
    cases hq : planTo xs cs f iv k with
    | none => rw [hq] at h; cases h
    | some qs =>
      obtain ⟨h1, h2⟩ := planTo_all hx hf k qs (by omega) hq
      rw [hq] at h
      simp only at h
      rw [dif_pos (by omega : k < cs.length)] at h
      split at h
      · rename_i hd
        simp only [Option.some.injEq] at h
        subst h
        have hqp : ∀ p ∈ qs, p ≤ 100000 := fun p hp => by
          obtain ⟨i, hi, rfl⟩ := List.getElem_of_mem hp
          exact (h2 i hi (by omega)).2.1
        refine ⟨by simp [h1], fun i hi hc => ?_⟩
        by_cases e : i < qs.length
        · rw [List.getElem_append_left e, List.take_append_of_le_length (by omega)]
          exact h2 i e hc
        · obtain rfl : i = k := by simp at hi; omega
          rw [List.getElem_append_right (by omega)]
          simp only [h1, Nat.sub_self, List.getElem_cons_zero]
          rw [show (qs ++ [dayOf xs qs cs[i] f iv]).take i = qs by rw [List.take_append_of_le_length (by omega), List.take_of_length_le (by omega)]]
          exact day1 hx hf hqp hd
      · cases h
/-- what a plan tells -/
theorem planR_hit {xs : List Drill} {cs : List ByteArray} {f iv : Int} (h : (planR xs cs f iv).2 = 0) : drillsB xs = true ∧ argsB cs f iv = true ∧ (planR xs cs f iv).1.length = cs.length ∧ ∀ i (h : i < (planR xs cs f iv).1.length) (hc : i < cs.length), Day1 xs ((planR xs cs f iv).1.take i) cs[i] f iv (planR xs cs f iv).1[i] := by
  cases h1 : drillsB xs
  · rw [planR_no _ _ _ h1] at h; cases h
  cases h2 : argsB cs f iv
  · rw [planR_range h1 h2] at h; cases h
  cases h3 : planTo xs cs f iv cs.length with
  | none => rw [planR_state h1 h2 cs.length (Nat.le_refl _) h3] at h; cases h
  | some ps =>
    rw [planR_ok h1 h2 h3]
    have hf : 0 ≤ f := by unfold argsB inB at h2; simp at h2; omega
    obtain ⟨h4, h5⟩ := planTo_all h1 hf cs.length ps (Nat.le_refl _) h3
    exact ⟨rfl, rfl, h4, h5⟩
theorem planR_miss {xs : List Drill} {cs : List ByteArray} {f iv : Int} (h : ¬ (planR xs cs f iv).2 = 0) : (planR xs cs f iv).1 = [] := by
  cases h1 : drillsB xs
  · rw [planR_no _ _ _ h1]
  cases h2 : argsB cs f iv
  · rw [planR_range h1 h2]
  cases h3 : planTo xs cs f iv cs.length with
  | none => rw [planR_state h1 h2 cs.length (Nat.le_refl _) h3]
  | some ps => rw [planR_ok h1 h2 h3] at h; exact absurd rfl h
/-- the crew of a planned day is due at it -/
theorem due_one {xs : List Drill} {cs : List ByteArray} {ps : List Int} {f iv d : Int} {i : Nat} (hx : drillsB xs = true) (ha : argsB cs f iv = true) (hi : i < cs.length) (h : Day1 xs ps cs[i] f iv d) : dueR xs [cs[i]] d iv = ([cs[i]], 0) := by
  obtain ⟨h1, h2, _, _, h5⟩ := h
  have hab : argsB [cs[i]] d iv = true := by
    unfold argsB at ha ⊢
    simp only [Bool.and_eq_true] at ha ⊢
    obtain ⟨⟨a1, a2⟩, a3⟩ := ha
    refine ⟨⟨?_, ?_⟩, a3⟩
    · unfold namesB at a1 ⊢
      simp only [Bool.and_eq_true] at a1 ⊢
      refine ⟨by simp, ?_⟩
      have := allOk_p a1.2 i hi
      unfold allOk
      rw [List.all_eq_true]
      intro k hk
      obtain rfl : k = 0 := by simpa using hk
      exact okAt_intro (by simp) this (fun h => by omega)
    · unfold inB at a2 ⊢; simp at a2 ⊢; omega
  rw [dueR_ok hx hab]
  have : dueB xs cs[i] d iv = true := by
    unfold dueB
    rw [Bool.not_eq_true', List.any_eq_false]
    intro x hm hh
    simp only [Bool.and_eq_true, decide_eq_true_eq] at hh
    have := h5 x hm hh.1
    have h6 := hh.2
    unfold inB at h6; simp at h6; omega
  unfold dueL
  simp [this]
/-- the code of a crew's drills, and the improvement where there is none -/
theorem gone_ {xs : List Drill} (crew : ByteArray) (hx : drillsB xs = true) : askD xs crew = 0 ∨ (askD xs crew = 3 ∧ improved xs crew = 0) := by
  by_cases h : (ofIx xs crew).length = 0
  · right; refine ⟨askD_none hx h, ?_⟩
    unfold improved; rw [askD_none hx h]; rfl
  · left; exact askD_ok hx h
end Go.Proofs.Ytibmcailjodpkaa
