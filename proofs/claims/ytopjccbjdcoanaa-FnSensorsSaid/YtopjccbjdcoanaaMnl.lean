/- A set that the search answers is enough, and no smaller set is: the plain law. No program in sight. -/
import Derived.Test.YtopjccbjdcoanaaFsd
namespace Go.Proofs.Ytopjccbjdcoanaa
set_option linter.unusedVariables false
open Go.RowKit
/-- numbers that rise, from frm on and below P -/
def Ris (P : Nat) : Nat → List Int → Prop
  | _, [] => True
  | frm, x :: t => ∃ n : Nat, x = (n : Int) ∧ frm ≤ n ∧ n < P ∧ Ris P (n + 1) t
theorem Ris.len {P : Nat} : ∀ {frm : Nat} {t : List Int}, Ris P frm t → frm ≤ P → frm + t.length ≤ P
  | _, [], _, h => by simpa using h
  | frm, x :: t, ⟨n, _, h1, h2, h3⟩, _ => by
    have := Ris.len h3 (by omega)
    simp only [List.length_cons]; omega
theorem Ris.mono {P : Nat} : ∀ {frm frm' : Nat} {t : List Int}, Ris P frm t → frm' ≤ frm → Ris P frm' t
  | _, _, [], _, _ => trivial
  | _, _, _ :: _, ⟨n, h0, h1, h2, h3⟩, h => ⟨n, h0, by omega, h2, h3⟩
theorem Ris.erase {P : Nat} : ∀ {frm : Nat} {t : List Int} (k : Nat), Ris P frm t → Ris P frm (t.eraseIdx k)
  | _, [], _, _ => trivial
  | _, _ :: _, 0, ⟨_, _, h1, _, h3⟩ => h3.mono (by omega)
  | _, _ :: _, k + 1, ⟨n, h0, h1, h2, h3⟩ => ⟨n, h0, h1, h2, h3.erase k⟩
theorem Ris.at_ {P : Nat} : ∀ {frm : Nat} {t : List Int}, Ris P frm t → ∀ j (h : j < t.length), ∃ n : Nat, t[j] = (n : Int) ∧ frm ≤ n ∧ n < P
  | _, [], _, j, h => absurd h (by simp)
  | _, x :: t, ⟨n, h0, h1, h2, _⟩, 0, _ => ⟨n, h0, h1, h2⟩
  | _, x :: t, ⟨n, h0, h1, h2, h3⟩, j + 1, h => by
    obtain ⟨m, e, a, b⟩ := h3.at_ j (by simpa using h)
    exact ⟨m, by simpa using e, by omega, b⟩
theorem Ris.lt {P : Nat} : ∀ {frm : Nat} {t : List Int}, Ris P frm t → ∀ j (h : j + 1 < t.length), t[j] < t[j + 1]
  | _, [], _, j, h => absurd h (by simp)
  | _, x :: t, ⟨n, h0, _, _, h3⟩, 0, h => by
    obtain ⟨m, e, a, _⟩ := h3.at_ 0 (by simpa using h)
    simp only [List.getElem_cons_zero, List.getElem_cons_succ, h0, e]; omega
  | _, x :: t, ⟨_, _, _, _, h3⟩, j + 1, h => by
    have := h3.lt j (by simpa using h)
    simpa using this
theorem lp_miss {f : Nat → Int → SR} : ∀ (k i : Nat) (b : Int), 0 ≤ b → (lp f k i b).1 = false → 0 ≤ (lp f k i b).2.2 → ∀ j, i ≤ j → j < i + k → ∃ b', 0 ≤ b' ∧ (f j b').1 = false ∧ 0 ≤ (f j b').2.2
  | 0, _, _, _, _, _ => fun j h1 h2 => by omega
  | k + 1, i, b, hb, h1, h2 => fun j hj1 hj2 => by
    rw [lp_succ] at h1 h2
    split at h1
    · rename_i h; rw [h] at h1; cases h1
    · rename_i h
      rw [if_neg h] at h2
      split at h2
      · simp only at h2; omega
      · rename_i hn
        rw [if_neg hn] at h1
        by_cases e : j = i
        · subst e; exact ⟨b, hb, by simpa using h, by omega⟩
        · exact lp_miss k (i + 1) _ (by omega) h1 h2 j (by omega) (by omega)
/-- where a search finds none and the budget lasts, no set of that size is enough -/
theorem ext_miss (R : List Int → Bool) (P : Nat) : ∀ (m frm : Nat) (set : List Int) (b : Int), 0 ≤ b → (ext R P m frm set b).1 = false → 0 ≤ (ext R P m frm set b).2.2 → ∀ t, t.length = m → Ris P frm t → R (set ++ t) = false
  | 0, _, set, b, _, h1, h2, t, ht, _ => by
    obtain rfl := List.length_eq_zero_iff.1 ht
    unfold ext at h1 h2
    split at h1
    · cases h1
    · rename_i h
      rw [if_neg h] at h2
      have : ¬ R set = true := fun e => h ⟨h2, e⟩
      simpa using this
  | m + 1, frm, set, b, hb, h1, h2, t, ht, hr => by
    cases t with
    | nil => simp at ht
    | cons x t =>
      obtain ⟨n, rfl, h3, h4, h5⟩ := hr
      have h6 := h5.len (by omega)
      simp only [List.length_cons] at ht
      obtain ⟨b', hb', h7, h8⟩ := lp_miss (P - m - frm) frm b hb h1 h2 n h3 (by omega)
      have := ext_miss R P m (n + 1) (set ++ [(n : Int)]) b' hb' h7 h8 t (by omega) h5
      simpa using this
theorem lp_hit {f : Nat → Int → SR} {p : Nat → List Int → Prop} (hf : ∀ j b, (f j b).1 = true → p j (f j b).2.1) : ∀ (k i : Nat) (b : Int), (lp f k i b).1 = true → ∃ j, i ≤ j ∧ j < i + k ∧ p j (lp f k i b).2.1
  | 0, _, _, h => by cases h
  | k + 1, i, b, h => by
    rw [lp_succ] at h ⊢
    split at h
    · rename_i h1; rw [if_pos h1]; exact ⟨i, Nat.le_refl _, by omega, hf _ _ h1⟩
    · rename_i h1
      rw [if_neg h1]
      split at h
      · cases h
      · rename_i h2
        rw [if_neg h2]
        obtain ⟨j, a, b', c⟩ := lp_hit hf k (i + 1) _ h
        exact ⟨j, by omega, by omega, c⟩
theorem ext_hit (R : List Int → Bool) (P : Nat) : ∀ (m frm : Nat) (set : List Int) (b : Int), (ext R P m frm set b).1 = true → ∃ t, (ext R P m frm set b).2.1 = set ++ t ∧ t.length = m ∧ Ris P frm t ∧ R (set ++ t) = true
  | 0, _, set, b, h => by
    unfold ext at h ⊢
    split at h
    · rename_i h1; rw [if_pos h1]; exact ⟨[], by simp, rfl, trivial, by simpa using h1.2⟩
    · cases h
  | m + 1, frm, set, b, h => by
    obtain ⟨j, h1, h2, t, h3, h4, h5, h6⟩ := lp_hit (f := fun i b => ext R P m (i + 1) (set ++ [(i : Int)]) b) (p := fun j s => ∃ t, s = (set ++ [(j : Int)]) ++ t ∧ t.length = m ∧ Ris P (j + 1) t ∧ R ((set ++ [(j : Int)]) ++ t) = true) (fun j b hj => ext_hit R P m (j + 1) _ b hj) (P - m - frm) frm b h
    exact ⟨(j : Int) :: t, by rw [show (ext R P (m + 1) frm set b).2.1 = _ from h3]; simp, by simp [h4], ⟨j, rfl, h1, by omega, h5⟩, by simpa using h6⟩
theorem firstG_hit (R : List Int → Bool) (P : Nat) (s : List Int) (f : Bool) : ∀ (k n : Nat) (b : Int), 0 ≤ b → firstG R P k n b = (some s, f) → n ≤ s.length ∧ Ris P 0 s ∧ R s = true ∧ ∀ t, n ≤ t.length → t.length < s.length → Ris P 0 t → R t = false
  | 0, _, _, _, h => by cases h
  | k + 1, n, b, hb, h => by
    have hbd := ext_budget R P n 0 [] b hb
    unfold firstG at h
    split at h
    · rename_i h1
      obtain ⟨t, h2, h3, h4, h5⟩ := ext_hit R P n 0 [] b h1
      simp only [List.nil_append] at h2 h5
      rw [h2] at h
      simp only [Prod.mk.injEq, Option.some.injEq] at h
      obtain ⟨rfl, _⟩ := h
      exact ⟨by omega, h4, h5, fun u a b => by omega⟩
    · rename_i h1
      split at h
      · cases h
      · rename_i h2
        obtain ⟨h3, h4, h5, h6⟩ := firstG_hit R P s f k (n + 1) _ (by omega) h
        refine ⟨by omega, h4, h5, fun u hu1 hu2 hu3 => ?_⟩
        by_cases e : u.length = n
        · have := ext_miss R P n 0 [] b hb (by simpa using h1) (by omega) u e hu3
          simpa using this
        · exact h6 u (by omega) hu2 hu3
/-- what the search answers -/
theorem fewR_hit {times : List (List Int)} {limit budget : Int} (h : (fewR times limit budget).2 = 0) : fewOk times limit budget = true ∧ Ris (headLen times) 0 (fewR times limit budget).1 ∧ rightB times limit (fewR times limit budget).1 = true ∧ ∀ t, t.length < (fewR times limit budget).1.length → Ris (headLen times) 0 t → rightB times limit t = false := by
  cases hk : fewOk times limit budget
  · rw [fewR_a hk] at h; cases h
  · cases hf : firstG (rightB times limit) (headLen times) (headLen times + 1) 0 budget with
    | mk o f =>
      cases o with
      | none => rw [fewR_n hk hf] at h; cases f <;> simp at h
      | some s =>
        rw [fewR_s hk hf]
        have hb : 0 ≤ budget := by unfold fewOk inB at hk; simp at hk; omega
        obtain ⟨_, h1, h2, h3⟩ := firstG_hit _ _ s f _ _ _ hb hf
        exact ⟨rfl, h1, h2, fun t a b => h3 t (Nat.zero_le _) a b⟩
theorem fewR_less {times : List (List Int)} {limit budget : Int} (h : (fewR times limit budget).2 = 0) (k : Nat) (hk : k < (fewR times limit budget).1.length) : rightB times limit ((fewR times limit budget).1.eraseIdx k) = false := by
  obtain ⟨_, h1, _, h3⟩ := fewR_hit h
  refine h3 _ ?_ (h1.erase k)
  rw [List.length_eraseIdx, if_pos hk]; omega
theorem erase_take {s : List Int} {i k : Nat} (hi : i < s.length) (hk : k < s.length) : (s.take (i + 1)).eraseIdx k = if i = k then (s.take i).eraseIdx k else (s.take i).eraseIdx k ++ [s[i]] := by
  rw [List.take_succ_eq_append_getElem hi]
  have hl : (s.take i).length = i := by rw [List.length_take]; omega
  split
  · rename_i e
    subst e
    rw [List.eraseIdx_append_of_length_le (by omega), hl, Nat.sub_self]
    simp
    exact (List.eraseIdx_of_length_le (by omega)).symm
  · rename_i e
    rcases Nat.lt_or_ge i k with h | h
    · rw [List.eraseIdx_of_length_le (by simp; omega), List.eraseIdx_of_length_le (by omega)]
    · rw [List.eraseIdx_append_of_lt_length (by omega)]
end Go.Proofs.Ytopjccbjdcoanaa
