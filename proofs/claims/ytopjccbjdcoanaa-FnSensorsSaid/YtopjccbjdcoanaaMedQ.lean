/- Sorting a list of numbers by insertion: the plain law. No program in sight. -/
import Derived.Test.YtopjccbjdcoanaaMed
namespace Go.Proofs.Ytopjccbjdcoanaa
set_option linter.unusedVariables false
open Go.RowKit
def at0 (L : List Int) (p : Nat) : Int := L.getD p 0
theorem at0_of {L : List Int} {p : Nat} (h : p < L.length) : L[p] = at0 L p := by unfold at0; rw [List.getD_eq_getElem?_getD, List.getElem?_eq_getElem h]; rfl
/-- a row that is in order below i -/
def Upto (ns : List Int) (i : Nat) (L : List Int) : Prop := L.Perm ns ∧ ∀ p q, p < q → q < i → q < L.length → at0 L p ≤ at0 L q
/-- in order up to i, but for the element at j, which is on its way down -/
def InsI (ns : List Int) (i j : Nat) (L : List Int) : Prop := L.Perm ns ∧ (∀ p q, p < q → q ≤ i → p ≠ j → q ≠ j → at0 L p ≤ at0 L q) ∧ ∀ q, j < q → q ≤ i → at0 L j ≤ at0 L q
theorem Upto.zero (ns : List Int) : Upto ns 1 ns := ⟨.refl _, fun p q h1 h2 _ => by omega⟩
theorem Upto.ins {ns L : List Int} {i : Nat} (h : Upto ns i L) (hi : i < L.length) : InsI ns i i L := ⟨h.1, fun p q h1 h2 _ h3 => h.2 p q h1 (by omega) (by omega), fun q h1 h2 => by omega⟩
theorem at0_set {L : List Int} {k : Nat} {x : Int} (hk : k < L.length) (p : Nat) : at0 (L.set k x) p = if p = k then x else at0 L p := by
  unfold at0
  simp only [List.getD_eq_getElem?_getD, List.getElem?_set]
  by_cases h : k = p
  · subst h; simp [hk]
  · rw [if_neg h, if_neg (fun e => h e.symm)]
def swp (L : List Int) (j : Nat) : List Int := (L.set j (at0 L (j - 1))).set (j - 1) (at0 L j)
theorem swp_len (L : List Int) (j : Nat) : (swp L j).length = L.length := by simp [swp]
theorem at0_swp {L : List Int} {j : Nat} (hj : j < L.length) (p : Nat) : at0 (swp L j) p = if p = j - 1 then at0 L j else if p = j then at0 L (j - 1) else at0 L p := by
  unfold swp; rw [at0_set (by simp; omega), at0_set hj]
theorem swp_perm {L : List Int} {j : Nat} (hj : j < L.length) : (swp L j).Perm L := by
  have := @List.set_set_perm Int L j (j - 1) hj (by omega)
  unfold swp; rw [← at0_of hj, ← at0_of (by omega : j - 1 < L.length)]; exact this
theorem InsI.step {ns L : List Int} {i j : Nat} (h : InsI ns i j L) (hj : 0 < j) (hji : j ≤ i) (hi : i < L.length) (hl : at0 L j < at0 L (j - 1)) : InsI ns i (j - 1) (swp L j) := by
  obtain ⟨h1, h2, h3⟩ := h
  have hjl : j < L.length := by omega
  refine ⟨(swp_perm hjl).trans h1, fun p q hpq hq hp1 hq1 => ?_, fun q hq1 hq2 => ?_⟩
  · rw [at0_swp hjl, at0_swp hjl, if_neg hp1, if_neg hq1]
    by_cases ep : p = j
    · subst ep; rw [if_pos rfl, if_neg (by omega)]; exact h2 (p - 1) q (by omega) hq (by omega) (by omega)
    · rw [if_neg ep]
      by_cases eq : q = j
      · subst eq; rw [if_pos rfl]; exact h2 p (q - 1) (by omega) (by omega) ep (by omega)
      · rw [if_neg eq]; exact h2 p q hpq hq ep eq
  · rw [at0_swp hjl, at0_swp hjl, if_pos rfl, if_neg (by omega)]
    by_cases eq : q = j
    · subst eq; rw [if_pos rfl]; omega
    · rw [if_neg eq]; exact h3 q (by omega) hq2
theorem InsI.stop {ns L : List Int} {i j : Nat} (h : InsI ns i j L) (hji : j ≤ i) (hs : j = 0 ∨ at0 L (j - 1) ≤ at0 L j) : Upto ns (i + 1) L := by
  obtain ⟨h1, h2, h3⟩ := h
  refine ⟨h1, fun p q hpq hq _ => ?_⟩
  by_cases ep : p = j
  · subst ep; exact h3 q hpq (by omega)
  · by_cases eq : q = j
    · subst eq
      rcases hs with rfl | hs
      · omega
      · by_cases e : p = q - 1
        · subst e; exact hs
        · exact Int.le_trans (h2 p (q - 1) (by omega) (by omega) ep (by omega)) hs
    · exact h2 p q hpq (by omega) ep eq
theorem Upto.end_ {ns L : List Int} {i : Nat} (h : Upto ns i L) (hi : L.length ≤ i) : L.Perm ns ∧ L.Pairwise (· ≤ ·) := by
  refine ⟨h.1, List.pairwise_iff_getElem.2 fun p q hp hq hpq => ?_⟩
  rw [at0_of hp, at0_of hq]; exact h.2 p q hpq (by omega) hq
theorem perm_srt {ns L M : List Int} (hM : M = ns.filter fun x => decide (¬ x = -1)) (h : L.Perm M ∧ L.Pairwise (· ≤ ·)) : L = srt ns := srt_eq (hM ▸ h.1) h.2
end Go.Proofs.Ytopjccbjdcoanaa
