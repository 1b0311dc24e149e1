/- How many checks a day are enough: the plain law. The dues in order; the k-th check is done at the k-th place of the plan. No program in sight. -/
import Derived.Test.YtcocdigcmcpefaaMedQ
namespace Go.Proofs.Ytcocdigcmcpefaa
set_option linter.unusedVariables false
open Go.RowKit
/-- a list in order -/
def ord (D : List Int) : List Int := D.mergeSort leI
theorem ord_perm (D : List Int) : (ord D).Perm D := List.mergeSort_perm _ _
theorem ord_sorted (D : List Int) : (ord D).Pairwise (· ≤ ·) := by
  have := List.pairwise_mergeSort (le := leI) (fun a b c h1 h2 => by unfold leI at *; simp at *; omega) (fun a b => by unfold leI; simp; omega) D
  exact this.imp (fun h => by unfold leI at h; simpa using h)
theorem ord_len (D : List Int) : (ord D).length = D.length := List.length_mergeSort _
theorem ord_eq {D L : List Int} (h : L.Perm D ∧ L.Pairwise (· ≤ ·)) : L = ord D := sorted_unique L _ (h.1.trans (ord_perm D).symm) h.2 (ord_sorted D)
/-- the k-th check is not late -/
def inTime (D : List Int) (frm : Int) (n k : Nat) : Bool := decide (frm + ((k / n : Nat) : Int) ≤ at0 (ord D) k)
def spreadB (D : List Int) (frm : Int) (n : Nat) : Bool := (List.range D.length).all (inTime D frm n)
theorem spreadB_no {D : List Int} {frm : Int} {n k : Nat} (hk : k < D.length) (h : at0 (ord D) k < frm + ((k / n : Nat) : Int)) : spreadB D frm n = false := by
  rw [Bool.eq_false_iff]; intro hh; unfold spreadB at hh; rw [List.all_eq_true] at hh
  have := hh k (by simpa using hk); unfold inTime at this; simp at this; omega
theorem spreadB_yes {D : List Int} {frm : Int} {n : Nat} (h : ∀ k, k < D.length → inTime D frm n k = true) : spreadB D frm n = true := by
  unfold spreadB; rw [List.all_eq_true]; intro k hk; exact h k (by simpa using hk)
/-- the dues of the checks that are not yet planned -/
def und : List Int → List Int → List Int
  | o :: os, d :: ds => if o < 0 then d :: und os ds else und os ds
  | _, _ => []
theorem und_all : ∀ (os ds : List Int), os.length = ds.length → (∀ o ∈ os, o < 0) → und os ds = ds
  | [], [], _, _ => rfl
  | [], d :: ds, h, _ => by simp at h
  | o :: os, [], h, _ => by simp at h
  | o :: os, d :: ds, h, ho => by
    unfold und; rw [if_pos (ho o (List.mem_cons_self ..)), und_all os ds (by simpa using h) (fun x hx => ho x (List.mem_cons_of_mem _ hx))]
theorem und_set : ∀ (os ds : List Int) (b : Nat) (x : Int), os.length = ds.length → (h : b < os.length) → os[b] < 0 → 0 ≤ x → (und os ds).Perm (at0 ds b :: und (os.set b x) ds)
  | [], _, b, _, _, h, _, _ => by simp at h
  | o :: os, [], _, _, h, _, _, _ => by simp at h
  | o :: os, d :: ds, 0, x, _, _, h, hx => by
    simp only [List.set_cons_zero, und]
    have h' : o < 0 := h
    rw [if_pos h', if_neg (by omega)]; exact List.Perm.refl _
  | o :: os, d :: ds, b + 1, x, hl, hb, h, hx => by
    have ih := und_set os ds b x (by simpa using hl) (by simpa using hb) (by simpa using h) hx
    have e : at0 (d :: ds) (b + 1) = at0 ds b := rfl
    simp only [List.set_cons_succ, und]
    rw [e]
    split
    · exact (ih.cons d).trans (List.Perm.swap ..)
    · exact ih
theorem und_mem : ∀ (os ds : List Int) (j : Nat), os.length = ds.length → (h : j < os.length) → os[j] < 0 → at0 ds j ∈ und os ds
  | [], _, _, _, h, _ => by simp at h
  | o :: os, [], _, h, _, _ => by simp at h
  | o :: os, d :: ds, 0, _, _, h => by simp only [und]; have h' : o < 0 := h; rw [if_pos h']; exact List.mem_cons_self ..
  | o :: os, d :: ds, j + 1, hl, hj, h => by
    have ih := und_mem os ds j (by simpa using hl) (by simpa using hj) (by simpa using h)
    have e : at0 (d :: ds) (j + 1) = at0 ds j := rfl
    rw [e]; simp only [und]
    split
    · exact List.mem_cons_of_mem _ ih
    · exact ih
theorem und_of : ∀ (os ds : List Int) (x : Int), os.length = ds.length → x ∈ und os ds → ∃ (j : Nat) (h : j < os.length), os[j] < 0 ∧ at0 ds j = x
  | [], _, _, _, h => by unfold und at h; cases h
  | o :: os, [], _, h, _ => by simp at h
  | o :: os, d :: ds, x, hl, h => by
    simp only [und] at h
    have key : x ∈ und os ds → ∃ (j : Nat) (h : j < (o :: os).length), (o :: os)[j] < 0 ∧ at0 (d :: ds) j = x := fun h => by
      obtain ⟨j, hj, h1, h2⟩ := und_of os ds x (by simpa using hl) h
      exact ⟨j + 1, by simpa using hj, by simpa using h1, h2⟩
    split at h
    · rename_i ho
      rcases List.mem_cons.1 h with rfl | h
      · exact ⟨0, by simp, ho, rfl⟩
      · exact key h
    · exact key h
/-- the choice so far: none is open below i, or b is the open one with the least due -/
def Best (os ds : List Int) (i : Nat) (best : Int) : Prop :=
  (best = -1 ∧ ∀ j (h : j < os.length), j < i → ¬ os[j] < 0) ∨ (∃ b : Nat, best = b ∧ b < i ∧ ∃ h : b < os.length, os[b] < 0 ∧ ∀ j (h : j < os.length), j < i → os[j] < 0 → at0 ds b ≤ at0 ds j)
theorem Best.zero (os ds : List Int) : Best os ds 0 (-1) := .inl ⟨rfl, fun j _ h => by omega⟩
theorem Best.skip {os ds : List Int} {i : Nat} {best : Int} (h : Best os ds i best) (hi : i < os.length) (ho : ¬ os[i] < 0) : Best os ds (i + 1) best := by
  rcases h with ⟨rfl, h⟩ | ⟨b, rfl, hb, hb2, h1, h2⟩
  · refine .inl ⟨rfl, fun j hj hji => ?_⟩
    rcases Nat.lt_succ_iff_lt_or_eq.1 hji with h3 | rfl
    · exact h j hj h3
    · exact ho
  · refine .inr ⟨b, rfl, by omega, hb2, h1, fun j hj hji hjo => ?_⟩
    rcases Nat.lt_succ_iff_lt_or_eq.1 hji with h3 | rfl
    · exact h2 j hj h3 hjo
    · exact absurd hjo ho
theorem Best.take {os ds : List Int} {i : Nat} {best : Int} (h : Best os ds i best) (hi : i < os.length) (ho : os[i] < 0) (hl : ∀ b : Nat, best = b → at0 ds i < at0 ds b) : Best os ds (i + 1) i := by
  refine .inr ⟨i, rfl, by omega, hi, ho, fun j hj hji hjo => ?_⟩
  rcases Nat.lt_succ_iff_lt_or_eq.1 hji with h3 | rfl
  · rcases h with ⟨rfl, h⟩ | ⟨b, rfl, hb, hb2, h1, h2⟩
    · exact absurd hjo (h j hj h3)
    · have := h2 j hj h3 hjo; have := hl b rfl; omega
  · exact Int.le_refl _
theorem Best.leave {os ds : List Int} {i b : Nat} (h : Best os ds i b) (hi : i < os.length) (hl : at0 ds b ≤ at0 ds i) : Best os ds (i + 1) b := by
  rcases h with ⟨h0, _⟩ | ⟨b', e, hb, hb2, h1, h2⟩
  · omega
  · obtain rfl : b = b' := by omega
    refine .inr ⟨b, rfl, by omega, hb2, h1, fun j hj hji hjo => ?_⟩
    rcases Nat.lt_succ_iff_lt_or_eq.1 hji with h3 | rfl
    · exact h2 j hj h3 hjo
    · exact hl
/-- k checks are planned, those with the least dues -/
def Sel (os ds : List Int) (frm : Int) (n k : Nat) : Prop := os.length = ds.length ∧ k ≤ ds.length ∧ (und os ds).Perm ((ord ds).drop k) ∧ ∀ j, j < k → inTime ds frm n j = true
theorem Sel.zero {os ds : List Int} {frm : Int} {n : Nat} (hl : os.length = ds.length) (ho : ∀ o ∈ os, o < 0) : Sel os ds frm n 0 :=
  ⟨hl, Nat.zero_le _, by rw [und_all os ds hl ho]; simpa using (ord_perm ds).symm, fun j h => by omega⟩
theorem Sel.best {os ds : List Int} {frm : Int} {n k : Nat} (h : Sel os ds frm n k) (hk : k < ds.length) {best : Int} (hb : Best os ds os.length best) : ∃ b : Nat, best = b ∧ ∃ h : b < os.length, os[b] < 0 ∧ at0 ds b = at0 (ord ds) k := by
  obtain ⟨hl, _, hp, _⟩ := h
  have hk' : k < (ord ds).length := by rw [ord_len]; exact hk
  have hd : (ord ds).drop k = at0 (ord ds) k :: (ord ds).drop (k + 1) := by rw [List.drop_eq_getElem_cons hk', at0_of hk']
  rw [hd] at hp
  obtain ⟨j, hj, hjo, hje⟩ := und_of os ds _ hl (hp.symm.subset (List.mem_cons_self ..))
  rcases hb with ⟨_, h⟩ | ⟨b, rfl, _, hb2, h1, h2⟩
  · exact absurd hjo (h j hj hj)
  · refine ⟨b, rfl, hb2, h1, ?_⟩
    have h3 := h2 j hj hj hjo
    rw [hje] at h3
    have h4 := hp.subset (und_mem os ds b hl hb2 h1)
    have h5 : at0 (ord ds) k ≤ at0 ds b := by
      rcases List.mem_cons.1 h4 with e | e
      · omega
      · have hs := ord_sorted ds
        rw [← List.take_append_drop k (ord ds), hd, List.pairwise_append, List.pairwise_cons] at hs
        exact hs.2.1.1 _ e
    omega
theorem Sel.next {os ds : List Int} {frm : Int} {n k : Nat} (h : Sel os ds frm n k) (hk : k < ds.length) {b : Nat} (hb : b < os.length) (ho : os[b] < 0) (he : at0 ds b = at0 (ord ds) k) {x : Int} (hx : 0 ≤ x) (ht : frm + ((k / n : Nat) : Int) ≤ at0 ds b) : Sel (os.set b x) ds frm n (k + 1) := by
  obtain ⟨hl, _, hp, hj⟩ := h
  have hk' : k < (ord ds).length := by rw [ord_len]; exact hk
  have hd : (ord ds).drop k = at0 (ord ds) k :: (ord ds).drop (k + 1) := by rw [List.drop_eq_getElem_cons hk', at0_of hk']
  refine ⟨by simpa using hl, by omega, ?_, fun j hjk => ?_⟩
  · have h1 := (und_set os ds b x hl hb ho hx).symm.trans hp
    rw [hd, he] at h1
    exact List.Perm.cons_inv h1
  · rcases Nat.lt_succ_iff_lt_or_eq.1 hjk with h3 | rfl
    · exact hj j h3
    · unfold inTime; rw [← he]; simpa using ht
theorem Sel.end_ {os ds : List Int} {frm : Int} {n : Nat} (h : Sel os ds frm n ds.length) : spreadB ds frm n = true := spreadB_yes h.2.2.2
/-- the least number from n on, k of them -/
def leastN (p : Nat → Bool) : Nat → Nat → Option Nat
  | 0, _ => none
  | k + 1, n => if p n then some n else leastN p k (n + 1)
theorem leastN_yes (p : Nat → Bool) (k n : Nat) (h : p n = true) : leastN p (k + 1) n = some n := by unfold leastN; rw [if_pos h]
theorem leastN_no (p : Nat → Bool) (k n : Nat) (h : p n = false) : leastN p (k + 1) n = leastN p k (n + 1) := by
  show (if p n then some n else leastN p k (n + 1)) = _; rw [if_neg (by rw [h]; simp)]
end Go.Proofs.Ytcocdigcmcpefaa
