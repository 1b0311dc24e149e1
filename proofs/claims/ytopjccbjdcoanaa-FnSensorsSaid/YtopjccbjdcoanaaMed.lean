/- The middle of a list of numbers, the -1s left out: the plain law. No program in sight. -/
import Derived.Test.YtopjccbjdcoanaaNums
namespace Go.Proofs.Ytopjccbjdcoanaa
set_option linter.unusedVariables false
open Go.RowKit
def leI (a b : Int) : Bool := decide (a ≤ b)
def srt (ns : List Int) : List Int := (ns.filter fun x => decide (¬ x = -1)).mergeSort leI
def mid (ns : List Int) : Int := if srt ns = [] then -1 else (srt ns).getD (((srt ns).length - 1) / 2) 0
theorem sorted_unique : ∀ (a b : List Int), a.Perm b → a.Pairwise (· ≤ ·) → b.Pairwise (· ≤ ·) → a = b
  | [], b, h, _, _ => (List.nil_perm.1 h).symm
  | x :: a, [], h, _, _ => by have := h.length_eq; simp at this
  | x :: a, y :: b, h, ha, hb => by
    have h1 : x ∈ y :: b := h.subset (List.mem_cons_self ..)
    have h2 : y ∈ x :: a := h.symm.subset (List.mem_cons_self ..)
    have h3 : y ≤ x := by
      rcases List.mem_cons.1 h1 with e | e
      · omega
      · exact (List.pairwise_cons.1 hb).1 x e
    have h4 : x ≤ y := by
      rcases List.mem_cons.1 h2 with e | e
      · omega
      · exact (List.pairwise_cons.1 ha).1 y e
    obtain rfl : x = y := by omega
    rw [sorted_unique a b (List.perm_cons x |>.1 h) (List.pairwise_cons.1 ha).2 (List.pairwise_cons.1 hb).2]
theorem srt_eq {ns L : List Int} (h : L.Perm (ns.filter fun x => decide (¬ x = -1))) (hs : L.Pairwise (· ≤ ·)) : L = srt ns := by
  refine sorted_unique L _ (h.trans (List.mergeSort_perm _ _).symm) hs ?_
  have := List.pairwise_mergeSort (le := leI) (fun a b c h1 h2 => by unfold leI at *; simp at *; omega) (fun a b => by unfold leI; simp; omega) (ns.filter fun x => decide (¬ x = -1))
  exact this.imp (fun h => by unfold leI at h; simpa using h)
theorem srt_len (ns : List Int) : (srt ns).length ≤ ns.length := by unfold srt; rw [List.length_mergeSort]; exact List.length_filter_le ..
/-- one number put in its place -/
theorem ins_sorted {L : List Int} {r : Int} {k : Nat} (hk : k ≤ L.length) (hs : L.Pairwise (· ≤ ·)) (h1 : ∀ j (h : j < L.length), k ≤ j → r < L[j]) (h2 : ∀ h : 0 < k, L[k - 1]'(by omega) ≤ r) : (L.take k ++ r :: L.drop k).Pairwise (· ≤ ·) := by
  rw [List.pairwise_append, List.pairwise_cons]
  have hlt : ∀ a ∈ L.take k, a ≤ r := fun a ha => by
    obtain ⟨j, hj, rfl⟩ := List.getElem_of_mem ha
    rw [List.length_take] at hj
    rw [List.getElem_take]
    have h0 := h2 (by omega)
    by_cases e : j = k - 1
    · subst e; exact h0
    · have := List.pairwise_iff_getElem.1 hs j (k - 1) (by omega) (by omega) (by omega)
      omega
  have hgt : ∀ b ∈ L.drop k, r ≤ b := fun b hb => by
    obtain ⟨j, hj, rfl⟩ := List.getElem_of_mem hb
    rw [List.length_drop] at hj
    rw [List.getElem_drop]
    have := h1 (k + j) (by omega) (by omega)
    omega
  refine ⟨hs.sublist (List.take_sublist ..), ⟨hgt, hs.sublist (List.drop_sublist ..)⟩, fun a ha b hb => ?_⟩
  rcases List.mem_cons.1 hb with rfl | hb
  · exact hlt a ha
  · exact Int.le_trans (hlt a ha) (hgt b hb)
theorem ins_perm (L : List Int) (r : Int) (k : Nat) : (L.take k ++ r :: L.drop k).Perm (L ++ [r]) := by
  have h1 : (L.take k ++ r :: L.drop k).Perm (r :: (L.take k ++ L.drop k)) := List.perm_middle
  rw [List.take_append_drop] at h1
  exact h1.trans (List.perm_append_singleton r L).symm
def Med (ns : List Int) (k : Nat) (L : List Int) : Prop := L.Perm ((ns.take k).filter fun x => decide (¬ x = -1)) ∧ L.Pairwise (· ≤ ·)
theorem Med.zero (ns : List Int) : Med ns 0 [] := ⟨by simp, by simp⟩
theorem Med.skip {ns L : List Int} {k : Nat} (h : Med ns k L) (hk : k < ns.length) (hr : ns[k] = -1) : Med ns (k + 1) L := by
  refine ⟨?_, h.2⟩
  rw [List.take_succ_eq_append_getElem hk, List.filter_append, List.filter_cons_of_neg (by simpa using hr)]
  simpa using h.1
theorem Med.put {ns L : List Int} {k i : Nat} (h : Med ns k L) (hk : k < ns.length) (hr : ¬ ns[k] = -1) (hi : i ≤ L.length) (h1 : ∀ j (h : j < L.length), i ≤ j → ns[k] < L[j]) (h2 : ∀ h : 0 < i, L[i - 1]'(by omega) ≤ ns[k]) : Med ns (k + 1) (L.take i ++ ns[k] :: L.drop i) := by
  refine ⟨?_, ins_sorted hi h.2 h1 h2⟩
  rw [List.take_succ_eq_append_getElem hk, List.filter_append, List.filter_cons_of_pos (by simpa using hr)]
  exact (ins_perm L ns[k] i).trans (h.1.append_right _)
theorem Med.end_ {ns L : List Int} (h : Med ns ns.length L) : L = srt ns := by
  have := h.1; rw [List.take_length] at this; exact srt_eq this h.2
theorem Med.len {ns L : List Int} {k : Nat} (h : Med ns k L) : L.length ≤ k := by
  have := h.1.length_eq
  have h2 := List.length_filter_le (fun x => decide (¬ x = -1)) (ns.take k)
  rw [List.length_take] at h2
  omega
theorem mid_nil {ns : List Int} (h : srt ns = []) : mid ns = -1 := by unfold mid; rw [if_pos h]
theorem mid_at {ns : List Int} (h : ¬ srt ns = []) (hk : ((srt ns).length - 1) / 2 < (srt ns).length) : mid ns = (srt ns)[((srt ns).length - 1) / 2] := by
  unfold mid; rw [if_neg h, List.getD_eq_getElem?_getD, List.getElem?_eq_getElem hk]; rfl
end Go.Proofs.Ytopjccbjdcoanaa
