/- The day with the most checks of a plan: the plain law. No program in sight. -/
import Derived.Test.YtcocdigcmcpefaaE25
namespace Go.Proofs.Ytcocdigcmcpefaa
set_option linter.unusedVariables false
open Go.RowKit
/-- how often a day stands in a list -/
def cnt (ds : List Int) (d : Int) : Int := (ds.countP fun x => decide (x = d) : Nat)
theorem cnt_nn (ds : List Int) (d : Int) : 0 ≤ cnt ds d ∧ cnt ds d ≤ ds.length := by
  unfold cnt; have := List.countP_le_length (p := fun x => decide (x = d)) (l := ds); omega
theorem cnt_pos {ds : List Int} {d : Int} (h : d ∈ ds) : 1 ≤ cnt ds d := by
  unfold cnt
  have : 0 < ds.countP fun x => decide (x = d) := List.countP_pos_iff.2 ⟨d, h, by simp⟩
  omega
theorem cnt_take {ds : List Int} {k : Nat} (h : k < ds.length) (d : Int) : cnt (ds.take (k + 1)) d = cnt (ds.take k) d + if ds[k] = d then 1 else 0 := by
  unfold cnt
  rw [List.take_succ_eq_append_getElem h, List.countP_append, List.countP_singleton]
  split <;> simp_all
theorem cnt_all (ds : List Int) (d : Int) : cnt (ds.take ds.length) d = cnt ds d := by rw [List.take_length]
theorem cnt_zero (ds : List Int) (d : Int) : cnt (ds.take 0) d = 0 := rfl
/-- the best of some days so far, and how often it stands -/
def BusyTo (ds ks : List Int) (b m : Int) : Prop := (ks = [] ∧ b = 0 ∧ m = 0) ∨ (b ∈ ks ∧ m = cnt ds b ∧ ∀ d ∈ ks, cnt ds d < m ∨ (cnt ds d = m ∧ b ≤ d))
theorem BusyTo.zero (ds : List Int) : BusyTo ds [] 0 0 := .inl ⟨rfl, rfl, rfl⟩
theorem BusyTo.bd {ds ks : List Int} {b m : Int} (h : BusyTo ds ks b m) : 0 ≤ m ∧ m ≤ ds.length := by
  rcases h with ⟨_, _, rfl⟩ | ⟨_, rfl, _⟩
  · omega
  · exact cnt_nn ds b
theorem BusyTo.take_ {ds ks : List Int} {b m d : Int} (h : BusyTo ds ks b m) (hn : m < cnt ds d ∨ (cnt ds d = m ∧ d < b)) : BusyTo ds (ks ++ [d]) d (cnt ds d) := by
  refine .inr ⟨by simp, rfl, fun x hx => ?_⟩
  rcases List.mem_append.1 hx with hx | hx
  · rcases h with ⟨rfl, _, _⟩ | ⟨_, _, h3⟩
    · cases hx
    · have := h3 x hx; omega
  · obtain rfl : x = d := by simpa using hx
    exact .inr ⟨rfl, Int.le_refl _⟩
theorem BusyTo.keep_ {ds ks : List Int} {b m d : Int} (h : BusyTo ds ks b m) (hd : d ∈ ds) (hn : cnt ds d < m ∨ (cnt ds d = m ∧ b ≤ d)) : BusyTo ds (ks ++ [d]) b m := by
  rcases h with ⟨rfl, rfl, rfl⟩ | ⟨h1, h2, h3⟩
  · have := cnt_pos hd; omega
  · refine .inr ⟨by simp [h1], h2, fun x hx => ?_⟩
    rcases List.mem_append.1 hx with hx | hx
    · exact h3 x hx
    · obtain rfl : x = d := by simpa using hx
      exact hn
theorem BusyTo.uniq {ds ks ks' : List Int} {b m b' m' : Int} (h : BusyTo ds ks b m) (h' : BusyTo ds ks' b' m') (he : ∀ x, x ∈ ks ↔ x ∈ ks') : b = b' ∧ m = m' := by
  rcases h with ⟨rfl, rfl, rfl⟩ | ⟨h1, h2, h3⟩
  · rcases h' with ⟨_, rfl, rfl⟩ | ⟨h1', _, _⟩
    · exact ⟨rfl, rfl⟩
    · have := (he b').2 h1'; cases this
  · rcases h' with ⟨rfl, _, _⟩ | ⟨h1', h2', h3'⟩
    · have := (he b).1 h1; cases this
    · have a := h3 b' ((he b').2 h1')
      have a' := h3' b ((he b).1 h1)
      omega
def bStep (ds : List Int) (p : Int × Int) (d : Int) : Int × Int := if p.2 < cnt ds d ∨ (cnt ds d = p.2 ∧ d < p.1) then (d, cnt ds d) else p
def bTo (ds : List Int) (k : Nat) : Int × Int := (ds.take k).foldl (bStep ds) (0, 0)
theorem bTo_succ {ds : List Int} {k : Nat} (h : k < ds.length) : bTo ds (k + 1) = bStep ds (bTo ds k) ds[k] := by
  unfold bTo; rw [List.take_succ_eq_append_getElem h, List.foldl_append]; rfl
theorem bTo_zero (ds : List Int) : bTo ds 0 = (0, 0) := rfl
theorem bTo_ok (ds : List Int) : ∀ k, k ≤ ds.length → BusyTo ds (ds.take k) (bTo ds k).1 (bTo ds k).2
  | 0, _ => .inl ⟨rfl, rfl, rfl⟩
  | k + 1, hk => by
    have ih := bTo_ok ds k (by omega)
    rw [bTo_succ (by omega : k < ds.length), List.take_succ_eq_append_getElem (by omega : k < ds.length)]
    unfold bStep
    split
    · rename_i h; exact ih.take_ h
    · rename_i h; exact ih.keep_ (List.getElem_mem _) (by omega)
theorem bStep_yes {ds : List Int} {b m d : Int} (h : m < cnt ds d ∨ (cnt ds d = m ∧ d < b)) : bStep ds (b, m) d = (d, cnt ds d) := if_pos h
theorem bStep_no {ds : List Int} {b m d : Int} (h : ¬ (m < cnt ds d ∨ (cnt ds d = m ∧ d < b))) : bStep ds (b, m) d = (b, m) := if_neg h
def busyR (ds : List Int) : Int × Int × Int := if daysB ds then (if ds = [] then (0, 0, 3) else ((bTo ds ds.length).1, (bTo ds ds.length).2, 0)) else (0, 0, 7)
theorem busyR_a {ds : List Int} (h : daysB ds = false) : busyR ds = (0, 0, 7) := by unfold busyR; rw [h]; rfl
theorem busyR_b {ds : List Int} (h : daysB ds = true) (h2 : ds.length = 0) : busyR ds = (0, 0, 3) := by unfold busyR; rw [h, if_pos rfl, if_pos (List.length_eq_zero_iff.1 h2)]
theorem busyR_c {ds : List Int} (h : daysB ds = true) (h2 : ds.length ≠ 0) : busyR ds = ((bTo ds ds.length).1, (bTo ds ds.length).2, 0) := by
  unfold busyR; rw [h, if_pos rfl, if_neg (fun e => h2 (by rw [e]; rfl))]
/-- the program's way: the days in order, each once; a later day must stand more often -/
theorem BusyTo.key_take {ds ks : List Int} {b m d : Int} (h : BusyTo ds ks b m) (hn : m < cnt ds d) : BusyTo ds (ks ++ [d]) d (cnt ds d) := h.take_ (.inl hn)
theorem BusyTo.key_keep {ds ks : List Int} {b m d : Int} (h : BusyTo ds ks b m) (hd : d ∈ ds) (hs : ∀ x ∈ ks, x < d) (hn : ¬ m < cnt ds d) : BusyTo ds (ks ++ [d]) b m := by
  refine h.keep_ hd ?_
  rcases h with ⟨_, _, rfl⟩ | ⟨h1, _, _⟩
  · have := cnt_pos hd; omega
  · have := hs b h1; omega
theorem BusyTo.end_ {ds ks : List Int} {b m : Int} (h : BusyTo ds ks b m) (he : ∀ x, x ∈ ks ↔ x ∈ ds) : b = (bTo ds ds.length).1 ∧ m = (bTo ds ds.length).2 := by
  have h2 := bTo_ok ds ds.length (Nat.le_refl _)
  rw [List.take_length] at h2
  exact h.uniq h2 he
end Go.Proofs.Ytcocdigcmcpefaa
