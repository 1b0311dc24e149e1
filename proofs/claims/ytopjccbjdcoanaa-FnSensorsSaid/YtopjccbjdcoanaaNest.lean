/- Slices of slices in memory: a slice whose elements hold, each, the value of a further slice. Plain; no program in sight. -/
import Derived.Test.YtopjccbjdcoanaaAppN
namespace Go.Proofs.Ytopjccbjdcoanaa
set_option linter.unusedVariables false
open Go.RowKit
/-- how elements that hold a slice lie in memory: the element's cells (given the inner slice's value), the inner slice's cells an element, its length and its cells -/
structure Nest (α : Type) where
  K : Nat
  enc : α × Value → List Value
  k : Nat
  n : α → Nat
  sub : α → List Value
/-- the length of all inner slices -/
def totN {α : Type} (N : Nest α) (xs : List α) : Nat := (xs.map N.n).sum
theorem totN_succ {α : Type} (N : Nest α) (xs : List α) (k : Nat) (h : k < xs.length) : totN N (xs.take (k + 1)) = totN N (xs.take k) + N.n xs[k] := by
  unfold totN; rw [List.take_succ_eq_append_getElem h, List.map_append, List.sum_append]; simp
theorem totN_le {α : Type} (N : Nest α) (xs : List α) (k : Nat) : totN N (xs.take k) ≤ totN N xs := by
  conv => rhs; rw [← List.take_append_drop k xs]
  unfold totN; rw [List.map_append, List.sum_append]; omega
theorem totN_mem {α : Type} (N : Nest α) (xs : List α) (k : Nat) (h : k < xs.length) : N.n xs[k] ≤ totN N xs := by
  have h1 := totN_succ N xs k h
  have h2 := totN_le N xs (k + 1)
  omega
section
variable {α : Type} {N : Nest α} {lo hi : Nat} {w w' : World} {v : Value} {xs : List α}
/-- v reads as the list xs -/
def SlN (N : Nest α) (lo hi : Nat) (w : World) (v : Value) (xs : List α) : Prop :=
  ∃ ys : List (α × Value), ys.map Prod.fst = xs ∧ Sl lo hi w N.K v xs.length (flat N.enc ys) ∧ ∀ p ∈ ys, Sl lo hi w N.k p.2 (N.n p.1) (N.sub p.1)
theorem SlN.ext (h : SlN N lo hi w v xs) (hE : Ext w w') : SlN N lo hi w' v xs := by
  obtain ⟨ys, h1, h2, h3⟩ := h; exact ⟨ys, h1, h2.ext hE, fun p hp => (h3 p hp).ext hE⟩
theorem SlN.keep {a b : Nat} (h : SlN N lo hi w v xs) (hK : KeepI a b w w') (hd : hi ≤ a ∨ b ≤ lo) : SlN N lo hi w' v xs := by
  obtain ⟨ys, h1, h2, h3⟩ := h; exact ⟨ys, h1, h2.keep hK hd, fun p hp => (h3 p hp).keep hK hd⟩
/-- v reads as xs, in blocks of its own, no two of them one -/
def OwnN (N : Nest α) (t t2 : TypeId) (lo hi : Nat) (w : World) (v : Value) (xs : List α) : Prop :=
  hi ≤ w.heap.size ∧ (xs.length ≤ 2097152 ∧ totN N xs ≤ 2097152) ∧ ∃ ys : List (α × Value), ys.map Prod.fst = xs ∧ Own lo hi w t N.K v xs.length (flat N.enc ys) ∧ (∀ p ∈ ys, Own lo hi w t2 N.k p.2 (N.n p.1) (N.sub p.1)) ∧ (v :: ys.map Prod.snd).Pairwise Apart
variable {t t2 : TypeId}
theorem OwnN.sl (h : OwnN N t t2 lo hi w v xs) : SlN N lo hi w v xs := by
  obtain ⟨_, _, ys, h1, h2, h3, _⟩ := h; exact ⟨ys, h1, h2.sl, fun p hp => (h3 p hp).sl⟩
theorem OwnN.ext (h : OwnN N t t2 lo hi w v xs) (hE : Ext w w') : OwnN N t t2 lo hi w' v xs := by
  obtain ⟨h0, hn, ys, h1, h2, h3, h4⟩ := h; exact ⟨Nat.le_trans h0 hE.size, hn, ys, h1, h2.ext hE, fun p hp => (h3 p hp).ext hE, h4⟩
theorem OwnN.keep {a b : Nat} (h : OwnN N t t2 lo hi w v xs) (hK : KeepI a b w w') (hd : hi ≤ a ∨ b ≤ lo) : OwnN N t t2 lo hi w' v xs := by
  obtain ⟨h0, hn, ys, h1, h2, h3, h4⟩ := h; exact ⟨Nat.le_trans h0 hK.size, hn, ys, h1, h2.keep hK hd, fun p hp => (h3 p hp).keep hK hd, h4⟩
theorem OwnN.nil (N : Nest α) (t t2 : TypeId) (hE : Ext w w') : OwnN N t t2 w.heap.size w'.heap.size w' (.slice none 0 0) [] :=
  ⟨Nat.le_refl _, by simp [totN], [], rfl, Own.nil _ _ hE, (fun p hp => absurd hp (by simp)), by simp⟩
end
/-! ### apart -/
theorem Own.blk {lo hi K n : Nat} {t : TypeId} {w : World} {v : Value} {xs : List Value} (h : Own lo hi w t K v n xs) : ∀ g, v.ownBlock = some g → lo ≤ g ∧ g < hi := by
  intro g hg
  obtain ⟨_, _, _, ⟨rfl, _⟩ | ⟨g', c, cs, rfl, h4, h5, _⟩⟩ := h
  · cases hg
  · simp [Value.ownBlock] at hg; subst hg; exact ⟨h4, h5⟩
theorem Own.apart {lo hi K n lo' hi' K' n' : Nat} {t t' : TypeId} {w w' : World} {v u : Value} {xs ys : List Value} (h : Own lo hi w t K v n xs) (h' : Own lo' hi' w' t' K' u n' ys) (hd : hi ≤ lo' ∨ hi' ≤ lo) : Apart v u := fun g h1 h2 => by
  have := h.blk g h1
  have := h'.blk g h2
  omega
/-- an owned slice is nil, or known by its block alone -/
theorem Own.one {lo hi K n : Nat} {t : TypeId} {w : World} {v : Value} {xs : List Value} (h : Own lo hi w t K v n xs) : (v = .slice none 0 0 ∧ n = 0) ∨ ∃ g, v.ownBlock = some g ∧ lo ≤ g ∧ g < hi ∧ Own g (g + 1) w t K v n xs := by
  obtain ⟨h0, hn, hl, ⟨rfl, rfl⟩ | ⟨g, c, cs, rfl, h4, h5, h6⟩⟩ := h
  · exact .inl ⟨rfl, rfl⟩
  · exact .inr ⟨g, rfl, h4, h5, Nat.le_trans h5 h0, hn, hl, .inr ⟨g, c, cs, rfl, Nat.le_refl _, Nat.lt_succ_self _, h6⟩⟩
theorem KeepI.more {lo hi lo' hi' : Nat} {w w' : World} (h : KeepI lo hi w w') (h1 : lo' ≤ lo) (h2 : hi ≤ hi') : KeepI lo' hi' w w' :=
  ⟨h.os, h.tape, h.output, h.size, fun k hk hn => h.block k hk (by omega)⟩
/-- one block is written: what lies apart stays -/
theorem Own.kept {lo hi K n g : Nat} {t : TypeId} {w w' : World} {v : Value} {xs : List Value} (h : Own lo hi w t K v n xs) (hK : KeepI g (g + 1) w w') (ha : v.ownBlock ≠ some g) : Own lo hi w' t K v n xs := by
  obtain ⟨h0, hn, hl, ⟨rfl, rfl⟩ | ⟨g', c, cs, rfl, h4, h5, h6, h7, h8, h9⟩⟩ := h
  · exact ⟨Nat.le_trans h0 hK.size, hn, hl, .inl ⟨rfl, rfl⟩⟩
  · have hg : g' ≠ g := fun e => ha (by rw [e]; rfl)
    exact ⟨Nat.le_trans h0 hK.size, hn, hl, .inr ⟨g', c, cs, rfl, h4, h5, h6, h7, h8.keep hK (by omega), h9⟩⟩
theorem Own.len {lo hi K n : Nat} {t : TypeId} {w : World} {v : Value} {xs : List Value} (h : Own lo hi w t K v n xs) : xs.length = n * K := h.2.2.1
/-! ### lists of pairs -/
theorem fst_get {α : Type} {ys : List (α × Value)} {xs : List α} (h : ys.map Prod.fst = xs) : ys.length = xs.length ∧ ∀ i (hi : i < ys.length) (hj : i < xs.length), ys[i].1 = xs[i] := by
  subst h
  exact ⟨by simp, fun i hi hj => by simp⟩
theorem Part.list {w : World} {g t N m : Nat} {ys zs : List Value} (h : Part w g t N m ys) (e : ∀ j, j < m → ys[j]? = zs[j]?) : Part w g t N m zs := by
  obtain ⟨cs, h1, h2, h3⟩ := h; exact ⟨cs, h1, h2, fun j hj => (h3 j hj).trans (e j hj)⟩
theorem flat_app_get {α : Type} {enc : α → List Value} {K : Nat} (he : ∀ x, (enc x).length = K) (ys zs : List α) (j : Nat) (hj : j < ys.length * K) : (flat enc ys)[j]? = (flat enc (ys ++ zs))[j]? := by
  unfold flat
  rw [List.flatMap_append, List.getElem?_append_left]
  have := flat_length he ys
  unfold flat at this
  omega
theorem flat_app_at {α : Type} {enc : α → List Value} {K : Nat} (he : ∀ x, (enc x).length = K) (ys : List α) (z : α) (j : Nat) (hj : j < K) : (flat enc (ys ++ [z]))[ys.length * K + j]? = (enc z)[j]? := by
  have := flat_get he (ys ++ [z]) ys.length (by simp) j hj
  rw [this]; simp
theorem Part.ownF {w : World} {g t n K : Nat} {ys : List Value} (h : Part w g t (n * K) (n * K) ys) (hm : n ≤ 2097152) (hl : ys.length = n * K) : Own g (g + 1) w t K (.slice (some ⟨g, 0, none⟩) n n) n ys := by
  have ho := h.own (base := g) (Nat.le_refl _) (by unfold maxLen; omega) hl
  obtain ⟨cs, h1, h2, h3⟩ := h
  refine ⟨h1.lt, hm, hl, .inr ⟨g, n, cs, rfl, Nat.le_refl _, Nat.lt_succ_self _, Nat.le_refl _, by unfold maxLen; omega, h1, h2, ?_⟩⟩
  apply List.ext_getElem?
  intro j
  rw [List.getElem?_take]
  split
  · rename_i hj; rw [← h3 j hj]; simp
  · rename_i hj; rw [List.getElem?_eq_none (by omega)]
theorem apart_snoc {v : Value} {us : List Value} {u : Value} (h : (v :: us).Pairwise Apart) (h0 : Apart v u) (h1 : ∀ x ∈ us, Apart x u) : (v :: (us ++ [u])).Pairwise Apart := by
  rw [List.pairwise_cons] at h ⊢
  refine ⟨fun x hx => ?_, ?_⟩
  · rw [List.mem_append] at hx
    rcases hx with hx | hx
    · exact h.1 x hx
    · simp at hx; subst hx; exact h0
  · rw [List.pairwise_append]
    exact ⟨h.2, by simp, fun a ha b hb => by simp at hb; subst hb; exact h1 a ha⟩
/-! ### one slice among many is written -/
/-- the blocks that a slice may write: its own one, or none -/
def Nar (a b : Nat) (v : Value) (lo hi : Nat) : Prop := (a = 0 ∧ b = 0 ∧ v.ownBlock = none) ∨ (b = a + 1 ∧ v.ownBlock = some a ∧ lo ≤ a ∧ a < hi)
theorem Own.nar {lo hi K n : Nat} {t : TypeId} {w : World} {v : Value} {xs : List Value} (h : Own lo hi w t K v n xs) : ∃ a b, Nar a b v lo hi ∧ Own a b w t K v n xs := by
  have h' := h
  rcases h.one with ⟨rfl, rfl⟩ | ⟨g, e, h1, h2, h3⟩
  · exact ⟨0, 0, .inl ⟨rfl, rfl, rfl⟩, Nat.zero_le _, h'.2.1, h'.2.2.1, .inl ⟨rfl, rfl⟩⟩
  · exact ⟨g, g + 1, .inr ⟨rfl, e, h1, h2⟩, h3⟩
theorem Own.wide {a b lo hi K n : Nat} {t : TypeId} {w : World} {v : Value} {xs : List Value} (h : Own a b w t K v n xs) (hN : Nar a b v lo hi) (hs : hi ≤ w.heap.size) : Own lo hi w t K v n xs := by
  rcases hN with ⟨rfl, rfl, e⟩ | ⟨rfl, e, h1, h2⟩
  · obtain ⟨_, hn, hl, ⟨rfl, rfl⟩ | ⟨g, c, cs, rfl, _⟩⟩ := h
    · exact ⟨hs, hn, hl, .inl ⟨rfl, rfl⟩⟩
    · cases e
  · exact h.more h1 (by omega) hs
theorem Own.keptN {a b lo hi lo' hi' K n : Nat} {t : TypeId} {w w' : World} {v u : Value} {xs : List Value} (h : Own lo hi w t K v n xs) (hK : KeepI a b w w') (hN : Nar a b u lo' hi') (ha : Apart v u) : Own lo hi w' t K v n xs := by
  rcases hN with ⟨rfl, rfl, _⟩ | ⟨rfl, e, _, _⟩
  · exact h.keep hK (.inr (Nat.zero_le _))
  · exact h.kept hK (fun e' => ha a e' e)
theorem Nar.keep {a b lo hi : Nat} {u : Value} {w w' : World} (hN : Nar a b u lo hi) (hK : KeepI a b w w') : KeepI lo hi w w' := by
  rcases hN with ⟨rfl, rfl, _⟩ | ⟨rfl, _, h1, h2⟩
  · exact ⟨hK.os, hK.tape, hK.output, hK.size, fun k hk _ => hK.block k hk (.inr (Nat.zero_le _))⟩
  · exact hK.more h1 (by omega)
theorem Nar.part {a b lo hi g t N m : Nat} {u : Value} {ys : List Value} {w w' : World} (hN : Nar a b u lo hi) (hK : KeepI a b w w') (hP : Part w g t N m ys) (hg : u.ownBlock ≠ some g) : Part w' g t N m ys := by
  rcases hN with ⟨rfl, rfl, _⟩ | ⟨rfl, e, h1, h2⟩
  · exact hP.keep hK (.inr (Nat.zero_le _))
  · exact hP.keep hK (by have : a ≠ g := fun e' => hg (e' ▸ e); omega)
end Go.Proofs.Ytopjccbjdcoanaa
