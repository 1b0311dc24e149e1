/- Slices in memory: what a slice value reads in a world, and how that is kept while a call makes new blocks. Plain; no program in sight. -/
import Derived.Test.YtopjccbjdcoanaaDoorBase
import Derived.StillTailTactics
namespace Go.Proofs.YtopjccbjdcoanaaDoor
set_option linter.unusedVariables false
open Go.RowKit

/-- v is a slice of n elements of k cells each; its cells read xs; its block lies from lo on and below hi. -/
def Sl (lo hi : Nat) (w : World) (k : Nat) (v : Value) (n : Nat) (xs : List Value) : Prop :=
  hi ≤ w.heap.size ∧ xs.length = n * k ∧ ∃ A c, v = .slice A n c ∧ n ≤ c ∧ c ≤ maxLen ∧
    (0 < n → ∃ b off, A = some ⟨b, off, none⟩ ∧ lo ≤ b ∧ b < hi ∧ ∀ j u, xs[j]? = some u → w.cell? ⟨b, off + j, none⟩ = some u)

theorem Sl.ext {lo hi k n : Nat} {w w' : World} {v : Value} {xs : List Value} (h : Sl lo hi w k v n xs) (hE : Ext w w') : Sl lo hi w' k v n xs := by
  obtain ⟨h1, h2, A, c, h3, h4, h5, h6⟩ := h
  refine ⟨Nat.le_trans h1 hE.size, h2, A, c, h3, h4, h5, fun hn => ?_⟩
  obtain ⟨b, off, e1, e2, e3, e4⟩ := h6 hn
  exact ⟨b, off, e1, e2, e3, fun j u hu => (hE.cell (p := ⟨b, off + j, none⟩) (by show b < _; omega)).trans (e4 j u hu)⟩

/-- k cells an element -/
def flat {α : Type} (enc : α → List Value) (xs : List α) : List Value := xs.flatMap enc
theorem flat_length {α : Type} {enc : α → List Value} {K : Nat} (he : ∀ x, (enc x).length = K) (xs : List α) : (flat enc xs).length = xs.length * K := by
  induction xs with
  | nil => simp [flat]
  | cons x xs ih =>
    unfold flat at *
    rw [List.flatMap_cons, List.length_append, he, ih, List.length_cons, Nat.add_mul]; omega
theorem flat_get {α : Type} {enc : α → List Value} {K : Nat} (he : ∀ x, (enc x).length = K) (xs : List α) (i : Nat) (hi : i < xs.length) (j : Nat) (hj : j < K) :
    (flat enc xs)[i * K + j]? = (enc xs[i])[j]? := by
  induction xs generalizing i with
  | nil => simp at hi
  | cons x xs ih =>
    unfold flat at *
    rw [List.flatMap_cons]
    cases i with
    | zero =>
      rw [List.getElem?_append_left (by rw [he]; omega)]; simp
    | succ i =>
      rw [List.getElem?_append_right (by rw [he, Nat.add_mul]; omega), he]
      have : (i + 1) * K + j - K = i * K + j := by rw [Nat.add_mul]; omega
      rw [this, ih i (by simpa using hi)]
      simp
theorem cell_flat {α : Type} {enc : α → List Value} {K : Nat} (he : ∀ x, (enc x).length = K) {xs : List α} {w : World} {b off : Nat}
    (hc : ∀ j u, (flat enc xs)[j]? = some u → w.cell? ⟨b, off + j, none⟩ = some u) (i : Nat) (hi : i < xs.length) (j : Nat) (u : Value) (hj : j < K) (hu : (enc xs[i])[j]? = some u) :
    w.cell? ⟨b, off + (i * K + j), none⟩ = some u := hc _ _ ((flat_get he xs i hi j hj).trans hu)

/-- block g is just the cells cs of type t, none frozen -/
def Blk (w : World) (g : Nat) (t : TypeId) (cs : Array Value) : Prop := w.heap[g]? = some (.cells cs t (0, 0))
theorem Blk.lt {w : World} {g : Nat} {t : TypeId} {cs : Array Value} (h : Blk w g t cs) : g < w.heap.size := by
  rcases Nat.lt_or_ge g w.heap.size with hlt | hge
  · exact hlt
  · unfold Blk at h; rw [Array.getElem?_eq_none hge] at h; cases h
theorem Blk.cell {w : World} {g : Nat} {t : TypeId} {cs : Array Value} (h : Blk w g t cs) (i : Nat) : w.cell? ⟨g, i, none⟩ = cs[i]? := cell_of_row w g i cs t (0, 0) h
theorem Blk.frozen {w : World} {g : Nat} {t : TypeId} {cs : Array Value} (h : Blk w g t cs) (i : Nat) : w.frozen? ⟨g, i, none⟩ = false := by
  unfold Blk at h; simp [World.frozen?, h]
theorem Blk.set_ {w : World} {g : Nat} {t : TypeId} {cs : Array Value} (h : Blk w g t cs) (i : Nat) (u : Value) : Blk (w.setCell ⟨g, i, none⟩ u) g t (cs.setIfInBounds i u) := by
  unfold Blk at h ⊢; simp [World.setCell, Array.getElem?_modify, h]
theorem Blk.ext {w w' : World} {g : Nat} {t : TypeId} {cs : Array Value} (h : Blk w g t cs) (hb : Ext w w') : Blk w' g t cs := (hb.block g h.lt).trans h
theorem Blk.new (w : World) (t : TypeId) (cs : Array Value) : Blk (w.alloc (.cells cs t)) w.heap.size t cs := heap_alloc_new w _
/-- a row of N cells whose first m cells are those of ys -/
def Part (w : World) (g : Nat) (t : TypeId) (N m : Nat) (ys : List Value) : Prop := ∃ cs, Blk w g t cs ∧ cs.size = N ∧ ∀ j, j < m → cs[j]? = ys[j]?
theorem Part.ext {w w' : World} {g t N m : Nat} {ys : List Value} (h : Part w g t N m ys) (hb : Ext w w') : Part w' g t N m ys := by
  obtain ⟨cs, h1, h2, h3⟩ := h; exact ⟨cs, h1.ext hb, h2, h3⟩
theorem Part.lt {w : World} {g t N m : Nat} {ys : List Value} (h : Part w g t N m ys) : g < w.heap.size := by obtain ⟨cs, h1, _⟩ := h; exact h1.lt
theorem Part.cell {w : World} {g t N m : Nat} {ys : List Value} (h : Part w g t N m ys) (j : Nat) (hj : j < N) : ∃ u, w.cell? ⟨g, j, none⟩ = some u := by
  obtain ⟨cs, h1, h2, _⟩ := h; exact ⟨cs[j]'(by omega), (h1.cell j).trans (Array.getElem?_eq_getElem (by omega))⟩
theorem Part.frozen {w : World} {g t N m : Nat} {ys : List Value} (h : Part w g t N m ys) (i : Nat) : w.frozen? ⟨g, i, none⟩ = false := by obtain ⟨cs, h1, _⟩ := h; exact h1.frozen i
theorem Part.set_ {w : World} {g t N m : Nat} {ys : List Value} (h : Part w g t N m ys) (hm : m < N) {u : Value} (hu : ys[m]? = some u) : Part (w.setCell ⟨g, m, none⟩ u) g t N (m + 1) ys := by
  obtain ⟨cs, h1, h2, h3⟩ := h
  refine ⟨_, h1.set_ m u, by simpa using h2, fun j hj => ?_⟩
  rw [Array.getElem?_setIfInBounds]
  split
  · rename_i hh; subst hh; rw [if_pos (by omega), hu]
  · exact h3 j (by omega)
theorem Part.to {w : World} {g t N m m' : Nat} {ys : List Value} (h : Part w g t N m ys) (e : m = m') : Part w g t N m' ys := e ▸ h
theorem Part.own {w : World} {g t n K : Nat} {ys : List Value} (h : Part w g t (n * K) (n * K) ys) {base : Nat} (hb : base ≤ g) (hm : n ≤ maxLen) (hl : ys.length = n * K) : w.ownsRow base t K (.slice (some ⟨g, 0, none⟩) n n) n ys := by
  obtain ⟨cs, h1, h2, h3⟩ := h
  refine ⟨hl, .inr ⟨g, n, cs, rfl, hb, h1, Nat.le_refl _, hm, h2, ?_⟩⟩
  apply List.ext_getElem?
  intro j
  rw [List.getElem?_take]
  split
  · rename_i hj; rw [← h3 j hj]; simp
  · rename_i hj; rw [List.getElem?_eq_none (by omega)]
theorem Ext.grown {w w' : World} (h : w.grownBy w' none) : Ext w w' := ⟨h.os, h.tape, h.output, h.size, fun k hk => h.block k hk (by simp)⟩
/-- the cells of a new row -/
def zeros (z : Value) (n : Nat) : Array Value := madeCells z.cells n
theorem zeros_size (z : Value) (n : Nat) : (zeros z n).size = n := size_madeCells _ _
theorem run_made {P : Program} (t e : TypeId) (z : Value) (size bytes : Nat) (ht : P.underlying t = some (.slice e)) (hi : (P.info? e).map (fun i => (i.zero, i.size, i.bytes)) = some (some z, size, bytes)) (n : Nat) (hb : n * bytes ≤ 281474976710656) (hn : n ≤ maxLen) (w : World) :
    (Instr.makeSlice t (.int .i64 (n : Int)) (.int .i64 (n : Int))).run P w = .ok (.slice (some ⟨w.heap.size, 0, none⟩) n n) (w.alloc (.cells (zeros z (n * size)) e)) := by
  obtain ⟨i, h1, h2, h3, h4⟩ := info_parts hi
  subst h3
  subst h4
  have hb' : (i.bytes : Int) * (n : Int) ≤ 281474976710656 := by
    have h : ((i.bytes * n : Nat) : Int) ≤ 281474976710656 := by rw [Nat.mul_comm]; omega
    rwa [Int.natCast_mul] at h
  have hr := run_make (P := P) w t e i z ht h1 h2 .i64 .i64 n n (by omega) (Int.le_refl _) hb' (by unfold maxLen at hn; omega)
  simpa only [Int.toNat_natCast, zeros] using hr
theorem Part.zeros (w : World) (t : TypeId) (z : Value) (n K : Nat) (ys : List Value) : Part (w.alloc (.cells (zeros z (n * K)) t)) w.heap.size t (n * K) 0 ys :=
  ⟨_, Blk.new w t _, zeros_size _ _, fun j hj => by omega⟩
/-- nothing below has turned but in the blocks from lo on and below hi -/
structure KeepI (lo hi : Nat) (w w' : World) : Prop where
  os : w'.os = w.os
  tape : w'.tape = w.tape
  output : w'.output = w.output
  size : w.heap.size ≤ w'.heap.size
  block : ∀ k, k < w.heap.size → (k < lo ∨ hi ≤ k) → w'.heap[k]? = w.heap[k]?
theorem Ext.keep {lo hi : Nat} {w w' : World} (h : Ext w w') : KeepI lo hi w w' := ⟨h.os, h.tape, h.output, h.size, fun k hk _ => h.block k hk⟩
theorem KeepI.refl (lo hi : Nat) (w : World) : KeepI lo hi w w := Ext.keep (Below.refl _ w)
theorem KeepI.tr {lo hi : Nat} {w w1 w2 : World} (h : KeepI lo hi w w1) (h' : KeepI lo hi w1 w2) : KeepI lo hi w w2 :=
  ⟨h'.os.trans h.os, h'.tape.trans h.tape, h'.output.trans h.output, Nat.le_trans h.size h'.size, fun k hk hn => (h'.block k (Nat.lt_of_lt_of_le hk h.size) hn).trans (h.block k hk hn)⟩
theorem KeepI.trE {lo hi : Nat} {w w1 w2 : World} (h : KeepI lo hi w w1) (h' : Ext w1 w2) : KeepI lo hi w w2 := h.tr h'.keep
theorem KeepI.set_ {lo hi g m : Nat} {w w1 : World} (h : KeepI lo hi w w1) (h1 : lo ≤ g) (h2 : g < hi) (u : Value) : KeepI lo hi w (w1.setCell ⟨g, m, none⟩ u) :=
  ⟨h.os, h.tape, h.output, Nat.le_trans h.size (by simp [World.setCell]), fun k hk hn => (Below.heap_setCell _ _ _ _ (by show k ≠ g; omega)).trans (h.block k hk hn)⟩
theorem KeepI.ext {lo hi : Nat} {w w' w0 : World} (h : KeepI lo hi w w') (h0 : Ext w0 w) (hl : w0.heap.size ≤ lo) : Ext w0 w' :=
  ⟨h.os.trans h0.os, h.tape.trans h0.tape, h.output.trans h0.output, Nat.le_trans h0.size h.size, fun k hk => (h.block k (Nat.lt_of_lt_of_le hk h0.size) (.inl (by omega))).trans (h0.block k hk)⟩
theorem Sl.keep {lo hi a b k n : Nat} {w w' : World} {v : Value} {xs : List Value} (h : Sl lo hi w k v n xs) (hK : KeepI a b w w') (hd : hi ≤ a ∨ b ≤ lo) : Sl lo hi w' k v n xs := by
  obtain ⟨h1, h2, A, c, h3, h4, h5, h6⟩ := h
  refine ⟨Nat.le_trans h1 hK.size, h2, A, c, h3, h4, h5, fun hn => ?_⟩
  obtain ⟨g, off, e1, e2, e3, e4⟩ := h6 hn
  exact ⟨g, off, e1, e2, e3, fun j u hu => (World.cell?_of_block (w := w) (hK.block g (by omega) (by omega))).trans (e4 j u hu)⟩
theorem Blk.keep {w w' : World} {g a b : Nat} {t : TypeId} {cs : Array Value} (h : Blk w g t cs) (hK : KeepI a b w w') (hd : g < a ∨ b ≤ g) : Blk w' g t cs := (hK.block g h.lt hd).trans h

theorem Part.keep {w w' : World} {g t N m a b : Nat} {ys : List Value} (h : Part w g t N m ys) (hb : KeepI a b w w') (hd : g < a ∨ b ≤ g) : Part w' g t N m ys := by
  obtain ⟨cs, h1, h2, h3⟩ := h; exact ⟨cs, (hb.block g h1.lt hd).trans h1, h2, h3⟩
/-- v is a slice of n elements (type t, K cells each), read as xs, in a block of its own from lo on and below hi, which may be written. -/
def Own (lo hi : Nat) (w : World) (t : TypeId) (K : Nat) (v : Value) (n : Nat) (xs : List Value) : Prop :=
  hi ≤ w.heap.size ∧ n ≤ 2097152 ∧ xs.length = n * K ∧ ((v = .slice none 0 0 ∧ n = 0) ∨ ∃ g c cs, v = .slice (some ⟨g, 0, none⟩) n c ∧ lo ≤ g ∧ g < hi ∧ n ≤ c ∧ c ≤ maxLen ∧ Blk w g t cs ∧ cs.size = c * K ∧ cs.toList.take (n * K) = xs)
theorem Own.of {w w' : World} {t K n : Nat} {v : Value} {xs : List Value} (h : w'.ownsRow w.heap.size t K v n xs) (hn : n ≤ 2097152) : Own w.heap.size w'.heap.size w' t K v n xs := by
  refine ⟨Nat.le_refl _, hn, h.1, ?_⟩
  rcases h.2 with h0 | ⟨g, cap, cur, h1, hb, hg, hc1, hc2, hc3, hc4⟩
  · exact .inl h0
  · exact .inr ⟨g, cap, cur, h1, hb, (Array.getElem?_eq_some_iff.1 hg).1, hc1, hc2, hg, hc3, hc4⟩
theorem Own.row {lo hi : Nat} {w : World} {t K n : Nat} {v : Value} {xs : List Value} (h : Own lo hi w t K v n xs) : w.ownsRow lo t K v n xs := by
  obtain ⟨h1, hn, h2, h3 | ⟨g, c, cs, h3, h4, h5, h6, h7, h8, h9, h10⟩⟩ := h
  · exact ⟨h2, .inl h3⟩
  · exact ⟨h2, .inr ⟨g, c, cs, h3, h4, h8, h6, h7, h9, h10⟩⟩
theorem Own.keep {lo hi a b : Nat} {w w' : World} {t K n : Nat} {v : Value} {xs : List Value} (h : Own lo hi w t K v n xs) (hK : KeepI a b w w') (hd : hi ≤ a ∨ b ≤ lo) : Own lo hi w' t K v n xs := by
  obtain ⟨h1, hn, h2, h3 | ⟨g, c, cs, h3, h4, h5, h6, h7, h8, h9, h10⟩⟩ := h
  · exact ⟨Nat.le_trans h1 hK.size, hn, h2, .inl h3⟩
  · exact ⟨Nat.le_trans h1 hK.size, hn, h2, .inr ⟨g, c, cs, h3, h4, h5, h6, h7, h8.keep hK (by omega), h9, h10⟩⟩
theorem Own.ext {lo hi : Nat} {w w' : World} {t K n : Nat} {v : Value} {xs : List Value} (h : Own lo hi w t K v n xs) (hE : Ext w w') : Own lo hi w' t K v n xs := h.keep (a := hi) (b := hi) hE.keep (.inl (Nat.le_refl _))
theorem take_get {cs : Array Value} {N : Nat} {xs : List Value} (h : cs.toList.take N = xs) {j : Nat} {u : Value} (hu : xs[j]? = some u) : cs[j]? = some u := by
  rw [← h, List.getElem?_take] at hu
  split at hu
  · simpa using hu
  · cases hu
theorem Own.sl {lo hi : Nat} {w : World} {t K n : Nat} {v : Value} {xs : List Value} (h : Own lo hi w t K v n xs) : Sl lo hi w K v n xs := by
  obtain ⟨h1, hn, h2, ⟨rfl, rfl⟩ | ⟨g, c, cs, rfl, h4, h5, h6, h7, h8, h9, h10⟩⟩ := h
  · exact ⟨h1, h2, none, 0, rfl, Nat.le_refl _, by simp [maxLen], fun h => absurd h (by omega)⟩
  · exact ⟨h1, h2, _, c, rfl, h6, h7, fun _ => ⟨g, 0, rfl, h4, h5, fun j u hu => by rw [Nat.zero_add, h8.cell j]; exact take_get h10 hu⟩⟩
theorem Own.more {lo hi lo' hi' : Nat} {w : World} {t K n : Nat} {v : Value} {xs : List Value} (h : Own lo hi w t K v n xs) (h1 : lo' ≤ lo) (h2 : hi ≤ hi') (h3 : hi' ≤ w.heap.size) : Own lo' hi' w t K v n xs := by
  obtain ⟨_, hn, h2', h3' | ⟨g, c, cs, e3, h4, h5, h6⟩⟩ := h
  · exact ⟨h3, hn, h2', .inl h3'⟩
  · exact ⟨h3, hn, h2', .inr ⟨g, c, cs, e3, by omega, by omega, h6⟩⟩
theorem Sl.of_own {w : World} {lo t K n : Nat} {v : Value} {xs : List Value} (h : w.ownsRow lo t K v n xs) (hm : n ≤ maxLen) : Sl lo w.heap.size w K v n xs := by
  refine ⟨Nat.le_refl _, h.1, ?_⟩
  rcases h.2 with ⟨rfl, rfl⟩ | ⟨g, cap, cur, rfl, hb, hg, hc1, hc2, hc3, hc4⟩
  · exact ⟨none, 0, rfl, Nat.le_refl _, by simp [maxLen], fun h => absurd h (by omega)⟩
  · refine ⟨_, cap, rfl, hc1, hc2, fun _ => ⟨g, 0, rfl, hb, (Array.getElem?_eq_some_iff.1 hg).1, fun j u hu => ?_⟩⟩
    rw [Nat.zero_add, cell_of_row w g j cur t (0, 0) hg]
    rw [← hc4, List.getElem?_take] at hu
    split at hu
    · simpa using hu
    · cases hu
end Go.Proofs.YtopjccbjdcoanaaDoor
