/- An argument that is a slice of flat elements, read as a list. Plain laws on readings; no function of the program in sight. -/
import Derived.Test.YtopjccbjdcoanaaDoorSl
import Derived.ProofKit
import Derived.Deep.Slices
import Derived.Deep.Fields
namespace Go.Proofs.YtopjccbjdcoanaaDoor
set_option linter.unusedVariables false
open Go.RowKit Go.ChangeShapes Go.WideShapes Go.Deep

theorem add_plain (b off j : Nat) : (⟨b, off, none⟩ : Addr).add j = ⟨b, off + j, none⟩ := by unfold Addr.add; split <;> simp_all
theorem choose_list {α : Type} {n : Nat} {p : Nat → α → Prop} (h : ∀ i, i < n → ∃ x, p i x) : ∃ xs : List α, xs.length = n ∧ ∀ i (hi : i < xs.length), p i xs[i] := by
  induction n with
  | zero => exact ⟨[], rfl, fun i hi => absurd hi (by simp)⟩
  | succ n ih =>
    obtain ⟨xs, hl, hx⟩ := ih (fun i hi => h i (by omega))
    obtain ⟨x, hp⟩ := h n (by omega)
    refine ⟨xs ++ [x], by simp [hl], fun i hi => ?_⟩
    rcases Nat.lt_or_ge i xs.length with h1 | h1
    · rw [List.getElem_append_left h1]; exact hx i h1
    · have e : i = n := by simp at hi; omega
      subst e
      rw [List.getElem_append_right h1]; simpa [hl] using hp

section
variable {H : Type} {ec : TypeId × Value → H} {P : Program} {W : World}
theorem open_flatC {α : Type} {enc : α → List Value} {K : Nat} (he : ∀ x, (enc x).length = K) (hK : 0 < K) {ok : α → Prop} {t e : TypeId} (ht : P.underlying t = some (.slice e)) (hC : P.cellsOf e = K)
    (el : ∀ n cs y, cs.length = K → DataW.trod ec P W 0 (fun _ => true) true n e cs = some y → ∃ x : α, cs = enc x ∧ ok x)
    {fuel : Nat} {cs : List Value} {y : DataW H × List MemPlace} (hf : DataW.trod ec P W 0 (fun _ => true) true fuel t cs = some y) :
    ∃ A l c, cs = [.slice A l c] ∧ ∃ xs : List α, xs.length = l ∧ Sl 0 W.heap.size W K (.slice A l c) xs.length (flat enc xs) ∧ ∀ x ∈ xs, ok x := by
  rcases open_slice ht hf with ⟨hcs, _⟩ | ⟨a, l, c, m, n, D, Pl, hcs, hb, hl, hcm, hm, _, hi⟩
  · exact ⟨none, 0, 0, hcs, [], rfl, ⟨Nat.le_refl _, by simp [flat], none, 0, rfl, Nat.le_refl _, by simp [maxLen], fun h => absurd h (by simp)⟩, fun x hx => by cases hx⟩
  · refine ⟨some a, l, c, hcs, ?_⟩
    have hel : ∀ i, i < l → ∃ x : α, W.cells? 0 (a.add (i * K)) K = some (enc x) ∧ ok x := by
      intro i hil
      obtain ⟨cs', h1, h2⟩ := hi i (by rw [hm]; simp; omega)
      rw [hC] at h1
      obtain ⟨x, rfl, hx⟩ := el n cs' _ (World.cells?_some h1).2.1 h2
      exact ⟨x, h1, hx⟩
    obtain ⟨xs, hxl, hx⟩ := choose_list hel
    refine ⟨xs, hxl, ⟨Nat.le_refl _, flat_length he xs, some a, c, by rw [hxl], by omega, hcm, fun hn => ?_⟩, fun x hm' => ?_⟩
    · have h0 := (World.cells?_some (hx 0 hn).1).2.2 0 hK
      rw [List.getElem?_eq_getElem (by rw [he]; exact hK)] at h0
      have hs : a.spot = none := by
        have := World.cell?_spot h0
        simp only [Nat.zero_mul] at this
        unfold Addr.add at this
        simpa using this
      obtain ⟨b, off, sp⟩ := a
      simp only at hs
      subst hs
      have hbl : b < W.heap.size := by
        have := World.block_lt_of_cell? W _ h0
        rw [Nat.zero_mul, add_plain, add_plain] at this
        exact this
      refine ⟨b, off, rfl, Nat.zero_le _, hbl, fun j u hu => ?_⟩
      have hjl : j < xs.length * K := by
        have := (List.getElem?_eq_some_iff.1 hu).1
        rw [flat_length he] at this
        exact this
      have hq : j / K < xs.length := Nat.div_lt_of_lt_mul (by rw [Nat.mul_comm]; exact hjl)
      have hr : j % K < K := Nat.mod_lt _ hK
      have hj : j / K * K + j % K = j := by rw [Nat.mul_comm]; exact Nat.div_add_mod j K
      have hg := flat_get he xs (j / K) hq (j % K) hr
      rw [hj, hu] at hg
      have hc := (World.cells?_some (hx (j / K) hq).1).2.2 (j % K) hr
      rw [add_plain, add_plain, ← hg] at hc
      rw [show off + j = off + j / K * K + j % K by omega]
      exact hc
    · obtain ⟨i, hi', rfl⟩ := List.getElem_of_mem hm'
      exact (hx i hi').2

theorem open_flat {α : Type} {enc : α → List Value} {K : Nat} (he : ∀ x, (enc x).length = K) (hK : 0 < K) {ok : α → Prop} {t e : TypeId} (ht : P.underlying t = some (.slice e)) (hC : P.cellsOf e = K)
    (el : ∀ n cs y, cs.length = K → DataW.trod ec P W 0 (fun _ => true) true n e cs = some y → ∃ x : α, cs = enc x ∧ ok x)
    {A : Option Addr} {l c : Nat} {d : DataW H} {p : List MemPlace} (h : DataW.Trod ec P W 0 (fun _ => true) true t (.slice A l c) d p) :
    ∃ xs : List α, xs.length = l ∧ Sl 0 W.heap.size W K (.slice A l c) xs.length (flat enc xs) ∧ ∀ x ∈ xs, ok x := by
  obtain ⟨fuel, hf⟩ := h
  obtain ⟨A', l', c', hcs, hx⟩ := open_flatC he hK ht hC el hf
  simp [Value.cells] at hcs
  obtain ⟨rfl, rfl, rfl⟩ := hcs
  exact hx

/-- the fields of one element, each of one cell -/
theorem el_fields {e : TypeId} {fs : Array Field} {sp : Nat → Bool} (he : P.underlying e = some (.struct fs)) (hone : oneCellFields P fs = true) {n : Nat} {cs : List Value} {y : DataW H × List MemPlace}
    (h : DataW.trod ec P W 0 sp true n e cs = some y) (hl : cs.length = fs.size) : ∀ (j : Nat) (f : Field), fs[j]? = some f → ∃ (v : Value) (z : DataW H × List MemPlace) (m : Nat), cs[j]? = some v ∧ DataW.trod ec P W 0 sp true m f.type [v] = some z := by
  obtain ⟨ys, n', _, _, _, hyl, hf⟩ := DataW.trod_struct he h
  intro j f hj
  obtain ⟨ho, hk⟩ := hone_of hone j f hj
  have hjl : j < fs.size := (Array.getElem?_eq_some_iff.1 hj).1
  have h1 := hf j f hj
  rw [ho, hk, List.drop_eq_getElem_cons (by omega), List.take_succ_cons, List.take_zero] at h1
  exact ⟨cs[j], ys[j], n', List.getElem?_eq_getElem (by omega), h1.trans (List.getElem?_eq_getElem (by omega))⟩
end
end Go.Proofs.YtopjccbjdcoanaaDoor
