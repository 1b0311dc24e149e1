/- A drill put at its place: the plain law. -/
import Derived.Test.YtibmcailjodpkaaD28
namespace Go.Proofs.Ytibmcailjodpkaa
set_option linter.unusedVariables false
open Go.RowKit
def posD (xs : List Drill) (x : Drill) : Nat := xs.findIdx fun y => !drillLt y x
theorem posD_le (xs : List Drill) (x : Drill) : posD xs x ≤ xs.length := List.findIdx_le_length
theorem posD_before {xs : List Drill} {x : Drill} {q : Nat} (h : q < posD xs x) (hq : q < xs.length) : drillLt xs[q] x = true := by
  have := List.not_of_lt_findIdx h
  simpa using this
theorem posD_at {xs : List Drill} {x : Drill} (h : posD xs x < xs.length) : drillLt xs[posD xs x] x = false := by
  have := List.findIdx_getElem (w := h)
  simp only [Bool.not_eq_true'] at this
  exact this
theorem posD_eq {xs : List Drill} {x : Drill} {p : Nat} (hp : p ≤ xs.length) (h1 : ∀ q (hq : q < xs.length), q < p → drillLt xs[q] x = true) (h2 : ∀ h : p < xs.length, drillLt xs[p] x = false) : posD xs x = p := by
  rcases Nat.lt_trichotomy (posD xs x) p with h | h | h
  · have h3 := posD_at (show posD xs x < xs.length by omega)
    rw [h1 _ (by omega) h] at h3; cases h3
  · exact h
  · have h3 := posD_before h (by have := posD_le xs x; omega)
    rw [h2 (by have := posD_le xs x; omega)] at h3; cases h3
def hasD (xs : List Drill) (x : Drill) : Bool := match xs[posD xs x]? with
  | none => false
  | some y => !drillLt x y
theorem hasD_at {xs : List Drill} {x : Drill} {p : Nat} (hp : posD xs x = p) (h : p < xs.length) : hasD xs x = !drillLt x xs[p] := by
  subst hp; unfold hasD; rw [List.getElem?_eq_getElem h]
theorem hasD_end {xs : List Drill} {x : Drill} {p : Nat} (hp : posD xs x = p) (h : ¬ p < xs.length) : hasD xs x = false := by
  subst hp; unfold hasD; rw [List.getElem?_eq_none (by omega)]
def insD (xs : List Drill) (x : Drill) : List Drill := xs.take (posD xs x) ++ x :: xs.drop (posD xs x)
theorem insD_len (xs : List Drill) (x : Drill) : (insD xs x).length = xs.length + 1 := by
  have := posD_le xs x
  unfold insD; simp; omega
def addR (xs : List Drill) (x : Drill) : List Drill × Int :=
  if drillsB xs then (if drillB x then (if hasD xs x then ([], 4) else if xs.length = 32 then ([], 5) else (insD xs x, 0)) else ([], 2)) else ([], 1)
theorem addR_a {xs : List Drill} (x : Drill) (h : drillsB xs = false) : addR xs x = ([], 1) := by unfold addR; rw [h]; rfl
theorem addR_b {xs : List Drill} {x : Drill} (h : drillsB xs = true) (h2 : drillB x = false) : addR xs x = ([], 2) := by unfold addR; rw [h, h2]; rfl
theorem addR_c {xs : List Drill} {x : Drill} (h : drillsB xs = true) (h2 : drillB x = true) (h3 : hasD xs x = true) : addR xs x = ([], 4) := by unfold addR; rw [h, h2, h3]; rfl
theorem addR_d {xs : List Drill} {x : Drill} (h : drillsB xs = true) (h2 : drillB x = true) (h3 : hasD xs x = false) (h4 : xs.length = 32) : addR xs x = ([], 5) := by unfold addR; rw [h, h2, h3]; simp [h4]
theorem addR_e {xs : List Drill} {x : Drill} (h : drillsB xs = true) (h2 : drillB x = true) (h3 : hasD xs x = false) (h4 : ¬ xs.length = 32) : addR xs x = (insD xs x, 0) := by unfold addR; rw [h, h2, h3]; simp [h4]
theorem drillLt_trans {a b c : Drill} (h1 : drillLt a b = true) (h2 : drillLt b c = true) : drillLt a c = true := by
  unfold drillLt at *
  simp only [Bool.or_eq_true, decide_eq_true_eq, Bool.and_eq_true] at *
  rcases h1 with h1 | ⟨h1, h3⟩
  · rcases h2 with h2 | ⟨h2, _⟩
    · exact .inl (by omega)
    · exact .inl (by omega)
  · rcases h2 with h2 | ⟨h2, h4⟩
    · exact .inl (by omega)
    · exact .inr ⟨by omega, bytesLess_trans _ _ _ h3 h4⟩
theorem drills_mono {xs : List Drill} (h : drillsB xs = true) : ∀ (d p q : Nat) (e : p + d + 1 = q) (hq : q < xs.length), drillLt (xs[p]'(by omega)) xs[q] = true
  | 0, p, q, e, hq => by
    subst e
    unfold drillsB at h; simp only [Bool.and_eq_true] at h
    exact allOk_l h.2 (p + 0 + 1) hq (by omega)
  | d + 1, p, q, e, hq => by
    have h1 := drills_mono h d p (q - 1) (by omega) (by omega)
    have h2 := drills_mono h 0 (q - 1) q (by omega) hq
    exact drillLt_trans h1 h2
/-- the search by halves: below i all come before x, from j on none -/
def Half (xs : List Drill) (x : Drill) (i j : Nat) : Prop := (∀ q (hq : q < xs.length), q < i → drillLt xs[q] x = true) ∧ ∀ q (hq : q < xs.length), j ≤ q → drillLt xs[q] x = false
theorem Half.zero (xs : List Drill) (x : Drill) : Half xs x 0 xs.length := ⟨fun q _ h => absurd h (by omega), fun q hq h => absurd hq (by omega)⟩
theorem Half.up {xs : List Drill} {x : Drill} {i j m : Nat} (h : Half xs x i j) (hB : drillsB xs = true) (hm : m < xs.length) (hl : drillLt xs[m] x = true) : Half xs x (m + 1) j := by
  refine ⟨fun q hq h1 => ?_, h.2⟩
  by_cases e : q = m
  · subst e; exact hl
  · exact drillLt_trans (drills_mono hB (m - q - 1) q m (by omega) hm) hl
theorem Half.down {xs : List Drill} {x : Drill} {i j m : Nat} (h : Half xs x i j) (hB : drillsB xs = true) (hm : m < xs.length) (hl : drillLt xs[m] x = false) : Half xs x i m := by
  refine ⟨h.1, fun q hq h1 => ?_⟩
  cases hc : drillLt xs[q] x
  · rfl
  · by_cases e : q = m
    · subst e; rw [hl] at hc; cases hc
    · rw [drillLt_trans (drills_mono hB (q - m - 1) m q (by omega) hq) hc] at hl; cases hl
theorem Half.end_ {xs : List Drill} {x : Drill} {i : Nat} (h : Half xs x i i) (hi : i ≤ xs.length) : posD xs x = i := posD_eq hi h.1 (fun hq => h.2 i hq (Nat.le_refl _))
theorem cmpDrill_zero (x y : Drill) (h : drillLt x y = false) : (cmpDrill x y = 0) ↔ drillLt y x = false := by
  have hxy := h
  unfold drillLt at h ⊢; unfold cmpDrill orI cmpI cmpS
  simp only [Bool.or_eq_false_iff, decide_eq_false_iff_not, Bool.and_eq_false_iff] at h ⊢
  obtain ⟨h1, h2⟩ := h
  by_cases h3 : y.day < x.day
  · simp [h1, h3]
  · have e : x.day = y.day := by omega
    have h4 : strLt x.crew y.crew = false := by rcases h2 with h2 | h2; · exact absurd e h2
                                                exact h2
    cases h5 : strLt y.crew x.crew <;> simp [h4, e]
end Go.Proofs.Ytibmcailjodpkaa
