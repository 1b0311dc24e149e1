/- The search for the first set of the fewest places: the plain law. No program in sight. -/
import Derived.Test.YtopjccbjdcoanaaOk
namespace Go.Proofs.Ytopjccbjdcoanaa
set_option linter.unusedVariables false
open Go.RowKit
/-- what a search answers: found, the set, what is left of the budget (-1: spent) -/
abbrev SR := Bool × List Int × Int
/-- i, i+1, .. k of them, until one is found or the budget is spent -/
def lp (f : Nat → Int → SR) : Nat → Nat → Int → SR
  | 0, _, b => (false, [], b)
  | k + 1, i, b => if (f i b).1 then f i b else if (f i b).2.2 < 0 then (false, [], (f i b).2.2) else lp f k (i + 1) (f i b).2.2
/-- all sets with so many more from an index on; the loop runs to P, or to P less the number still wanted -/
def ext (R : List Int → Bool) (P : Nat) : Nat → Nat → List Int → Int → SR
  | 0, _, set, b => if 0 ≤ b - 1 ∧ R set = true then (true, set, b - 1) else (false, [], b - 1)
  | m + 1, frm, set, b => lp (fun i b => ext R P m (i + 1) (set ++ [(i : Int)]) b) (P - m - frm) frm b
def extS (R : List Int → Bool) (P : Nat) : Nat → Nat → List Int → Int → SR
  | 0, _, set, b => if 0 ≤ b - 1 ∧ R set = true then (true, set, b - 1) else (false, [], b - 1)
  | m + 1, frm, set, b => lp (fun i b => extS R P m (i + 1) (set ++ [(i : Int)]) b) (P - frm) frm b
theorem lp_zero (f : Nat → Int → SR) (i : Nat) (b : Int) : lp f 0 i b = (false, [], b) := rfl
theorem lp_succ (f : Nat → Int → SR) (k i : Nat) (b : Int) : lp f (k + 1) i b = if (f i b).1 then f i b else if (f i b).2.2 < 0 then (false, [], (f i b).2.2) else lp f k (i + 1) (f i b).2.2 := rfl
theorem lp_idle {f : Nat → Int → SR} : ∀ (k i : Nat) (b : Int), 0 ≤ b → (∀ j b, i ≤ j → 0 ≤ b → f j b = (false, [], b)) → lp f k i b = (false, [], b)
  | 0, _, _, _, _ => rfl
  | k + 1, i, b, hb, h => by
    rw [lp_succ, h i b (Nat.le_refl _) hb]
    simp only [Bool.false_eq_true, if_false]
    rw [if_neg (by omega), lp_idle k (i + 1) b hb (fun j b hj hb => h j b (by omega) hb)]
theorem lp_false {f : Nat → Int → SR} (hf : ∀ j b, (f j b).1 = false → (f j b).2.1 = []) : ∀ (k i : Nat) (b : Int), (lp f k i b).1 = false → (lp f k i b).2.1 = []
  | 0, _, _, _ => rfl
  | k + 1, i, b, h => by
    rw [lp_succ] at h ⊢
    split at h
    · rename_i h1; rw [if_pos h1]; rw [h1] at h; cases h
    · rename_i h1
      rw [if_neg h1]
      split at h
      · rename_i h2; rw [if_pos h2]
      · rename_i h2; rw [if_neg h2]; exact lp_false hf k (i + 1) _ h
theorem lp_split {f : Nat → Int → SR} : ∀ (k r i : Nat) (b : Int), (∀ j b, i + k ≤ j → 0 ≤ b → f j b = (false, [], b)) → 0 ≤ b → lp f (k + r) i b = lp f k i b
  | 0, r, i, b, h, hb => by rw [Nat.zero_add, lp_zero]; exact lp_idle r i b hb (fun j b hj => h j b (by omega))
  | k + 1, r, i, b, h, hb => by
    rw [show k + 1 + r = (k + r) + 1 by omega, lp_succ, lp_succ]
    split
    · rfl
    · split
      · rfl
      · rename_i h2
        exact lp_split k r (i + 1) _ (fun j b hj => h j b (by omega)) (by omega)
theorem lp_congr {f g : Nat → Int → SR} : ∀ (k i : Nat) (b : Int), 0 ≤ b → (∀ j b, 0 ≤ b → f j b = g j b) → lp f k i b = lp g k i b
  | 0, _, _, _, _ => rfl
  | k + 1, i, b, hb, h => by
    rw [lp_succ, lp_succ, h i b hb]
    split
    · rfl
    · split
      · rfl
      · exact lp_congr k (i + 1) _ (by omega) h
theorem extS_short (R : List Int → Bool) (P : Nat) : ∀ (m frm : Nat) (set : List Int) (b : Int), 0 < m → P < frm + m → 0 ≤ b → extS R P m frm set b = (false, [], b)
  | 0, _, _, _, h, _, _ => by omega
  | m + 1, frm, set, b, _, h, hb => by
    show lp _ (P - frm) frm b = _
    rcases Nat.eq_zero_or_pos m with rfl | hm
    · rw [show P - frm = 0 by omega]; rfl
    · exact lp_idle _ _ _ hb (fun j b hj hb => extS_short R P m (j + 1) _ b hm (by omega) hb)
/-- the loop that runs on to the end finds no more -/
theorem extS_eq (R : List Int → Bool) (P : Nat) : ∀ (m frm : Nat) (set : List Int) (b : Int), 0 ≤ b → extS R P m frm set b = ext R P m frm set b
  | 0, _, _, _, _ => rfl
  | m + 1, frm, set, b, hb => by
    show lp _ (P - frm) frm b = lp _ (P - m - frm) frm b
    rw [lp_congr (P - frm) frm b hb (fun j b hb => extS_eq R P m (j + 1) _ b hb)]
    rcases Nat.eq_zero_or_pos m with rfl | hm
    · rfl
    · rcases Nat.lt_or_ge P (frm + m) with h | h
      · rw [show P - m - frm = 0 by omega]
        exact lp_idle _ _ _ hb (fun j b hj hb => by rw [← extS_eq R P m _ _ b hb]; exact extS_short R P m (j + 1) _ b hm (by omega) hb)
      · rw [show P - frm = (P - m - frm) + m by omega]
        exact lp_split _ _ _ _ (fun j b hj hb => by rw [← extS_eq R P m _ _ b hb]; exact extS_short R P m (j + 1) _ b hm (by omega) hb) hb
/-- the sizes 0, 1, .. one after the other: code 0 found, 9 full, 4 none -/
def firstG (R : List Int → Bool) (P : Nat) : Nat → Nat → Int → Option (List Int) × Bool
  | 0, _, _ => (none, false)
  | k + 1, n, b => if (ext R P n 0 [] b).1 then (some (ext R P n 0 [] b).2.1, false) else if (ext R P n 0 [] b).2.2 < 0 then (none, true) else firstG R P k (n + 1) (ext R P n 0 [] b).2.2
theorem ext_budget (R : List Int → Bool) (P : Nat) : ∀ (m frm : Nat) (set : List Int) (b : Int), 0 ≤ b → -1 ≤ (ext R P m frm set b).2.2 ∧ (ext R P m frm set b).2.2 ≤ b
  | 0, _, set, b, hb => by unfold ext; split <;> simp <;> omega
  | m + 1, frm, set, b, hb => by
    show -1 ≤ (lp _ (P - m - frm) frm b).2.2 ∧ (lp _ (P - m - frm) frm b).2.2 ≤ b
    generalize P - m - frm = k
    induction k generalizing frm b with
    | zero => simp [lp]; omega
    | succ k ih =>
      have h0 := ext_budget R P m (frm + 1) (set ++ [(frm : Int)]) b hb
      rw [lp_succ]
      split
      · exact h0
      · split
        · exact h0
        · rename_i h2
          have := ih (frm + 1) (ext R P m (frm + 1) (set ++ [(frm : Int)]) b).2.2 (by simpa using h2)
          exact ⟨this.1, Int.le_trans this.2 h0.2⟩
end Go.Proofs.Ytopjccbjdcoanaa
