/- IsSafeRoute of the note. -/
import Derived.Test.YtlilmopcikogpaaEsc5
namespace Go.Proofs.Ytlilmopcikogpaa
set_option linter.unusedVariables false
open Go.RowKit
def legI (ays : List Airway) (bl sp : Int) (rt : List Int) (k : Nat) : Int := stepTo ays bl sp (rtAt rt (k - 1)) (rtAt rt k) ays.length
/-- the time at the beginning of round k -/
def nowTo (ays : List Airway) (bl sp st : Int) (rt : List Int) : Nat → Int
  | 0 => st
  | k + 1 => if k = 0 then nowTo ays bl sp st rt k else nowTo ays bl sp st rt k + legI ays bl sp rt k
def okR (j : Int) (ays : List Airway) (arr : List Int) (bl sp st : Int) (rt : List Int) (k : Nat) : Bool :=
  inB (rtAt rt k) 0 (j - 1) && (decide (k = 0) || decide (0 ≤ legI ays bl sp rt k)) && mayB arr (rtAt rt k).toNat (nowTo ays bl sp st rt (k + 1))
def safeR (j : Int) (ays : List Airway) (arr : List Int) (bl : Int) (c : Crew) (st : Int) (rt : List Int) : Bool :=
  decide (askE (crewsP j c) j ays arr bl st = 0) && decide (0 < rt.length) && decide (rt.length ≤ 64) && decide (rtAt rt 0 = c.junction) && (List.range rt.length).all (okR j ays arr bl c.speed st rt)
section
variable {j : Int} {ays : List Airway} {arr : List Int} {bl : Int} {c : Crew} {st : Int} {rt : List Int}
theorem safeR_ask (h : ¬ askE (crewsP j c) j ays arr bl st = 0) : safeR j ays arr bl c st rt = false := by unfold safeR; simp [h]
theorem safeR_nil (h : ¬ 0 < rt.length) : safeR j ays arr bl c st rt = false := by unfold safeR; simp [h]
theorem safeR_long (h : ¬ rt.length ≤ 64) : safeR j ays arr bl c st rt = false := by unfold safeR; simp [h]
theorem safeR_from (h : ¬ rtAt rt 0 = c.junction) : safeR j ays arr bl c st rt = false := by unfold safeR; simp [h]
theorem safeR_at {k : Nat} (hk : k < rt.length) (h : okR j ays arr bl c.speed st rt k = false) : safeR j ays arr bl c st rt = false := by
  unfold safeR
  have : (List.range rt.length).all (okR j ays arr bl c.speed st rt) = false := by
    rw [Bool.eq_false_iff]; intro hh; rw [List.all_eq_true] at hh
    have := hh k (by simpa using hk); rw [h] at this; cases this
  rw [this]; simp
theorem safeR_yes (h1 : askE (crewsP j c) j ays arr bl st = 0) (h2 : 0 < rt.length) (h3 : rt.length ≤ 64) (h4 : rtAt rt 0 = c.junction) (h5 : ∀ k, k < rt.length → okR j ays arr bl c.speed st rt k = true) : safeR j ays arr bl c st rt = true := by
  unfold safeR; simp [h1, h2, h3, h4]; exact h5
theorem okR_range {sp : Int} {k : Nat} (h : inB (rtAt rt k) 0 (j - 1) = false) : okR j ays arr bl sp st rt k = false := by unfold okR; rw [h]; rfl
theorem okR_leg {sp : Int} {k : Nat} (h0 : 0 < k) (h : legI ays bl sp rt k < 0) : okR j ays arr bl sp st rt k = false := by
  unfold okR
  have h1 : decide (k = 0) = false := by simp; omega
  have h2 : decide (0 ≤ legI ays bl sp rt k) = false := by simp; omega
  rw [h1, h2]; simp
theorem okR_smoke {sp : Int} {k : Nat} (h : mayB arr (rtAt rt k).toNat (nowTo ays bl sp st rt (k + 1)) = false) : okR j ays arr bl sp st rt k = false := by unfold okR; rw [h]; simp
theorem okR_yes {sp : Int} {k : Nat} (h1 : inB (rtAt rt k) 0 (j - 1) = true) (h2 : k = 0 ∨ 0 ≤ legI ays bl sp rt k) (h : mayB arr (rtAt rt k).toNat (nowTo ays bl sp st rt (k + 1)) = true) : okR j ays arr bl sp st rt k = true := by
  unfold okR; rw [h, h1]
  rcases h2 with h2 | h2 <;> simp [h2]
theorem leg_bd {sp : Int} (hA : ∀ a ∈ ays, airB a = true) (h1 : 10 ≤ sp) (h2 : sp ≤ 300) (k : Nat) : -1 ≤ legI ays bl sp rt k ∧ legI ays bl sp rt k ≤ 1000299 := stepTo_bd hA h1 h2 _ (Nat.le_refl _)
theorem now_bd {sp : Int} (hA : ∀ a ∈ ays, airB a = true) (h1 : 10 ≤ sp) (h2 : sp ≤ 300) (hs : 0 ≤ st ∧ st ≤ 36000) : ∀ k : Nat, -(k : Int) ≤ nowTo ays bl sp st rt k ∧ nowTo ays bl sp st rt k ≤ 36000 + 1000299 * (k : Int)
  | 0 => by unfold nowTo; omega
  | k + 1 => by
    have ih := now_bd hA h1 h2 hs k
    have hl := leg_bd (bl := bl) (rt := rt) hA h1 h2 k
    unfold nowTo
    split <;> omega
theorem ask_parts (h : askE (crewsP j c) j ays arr bl st = 0) : mineB j ays = true ∧ crewsP j c = true ∧ (0 ≤ st ∧ st ≤ 36000) ∧ (arr.length : Int) = j := by
  unfold askE at h
  split at h
  · rename_i h1
    split at h
    · rename_i h2
      split at h
      · rename_i h3
        simp only [Bool.and_eq_true] at h1 h2
        unfold arrB at h3; unfold inB at h2
        simp only [Bool.and_eq_true, decide_eq_true_eq] at h2 h3
        exact ⟨h1.1, h1.2, h2.2, h3.2⟩
      · cases h
    · cases h
  · cases h
theorem crew_parts (h : crewsP j c = true) : 10 ≤ c.speed ∧ c.speed ≤ 300 ∧ 0 ≤ c.junction := by
  unfold crewsP crewP inB at h; simp only [Bool.and_eq_true, decide_eq_true_eq] at h; omega
theorem now_first {sp : Int} : nowTo ays bl sp st rt (0 + 1) = nowTo ays bl sp st rt 0 := by rw [nowTo]; rfl
theorem now_next {sp : Int} {k : Nat} (h : 0 < k) : nowTo ays bl sp st rt (k + 1) = nowTo ays bl sp st rt k + legI ays bl sp rt k := by rw [nowTo]; rw [if_neg (by omega)]
end
end Go.Proofs.Ytlilmopcikogpaa
