/- Owned slices of numbers that begin inside their block: what 's[1:]' gives. Marks of them. -/
import Derived.Test.YthffakaddohlnaaNums
import Derived.Test.YthffakaddohlnaaApp
namespace Go.Proofs.Ythffakaddohlnaa
set_option linter.unusedVariables false
open Go.RowKit
/-- v is a slice of n numbers in a block of its own from lo on and below hi, which may be written; it may begin inside the block -/
def OwnO (lo hi : Nat) (w : World) (v : Value) (n : Nat) (xs : List Value) : Prop :=
  hi ≤ w.heap.size ∧ n ≤ 2097152 ∧ xs.length = n * 1 ∧ ((v = .slice none 0 0 ∧ n = 0) ∨ ∃ g off c cs, v = .slice (some ⟨g, off, none⟩) n c ∧ lo ≤ g ∧ g < hi ∧ n ≤ c ∧ c ≤ maxLen ∧ Blk w g 2 cs ∧ off + n ≤ cs.size ∧ off ≤ maxLen ∧ ∀ j, j < n → cs[off + j]? = xs[j]?)
theorem Own.o {lo hi : Nat} {w : World} {v : Value} {n : Nat} {xs : List Value} (h : Own lo hi w 2 1 v n xs) : OwnO lo hi w v n xs := by
  obtain ⟨h1, h2, h3, h4 | ⟨g, c, cs, e, h5, h6, h7, h8, h9, h10, h11⟩⟩ := h
  · exact ⟨h1, h2, h3, .inl h4⟩
  · refine ⟨h1, h2, h3, .inr ⟨g, 0, c, cs, e, h5, h6, h7, h8, h9, by omega, Nat.zero_le _, fun j hj => ?_⟩⟩
    rw [← h11, List.getElem?_take, if_pos (by omega)]; simp
theorem OwnO.keep {lo hi a b : Nat} {w w' : World} {v : Value} {n : Nat} {xs : List Value} (h : OwnO lo hi w v n xs) (hK : KeepI a b w w') (hd : hi ≤ a ∨ b ≤ lo) : OwnO lo hi w' v n xs := by
  obtain ⟨h1, h2, h3, h4 | ⟨g, off, c, cs, e, h5, h6, h7, h8, h9, h10⟩⟩ := h
  · exact ⟨Nat.le_trans h1 hK.size, h2, h3, .inl h4⟩
  · exact ⟨Nat.le_trans h1 hK.size, h2, h3, .inr ⟨g, off, c, cs, e, h5, h6, h7, h8, h9.keep hK (by omega), h10⟩⟩
theorem OwnO.ext {lo hi : Nat} {w w' : World} {v : Value} {n : Nat} {xs : List Value} (h : OwnO lo hi w v n xs) (hE : Ext w w') : OwnO lo hi w' v n xs := h.keep (a := hi) (b := hi) hE.keep (.inl (Nat.le_refl _))
theorem OwnO.sl {lo hi : Nat} {w : World} {v : Value} {n : Nat} {xs : List Value} (h : OwnO lo hi w v n xs) : Sl lo hi w 1 v n xs := by
  obtain ⟨h1, h2, h3, ⟨rfl, rfl⟩ | ⟨g, off, c, cs, rfl, h5, h6, h7, h8, h9, h10, h11, h12⟩⟩ := h
  · exact ⟨h1, h3, none, 0, rfl, Nat.le_refl _, by simp [maxLen], fun h => absurd h (by omega)⟩
  · refine ⟨h1, h3, _, c, rfl, h7, h8, fun _ => ⟨g, off, rfl, h5, h6, fun j u hu => ?_⟩⟩
    have hj : j < n := by have := (List.getElem?_eq_some_iff.1 hu).1; omega
    rw [h9.cell, h12 j hj, hu]
theorem markInt64SO (k0 : Int) (n lo hi : Nat) (v : Value) (xs : List Value) (w : World) (hv : OwnO lo hi w v n xs) (h0 : 0 < k0) (hk : k0 + n ≤ 1099511627776) :
    Calls Try.prog 38 #[v, .int .i64 k0] w fun e w' => e = .returned (.int .i64 (k0 + n)) ∧ OwnO lo hi w' v n (markInts k0 n) ∧ KeepI lo hi w w' := by
  obtain ⟨hhw, hn2, hl, ⟨rfl, rfl⟩ | ⟨g, off, c, cs, rfl, hlo, hhi, hnc, hcm, hB, hcs, hoff, hxs⟩⟩ := hv
  · go_enter Try.func38, Try.ntmps38
    go_wp2
    go_loopw [1, 5] (fun kk i wr => kk = .int .i64 k0 ∧ i = .int .i64 0 ∧ wr = w) (fun _ _ _ => 0)
    case atStart => exact ⟨rfl, rfl, rfl⟩
    case round =>
      obtain ⟨rfl, rfl, rfl⟩ := hrel
      go_wp2
      go_ret
      exact ⟨ret_int (by omega), ⟨hhw, by omega, by simp [markInts, flat], .inl ⟨rfl, rfl⟩⟩, KeepI.refl _ _ _⟩
  unfold maxLen at hoff
  generalize hN : cs.size = N at *
  have hP0 : ∃ cs : Array Value, Blk w g 2 cs ∧ cs.size = N ∧ ∀ j, j < 0 → cs[off + j]? = (markInts k0 n)[j]? := ⟨cs, hB, hN, fun j hj => absurd hj (by omega)⟩
  clear hB hxs hN
  clear cs
  go_enter Try.func38, Try.ntmps38
  go_wp2
  go_loopw [1, 5] (fun kk i wr => ∃ (k : Nat) (q : Int), k ≤ n ∧ i = .int .i64 k ∧ kk = .int .i64 q ∧ Hid (q = k0 + k) ∧ Hid (∃ cs : Array Value, Blk wr g 2 cs ∧ cs.size = N ∧ ∀ j, j < k → cs[off + j]? = (markInts k0 n)[j]?) ∧ KeepI lo hi w wr) (fun _ i _ => n - (intOf i).toNat)
  case atStart => exact ⟨0, k0, by omega, rfl, rfl, hid (by simp), hid hP0, KeepI.refl _ _ _⟩
  case round =>
    obtain ⟨i, q, hi, rfl, rfl, hq, hP, hK⟩ := hrel
    have hq1 : 0 < q ∧ q ≤ 1099511627776 := by have := hq.out; omega
    obtain ⟨hq1, hq2⟩ := hq1
    obtain ⟨cs, hB, hN, hc⟩ := hP.out
    have HN := hid hN
    have HC := hid hc
    clear hN hc hP
    by_cases hlt : i < n
    · have g0 : wr.cell? ⟨g, off + i, none⟩ = some (cs[off + i]'(by have := HN.out; omega)) := (hB.cell _).trans (Array.getElem?_eq_getElem _)
      have f0 := hB.frozen
      go_wp2
      go_roundw
      case rel =>
        refine ⟨i + 1, _, by omega, by go_num, rfl, hid (by have := hq.out; omega), hid ⟨_, hB.set_ _ _, by simpa using HN.out, fun j hj => ?_⟩, hK.set_ hlo hhi _⟩
        have hsz := HN.out
        by_cases hji : j = i
        · subst hji; rw [Array.getElem?_setIfInBounds_self_of_lt (by omega), markInts_get _ _ _ hlt, hq.out]
        · rw [Array.getElem?_setIfInBounds_ne (by omega)]; exact HC.out j (by omega)
      case measure => simp [intOf]; omega
    · obtain rfl : i = n := by omega
      go_wp2
      go_ret
      exact ⟨ret_int hq.out, ⟨Nat.le_trans hhw hK.size, hn2, markInts_len _ _, .inr ⟨g, off, c, cs, rfl, hlo, hhi, hnc, hcm, hB, by have := HN.out; omega, by unfold maxLen; omega, HC.out⟩⟩, hK⟩
end Go.Proofs.Ythffakaddohlnaa
