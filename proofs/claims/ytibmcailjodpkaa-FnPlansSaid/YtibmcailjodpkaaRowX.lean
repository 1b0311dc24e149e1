/- Rows of the call's own: many cells stored at once, one more element out of the spare; copy at elements of more than one cell. Plain; over any program. -/
import Derived.Test.YtibmcailjodpkaaRowK
import Derived.Laws.IdiomCopy
import Derived.Lib.Walk
import Derived.Lib.Overlaps
import Derived.Lib.AppendZerosOnto
import Derived.Laws.NewBlocks
import Derived.Deep.RegionLaw
namespace Go.Proofs.Ytibmcailjodpkaa
set_option linter.unusedVariables false
open Go.RowKit
/-- o cells kept, vs laid over what follows -/
def lay (xs : List Value) (o : Nat) (vs : List Value) : List Value := xs.take o ++ vs ++ xs.drop (o + vs.length)
theorem lay_cons (xs : List Value) (o : Nat) (v : Value) (r : List Value) (h : o + 1 + r.length ≤ xs.length) : lay (xs.set o v) (o + 1) r = lay xs o (v :: r) := by
  unfold lay
  have h1 : (xs.set o v).take (o + 1) = xs.take o ++ [v] := by
    rw [List.take_succ_eq_append_getElem (by simp; omega), List.take_set, List.set_eq_of_length_le (by rw [List.length_take]; omega)]; simp
  have h2 : (xs.set o v).drop (o + 1 + r.length) = xs.drop (o + 1 + r.length) := List.drop_set_of_lt (by omega)
  rw [h1, h2, List.length_cons, show o + (r.length + 1) = o + 1 + r.length by omega]
  simp
theorem lay_len {xs : List Value} {o : Nat} {vs : List Value} (h : o + vs.length ≤ xs.length) : (lay xs o vs).length = xs.length := by unfold lay; simp; omega
theorem row_lay {base e K n g cap : Nat} : ∀ (vs : List Value) (o : Nat) (w : World) (xs : List Value), w.ownsRow base e K (.slice (some ⟨g, 0, none⟩) n cap) n xs → o + vs.length ≤ xs.length → (w.setCells g o vs).ownsRow base e K (.slice (some ⟨g, 0, none⟩) n cap) n (lay xs o vs)
  | [], o, w, xs, h, _ => by
    have e : lay xs o [] = xs := by unfold lay; simp
    rw [e]; exact h
  | v :: r, o, w, xs, h, hl => by
    rw [List.length_cons] at hl
    have h1 := (h.stored o v).1
    have h2 := row_lay r (o + 1) _ _ h1 (by simp; omega)
    rw [lay_cons xs o v r (by omega)] at h2
    exact h2
theorem row_more {w : World} {base e K n g cap : Nat} {xs : List Value} (h : w.ownsRow base e K (.slice (some ⟨g, 0, none⟩) n cap) n xs) (hc : n + 1 ≤ cap) : ∃ zs, zs.length = K ∧ w.ownsRow base e K (.slice (some ⟨g, 0, none⟩) (n + 1) cap) (n + 1) (xs ++ zs) := by
  have hl := h.1
  rcases h.2 with ⟨h', _⟩ | ⟨g', cap', cur, h', hb, hg, hnc, hcm, hcs, htake⟩
  · simp at h'
  · simp only [Value.slice.injEq, Option.some.injEq, Addr.mk.injEq, and_true, true_and] at h'
    obtain ⟨rfl, rfl⟩ := h'
    have hs : (n + 1) * K ≤ cur.toList.length := by rw [Array.length_toList, hcs]; exact Nat.mul_le_mul_right _ hc
    have e1 : (n + 1) * K = n * K + K := by rw [Nat.add_mul]; omega
    refine ⟨(cur.toList.drop (n * K)).take K, by rw [List.length_take, List.length_drop]; omega, ?_, .inr ⟨g, cap, cur, rfl, hb, hg, hc, hcm, hcs, ?_⟩⟩
    · rw [List.length_append, List.length_take, List.length_drop, hl]; omega
    · rw [← htake, e1, List.take_add]
theorem run_copy_K {P : Program} (w : World) (dT sT ty elem : TypeId) (K b o dLen dCap : Nat) (a : Addr) (sLen sCap : Nat) (cs : List Value)
    (hu : P.underlying dT = some (.slice elem)) (hs : (P.info? elem).map (·.size) = some K) (hn : cs.length = Nat.min sLen dLen * K)
    (hsrc : ∀ j v, cs[j]? = some v → w.cell? (a.add j) = some v) (hc : ∀ j, j < cs.length → (w.cell? ⟨b, o + j, none⟩).isSome = true) (hf : ∀ j, j < cs.length → w.frozen? ⟨b, o + j, none⟩ = false) (h1 : ∀ v ∈ cs, v.oneCell' = true) :
    (Builtin.copy_ #[dT, sT] ty #[.slice (some ⟨b, o, none⟩) dLen dCap, .slice (some a) sLen sCap]).run P w = .ok (goInt (Nat.min sLen dLen)) (w.setCells b o cs) := by
  have hl := run_loadCells_list (P := P) w a cs hsrc
  have hst := run_storeCells_cells (P := P) b o cs 0 w (by simpa using hc) (by simpa using hf) h1
  cases hq : P.info? elem with
  | none => simp [hq] at hs
  | some i =>
    have hi : i.size = K := by simpa [hq] using hs
    simp [Builtin.copy_, run_underlying hu, Builtin.lenOf, Builtin.firstCells, sizeOf, typeInfo, hq, hi, ← hn, hl, hst]
theorem flat_take {α : Type} {enc : α → List Value} {K : Nat} (he : ∀ x, (enc x).length = K) : ∀ (xs : List α) (i : Nat), flat enc (xs.take i) = (flat enc xs).take (i * K)
  | _, 0 => by simp [flat]
  | [], i + 1 => by simp [flat]
  | x :: xs, i + 1 => by
    have ih := flat_take he xs i
    unfold flat at ih ⊢
    rw [List.take_succ_cons, List.flatMap_cons, List.flatMap_cons, ih, show (i + 1) * K = (enc x).length + i * K by rw [he, Nat.add_mul]; omega, List.take_length_add_append]
theorem flat_drop {α : Type} {enc : α → List Value} {K : Nat} (he : ∀ x, (enc x).length = K) : ∀ (xs : List α) (i : Nat), flat enc (xs.drop i) = (flat enc xs).drop (i * K)
  | _, 0 => by simp [flat]
  | [], i + 1 => by simp [flat]
  | x :: xs, i + 1 => by
    have ih := flat_drop he xs i
    unfold flat at ih ⊢
    rw [List.drop_succ_cons, List.flatMap_cons, ih, show (i + 1) * K = (enc x).length + i * K by rw [he, Nat.add_mul]; omega, List.drop_length_add_append]
theorem flat_app {α : Type} (enc : α → List Value) (xs ys : List α) : flat enc (xs ++ ys) = flat enc xs ++ flat enc ys := by unfold flat; rw [List.flatMap_append]
end Go.Proofs.Ytibmcailjodpkaa
