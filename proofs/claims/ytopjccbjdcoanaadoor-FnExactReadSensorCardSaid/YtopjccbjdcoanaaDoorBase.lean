/- Contracts of the small functions on numbers, bytes and names, in both packages: each returns what a plain Lean function gives, and leaves the world as it was. No conditions but that a string's length fits an int. -/
import Derived.Test.YtopjccbjdcoanaaDoorProg
import Derived.WalkKit
import Derived.WalkSpells
import Derived.WalkLawsBesides
import Derived.Deep.QuietTactic
import Derived.BigQuiet
import Derived.Handy
namespace Go.Proofs.YtopjccbjdcoanaaDoor
set_option linter.unusedVariables false
open Go.RowKit

theorem hid {p : Prop} (h : p) : Hid p := h
theorem ret_bool {x y : Bool} (h : x = y) : Ending.returned (.bool x) = .returned (.bool y) := by rw [h]
theorem ret_int {k : IntKind} {x y : Int} (h : x = y) : Ending.returned (.int k x) = .returned (.int k y) := by rw [h]
theorem ret2 {k l : IntKind} {x y x' y' : Int} (h1 : x = x') (h2 : y = y') : Ending.returned (.tuple #[.int k x, .int l y]) = .returned (.tuple #[.int k x', .int l y']) := by rw [h1, h2]
theorem ret_str {x y : ByteArray} (h : x = y) : Ending.returned (.string x) = .returned (.string y) := by rw [h]

abbrev Ext (w w' : World) : Prop := Below w.heap.size w w'
theorem Ext.tr {w w1 w2 : World} (h : Ext w w1) (h' : Ext w1 w2) : Ext w w2 := h.trans (h'.mono h.size)
theorem bcell {W w1 : World} (hb : Ext W w1) : (∀ b o, b < W.heap.size → w1.cell? ⟨b, o, none⟩ = W.cell? ⟨b, o, none⟩) ∧ (∀ b o, b < W.heap.size → w1.frozen? ⟨b, o, none⟩ = W.frozen? ⟨b, o, none⟩) :=
  ⟨fun b o h => hb.cell (p := ⟨b, o, none⟩) h, fun b o h => hb.frozen (p := ⟨b, o, none⟩) h⟩
theorem Ext.new (w : World) (o : Obj) : Ext w (w.alloc o) := (Below.refl _ _).alloc (Nat.le_refl _) _
theorem Ext.drewN (w : World) (n : Nat) : Ext w (w.drewN n) := ⟨rfl, rfl, rfl, Nat.le_refl _, fun _ _ => rfl⟩
def szF (l : Int) (n : Nat) : Int := if l - n < 0 then -1 else l - n


def inB (n a b : Int) : Bool := decide (a ≤ n) && decide (n ≤ b)
def minI (a b : Int) : Int := if a < b then a else b
def maxI (a b : Int) : Int := if b < a then a else b
def smallB (c : Int) : Bool := decide (97 ≤ c) && decide (c ≤ 122)
def digitB (c : Int) : Bool := decide (48 ≤ c) && decide (c ≤ 57)

theorem l00In (n a b : Int) (w : World) :
    Calls Tryd.prog 19 #[.int .i64 n, .int .i64 a, .int .i64 b] w fun e w' => e = .returned (.bool (inB n a b)) ∧ w = w' := by
  go_enter Tryd.func19, Tryd.ntmps19
  go_wp2
  all_goals (go_ret; refine ⟨ret_bool ?_, rfl⟩; go_tidy; grind [inB])
theorem within (n a b : Int) (w : World) :
    Calls Tryd.prog 24 #[.int .i64 n, .int .i64 a, .int .i64 b] w fun e w' => e = .returned (.bool (inB n a b)) ∧ w = w' := by
  go_enter Tryd.func24, Tryd.ntmps24
  go_wp2
  all_goals (go_ret; refine ⟨ret_bool ?_, rfl⟩; go_tidy; grind [inB])

/-! ### names -/
def nameCh (c : UInt8) : Bool := smallB c.toNat || digitB c.toNat
def nameB (s : ByteArray) : Bool := decide (1 ≤ s.size) && decide (s.size ≤ 10) && smallB ((s.data.toList[0]?).getD 0).toNat && s.data.toList.all nameCh

theorem take_snoc (s : ByteArray) (k : Nat) (h : k < s.size) : s.data.toList.take (k + 1) = s.data.toList.take k ++ [s[k]] := by
  rw [List.take_succ_eq_append_getElem (by simpa using h)]; rfl
theorem all_snoc (s : ByteArray) (p : UInt8 → Bool) (k : Nat) (h : k < s.size) (a : (s.data.toList.take k).all p = true) (b : p s[k] = true) : (s.data.toList.take (k + 1)).all p = true := by
  rw [take_snoc s k h, List.all_append, a]; simp [b]
theorem all_not (s : ByteArray) (p : UInt8 → Bool) (k : Nat) (h : k < s.size) (b : p s[k] = false) : s.data.toList.all p = false := by
  rw [Bool.eq_false_iff]; intro hh
  rw [List.all_eq_true] at hh
  have := hh s[k] (by have : s[k] = s.data.toList[k]'(by simpa using h) := rfl
                      rw [this]; exact List.getElem_mem _)
  rw [this] at b; cases b
theorem all_end (s : ByteArray) (p : UInt8 → Bool) (k : Nat) (h : s.size ≤ k) (a : (s.data.toList.take k).all p = true) : s.data.toList.all p = true := by
  rw [List.take_of_length_le (by simpa using h)] at a; exact a

theorem l01Small (c : Int) (w : World) :
    Calls Tryd.prog 30 #[.int .u8 c] w fun e w' => e = .returned (.bool (smallB c)) ∧ w = w' := by
  go_enter Tryd.func30, Tryd.ntmps30
  go_wp2
  all_goals (go_ret; refine ⟨ret_bool ?_, rfl⟩; go_tidy; grind [smallB])
theorem l01Digit (c : Int) (w : World) :
    Calls Tryd.prog 31 #[.int .u8 c] w fun e w' => e = .returned (.bool (digitB c)) ∧ w = w' := by
  go_enter Tryd.func31, Tryd.ntmps31
  go_wp2
  all_goals (go_ret; refine ⟨ret_bool ?_, rfl⟩; go_tidy; grind [digitB])
def allName (s : ByteArray) : Bool := s.data.toList.all nameCh
theorem onlyNameBytes (s : ByteArray) (w : World) (hs : s.size ≤ maxLen) :
    Calls Tryd.prog 33 #[.string s] w fun e w' => e = .returned (.bool (allName s)) ∧ w = w' := by
  unfold maxLen at hs
  go_enter Tryd.func33, Tryd.ntmps33
  go_wp2
  go_loop [7] (fun i => ∃ k : Nat, k ≤ s.size ∧ i = .int .i64 k ∧ Hid ((s.data.toList.take k).all nameCh = true)) (fun i => s.size - (intOf i).toNat)
  case atStart => exact ⟨0, Nat.zero_le _, rfl, hid (by simp)⟩
  case round =>
    obtain ⟨k, hk, rfl, ha⟩ := hrel
    by_cases hlt : k < s.size
    · go_wp2
      all_goals first
        | (go_round
           case rel => exact ⟨k + 1, by omega, by go_num, hid (all_snoc s _ k hlt ha.out (by go_tidy; grind [nameCh, smallB, digitB]))⟩
           case measure => simp [intOf]; omega)
        | (go_ret
           exact ⟨ret_bool (all_not s _ k hlt (by go_tidy; grind [nameCh, smallB, digitB])).symm, rfl⟩)
    · go_wp2
      go_ret
      exact ⟨ret_bool (all_end s _ k (by omega) ha.out).symm, rfl⟩
theorem getD0 (s : ByteArray) (h : 0 < s.size) : (s.data.toList[0]?).getD 0 = s[0] := by
  have h' : 0 < s.data.toList.length := by simpa using h
  rw [List.getElem?_eq_getElem h']; rfl
theorem toList_nil (s : ByteArray) : s.toList = [] ↔ s.size = 0 := by
  rw [ByteArray.toList_eq]
  constructor
  · intro h
    have : s.data.toList.length = 0 := by rw [h]; rfl
    simpa using this
  · intro h
    apply List.eq_nil_of_length_eq_zero; simpa using h
theorem nameB_of (s : ByteArray) (h1 : 1 ≤ s.size) (h2 : s.size ≤ 10) (h3 : smallB ((s[0]'(by omega)).toNat) = true) : nameB s = allName s := by
  unfold nameB allName; rw [getD0 s (by omega)]; simp [h1, h2, h3]
theorem nameB_no0 (s : ByteArray) (h : s.size < 1) : nameB s = false := by
  unfold nameB; simp; omega
theorem nameB_no10 (s : ByteArray) (h : 10 < s.size) : nameB s = false := by
  unfold nameB; simp; omega
theorem nameB_noc (s : ByteArray) (h : 0 < s.size) (h3 : smallB (s[0].toNat) = false) : nameB s = false := by
  unfold nameB; rw [getD0 s h]; simp [h3]

theorem isName (s : ByteArray) (w : World) (hs : s.size ≤ maxLen) :
    Calls Tryd.prog 22 #[.string s] w fun e w' => e = .returned (.bool (nameB s)) ∧ w = w' := by
  have hs' := hs
  unfold maxLen at hs
  go_enter Tryd.func22, Tryd.ntmps22
  go_wp2_with (go_at_call 33; refine (onlyNameBytes _ _ hs').mono ?_; rintro e w' ⟨rfl, rfl⟩)
  all_goals
    go_ret
    go_tidy
    refine ⟨ret_bool ?_, rfl⟩
    first
      | exact (nameB_of s (by omega) (by omega) (by grind [smallB])).symm
      | exact (nameB_no0 s (by omega)).symm
      | exact (nameB_no10 s (by omega)).symm
      | exact (nameB_noc s (by omega) (by grind [smallB])).symm
theorem l01Name (s : ByteArray) (w : World) (hs : s.size ≤ maxLen) :
    Calls Tryd.prog 18 #[.string s] w fun e w' => e = .returned (.bool (nameB s)) ∧ w = w' := by
  unfold maxLen at hs
  by_cases h0 : s.size < 1
  · have h1 : s.toList = [] := (toList_nil s).2 (by omega)
    go_enter Tryd.func18, Tryd.ntmps18
    go_wp2
    go_ret
    exact ⟨ret_bool (nameB_no0 s h0).symm, rfl⟩
  by_cases h10 : 10 < s.size
  · have h1 : s.toList.isEmpty = false := by rw [Bool.eq_false_iff]; intro h; have := (toList_nil s).1 (by simpa using h); omega
    go_enter Tryd.func18, Tryd.ntmps18
    go_wp2
    go_ret
    exact ⟨ret_bool (nameB_no10 s h10).symm, rfl⟩
  have h1 : s.toList.isEmpty = false := by rw [Bool.eq_false_iff]; intro h; have := (toList_nil s).1 (by simpa using h); omega
  have hp : 0 < s.size := by omega
  cases h3 : smallB (s[0].toNat)
  · go_enter Tryd.func18, Tryd.ntmps18
    go_wp2_with (go_at_call 30; refine (l01Small _ _).mono ?_; rintro e w' ⟨rfl, rfl⟩)
    go_ret
    exact ⟨ret_bool (nameB_noc s hp h3).symm, rfl⟩
  · have HN := hid (nameB_of s (by omega) (by omega) h3)
    go_enter Tryd.func18, Tryd.ntmps18
    go_wp2_with (go_at_call 30; refine (l01Small _ _).mono ?_; rintro e w' ⟨rfl, rfl⟩)
    go_loop [3] (fun i => ∃ k : Nat, k ≤ s.size ∧ i = .int .i64 k ∧ Hid ((s.data.toList.take k).all nameCh = true)) (fun i => s.size - (intOf i).toNat)
    case atStart => exact ⟨0, Nat.zero_le _, rfl, hid (by simp)⟩
    case round =>
      obtain ⟨k, hk, rfl, ha⟩ := hrel
      by_cases hlt : k < s.size
      · go_wp2_with (first | (go_at_call 30; refine (l01Small _ _).mono ?_; rintro e w' ⟨rfl, rfl⟩) | (go_at_call 31; refine (l01Digit _ _).mono ?_; rintro e w' ⟨rfl, rfl⟩))
        all_goals first
          | (go_round
             case rel => exact ⟨k + 1, by omega, by go_num, hid (all_snoc s _ k hlt ha.out (by go_tidy; grind [nameCh, smallB, digitB]))⟩
             case measure => simp [intOf]; omega)
          | (go_ret
             exact ⟨ret_bool (by rw [HN.out]; exact (all_not s _ k hlt (by go_tidy; grind [nameCh, smallB, digitB])).symm), rfl⟩)
      · go_wp2
        go_ret
        exact ⟨ret_bool (by rw [HN.out]; exact (all_end s _ k (by omega) ha.out).symm), rfl⟩
end Go.Proofs.YtopjccbjdcoanaaDoor
