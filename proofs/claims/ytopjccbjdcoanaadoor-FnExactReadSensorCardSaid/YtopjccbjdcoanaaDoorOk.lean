/- Lists whose elements are valid and rise: plain laws; the order of strings. No program in sight. -/
import Derived.Test.YtopjccbjdcoanaaDoorSl
namespace Go.Proofs.YtopjccbjdcoanaaDoor
set_option linter.unusedVariables false
open Go.RowKit
theorem qs {P : Program} {f : FuncId} {args : Array Value} {w : World} {v : Value} (h : Calls P f args w fun e w' => e = .returned v ∧ w = w') : Calls P f args w fun e w' => e = .returned v ∧ w' = w := h.mono fun _ _ ⟨h1, h2⟩ => ⟨h1, h2.symm⟩
theorem qv {P : Program} {f : FuncId} {args : Array Value} {w : World} {v v' : Value} (h : Calls P f args w fun e w' => e = .returned v ∧ w = w') (hv : v = v') : Calls P f args w fun e w' => e = .returned v' ∧ w' = w := h.mono fun _ _ ⟨h1, h2⟩ => ⟨by rw [h1, hv], h2.symm⟩
theorem qd {P : Program} {f : FuncId} {args : Array Value} {w : World} {v v' : Value} (h : Calls P f args w fun e w' => e = .returned v ∧ ∃ n, w' = w.drewN n) (hv : v = v') : Calls P f args w fun e w' => e = .returned v' ∧ ∃ n, w' = w.drewN n := h.mono fun _ _ ⟨h1, h2⟩ => ⟨by rw [h1, hv], h2⟩
theorem cv {P : Program} {f : FuncId} {args : Array Value} {w : World} {v v' : Value} {R : World → Prop} (h : Calls P f args w fun e w' => e = .returned v ∧ R w') (hv : v = v') : Calls P f args w fun e w' => e = .returned v' ∧ R w' := h.mono fun _ _ ⟨h1, h2⟩ => ⟨by rw [h1, hv], h2⟩
theorem vb {b b' : Bool} (h : b = b') : Value.bool b = Value.bool b' := by rw [h]

/-- a world that has grown out of B; the class of worlds for a region that draws its order, reads, and calls what makes memory -/
structure Later (B : World) where
  w : World
  h : Ext B w
instance laterOne (B : World) : Nonempty (Later B) := ⟨⟨B, Below.refl _ _⟩⟩
theorem wp_region_later {P : Program} {id : Nat} {Q : Exit → Act → World → Prop} {a : Act} {w : World} {l : List Oper} (B : World) (hm : P.follows .mixedOrders = true) (hB : Region.lexB .any l.toArray = true) (hE : Ext B w)
    (h : wpQuiet P l.toArray (fun w' => ∃ d : Later B, w' = d.w) (fun a' => ∀ w', (∃ d : Later B, w' = d.w) → Q .normal a' w') l a) : (Code.region id l.toArray true).wp P Q a w :=
  wp_region_quiet (C := fun w' => ∃ d : Later B, w' = d.w) hm hB ⟨⟨_, Ext.tr hE (Ext.drewN w 1)⟩, rfl⟩ (by simpa using h)
theorem ql {P : Program} {f : FuncId} {args : Array Value} {B : World} {d : Later B} {v v' : Value} (h : Calls P f args d.w fun e w' => e = .returned v ∧ Ext d.w w') (hv : v = v') : Calls P f args d.w fun e w'' => e = .returned v' ∧ ∃ d' : Later B, w'' = d'.w :=
  h.mono fun _ w' ⟨h1, h2⟩ => ⟨by rw [h1, hv], ⟨w', Ext.tr d.h h2⟩, rfl⟩
theorem qls {P : Program} {f : FuncId} {args : Array Value} {B : World} {d : Later B} {v v' : Value} (h : Calls P f args d.w fun e w' => e = .returned v ∧ d.w = w') (hv : v = v') : Calls P f args d.w fun e w'' => e = .returned v' ∧ ∃ d' : Later B, w'' = d'.w :=
  h.mono fun _ w' ⟨h1, h2⟩ => ⟨by rw [h1, hv], d, h2.symm⟩
theorem qld {P : Program} {f : FuncId} {args : Array Value} {B : World} {d : Later B} {v v' : Value} (h : Calls P f args d.w fun e w' => e = .returned v ∧ ∃ n, w' = d.w.drewN n) (hv : v = v') : Calls P f args d.w fun e w'' => e = .returned v' ∧ ∃ d' : Later B, w'' = d'.w :=
  h.mono fun _ w' ⟨h1, n, h2⟩ => ⟨by rw [h1, hv], ⟨w', h2 ▸ Ext.tr d.h (Ext.drewN _ n)⟩, rfl⟩

section
variable {α : Type} {xs : List α} {p : α → Bool} {lt : α → α → Bool}
def okAt (xs : List α) (p : α → Bool) (lt : α → α → Bool) (i : Nat) : Bool :=
  if h : i < xs.length then p xs[i] && (decide (i = 0) || lt (xs[i - 1]'(by omega)) xs[i]) else true
def allOk (xs : List α) (p : α → Bool) (lt : α → α → Bool) : Bool := (List.range xs.length).all (okAt xs p lt)
def OkTo (xs : List α) (p : α → Bool) (lt : α → α → Bool) (k : Nat) : Prop := ∀ i, i < k → okAt xs p lt i = true
theorem OkTo.zero : OkTo xs p lt 0 := fun i h => absurd h (by omega)
theorem okAt_intro {k : Nat} (h : k < xs.length) (hp : p xs[k] = true) (hl : ∀ h0 : 0 < k, lt (xs[k - 1]'(by omega)) xs[k] = true) : okAt xs p lt k = true := by
  unfold okAt; rw [dif_pos h, hp]
  by_cases h0 : k = 0
  · simp [h0]
  · simp [hl (by omega)]
theorem OkTo.succ {k : Nat} (hu : OkTo xs p lt k) (h : k < xs.length) (hp : p xs[k] = true) (hl : ∀ h0 : 0 < k, lt (xs[k - 1]'(by omega)) xs[k] = true) : OkTo xs p lt (k + 1) := by
  intro i hi
  rcases Nat.lt_succ_iff_lt_or_eq.1 hi with h1 | rfl
  · exact hu i h1
  · exact okAt_intro h hp hl
theorem OkTo.end_ (hu : OkTo xs p lt xs.length) : allOk xs p lt = true := by
  unfold allOk; rw [List.all_eq_true]; intro i hi; exact hu i (by simpa using hi)
theorem allOk_no {k : Nat} (h : k < xs.length) (hn : okAt xs p lt k = false) : allOk xs p lt = false := by
  rw [Bool.eq_false_iff]; intro hh; unfold allOk at hh; rw [List.all_eq_true] at hh
  have := hh k (by simpa using h); rw [hn] at this; cases this
theorem allOk_noP {k : Nat} (h : k < xs.length) (hp : p xs[k] = false) : allOk xs p lt = false :=
  allOk_no h (by unfold okAt; rw [dif_pos h, hp]; simp)
theorem allOk_noL {k : Nat} (h : k < xs.length) (h0 : 0 < k) (hl : lt (xs[k - 1]'(by omega)) xs[k] = false) : allOk xs p lt = false :=
  allOk_no h (by unfold okAt; rw [dif_pos h, hl]; simp; omega)
theorem allOk_p (hu : allOk xs p lt = true) (k : Nat) (h : k < xs.length) : p xs[k] = true := by
  unfold allOk at hu; rw [List.all_eq_true] at hu
  have := hu k (by simpa using h); unfold okAt at this; rw [dif_pos h] at this; simp at this; exact this.1
theorem allOk_mem (hu : allOk xs p lt = true) (x : α) (hx : x ∈ xs) : p x = true := by
  obtain ⟨k, hk, rfl⟩ := List.getElem_of_mem hx; exact allOk_p hu k hk
theorem allOk_l (hu : allOk xs p lt = true) (k : Nat) (h : k < xs.length) (h0 : 0 < k) : lt (xs[k - 1]'(by omega)) xs[k] = true := by
  unfold allOk at hu; rw [List.all_eq_true] at hu
  have := hu k (by simpa using h); unfold okAt at this; rw [dif_pos h] at this; simp at this
  rcases this.2 with h1 | h1
  · omega
  · exact h1
end

/-! ### the order of strings -/
def strLt (a b : ByteArray) : Bool := Op.bytesLess a.toList b.toList
theorem bytesLess_irrefl : ∀ l : List UInt8, Op.bytesLess l l = false
  | [] => rfl
  | a :: x => by unfold Op.bytesLess; rw [bytesLess_irrefl x]; simp
theorem bytesLess_asymm : ∀ a b : List UInt8, Op.bytesLess a b = true → Op.bytesLess b a = false
  | _, [] => by intro h; unfold Op.bytesLess at h; cases h
  | [], _ :: _ => fun _ => rfl
  | a :: x, b :: y => by
    intro h
    unfold Op.bytesLess at h ⊢
    simp only [Bool.or_eq_true, decide_eq_true_eq, Bool.and_eq_true, beq_iff_eq] at h
    simp only [Bool.or_eq_false_iff, decide_eq_false_iff_not, Bool.and_eq_false_iff, beq_eq_false_iff_ne]
    rcases h with h | ⟨rfl, h⟩
    · refine ⟨fun hh => ?_, .inl (fun hh => ?_)⟩
      · exact absurd (UInt8.lt_trans h hh) (UInt8.lt_irrefl _)
      · subst hh; exact absurd h (UInt8.lt_irrefl _)
    · exact ⟨UInt8.lt_irrefl _, .inr (bytesLess_asymm x y h)⟩
theorem bytesLess_total : ∀ a b : List UInt8, Op.bytesLess a b = true ∨ a = b ∨ Op.bytesLess b a = true
  | [], [] => .inr (.inl rfl)
  | [], _ :: _ => .inl rfl
  | _ :: _, [] => .inr (.inr rfl)
  | a :: x, b :: y => by
    unfold Op.bytesLess
    rcases Nat.lt_trichotomy a.toNat b.toNat with h | h | h
    · left; simp [UInt8.lt_iff_toNat_lt, h]
    · obtain rfl : a = b := UInt8.toNat_inj.1 h
      rcases bytesLess_total x y with h1 | rfl | h1
      · left; simp [h1]
      · right; left; rfl
      · right; right; simp [h1]
    · right; right; simp [UInt8.lt_iff_toNat_lt, h]
theorem bytesLess_trans : ∀ a b c : List UInt8, Op.bytesLess a b = true → Op.bytesLess b c = true → Op.bytesLess a c = true
  | _, [], _ => by intro h; unfold Op.bytesLess at h; cases h
  | _, _ :: _, [] => by intro _ h; unfold Op.bytesLess at h; cases h
  | [], _ :: _, _ :: _ => fun _ _ => rfl
  | a :: x, b :: y, c :: z => by
    intro h h'
    unfold Op.bytesLess at h h' ⊢
    simp only [Bool.or_eq_true, decide_eq_true_eq, Bool.and_eq_true, beq_iff_eq] at h h' ⊢
    rcases h with h | ⟨rfl, h⟩
    · rcases h' with h' | ⟨rfl, h'⟩
      · exact .inl (UInt8.lt_trans h h')
      · exact .inl h
    · rcases h' with h' | ⟨rfl, h'⟩
      · exact .inl h'
      · exact .inr ⟨rfl, bytesLess_trans x y z h h'⟩
/-- 'b <= a' as the program asks it, by 'a < b' -/
theorem strLt_le (a b : ByteArray) : (Op.bytesLess b.toList a.toList || b.toList == a.toList) = !strLt a b := by
  unfold strLt
  cases h : Op.bytesLess a.toList b.toList
  · rcases bytesLess_total a.toList b.toList with h1 | h1 | h1
    · rw [h] at h1; cases h1
    · rw [h1]; simp
    · rw [h1]; rfl
  · have h1 := bytesLess_asymm _ _ h
    rw [h1]
    have : (b.toList == a.toList) = false := by
      rw [beq_eq_false_iff_ne]; intro e; rw [e, bytesLess_irrefl] at h; cases h
    rw [this]; rfl
theorem strEq (a b : ByteArray) : (a.toList == b.toList) = decide (a = b) := by
  rw [Bool.eq_iff_iff]; simp only [beq_iff_eq, decide_eq_true_eq]
  constructor
  · intro h; rw [ByteArray.toList_eq, ByteArray.toList_eq] at h
    cases a; cases b; simp at h; subst h; rfl
  · rintro rfl; rfl
theorem str_ext {a b : ByteArray} (h : a.toList = b.toList) : a = b := by
  have := strEq a b; simp [h] at this; exact this
end Go.Proofs.YtopjccbjdcoanaaDoor
