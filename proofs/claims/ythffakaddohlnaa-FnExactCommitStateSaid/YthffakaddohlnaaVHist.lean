/- Contracts of ValidHistory in both packages. -/
import Derived.Test.YthffakaddohlnaaXVersion
import Derived.Test.YthffakaddohlnaaV27
namespace Go.Proofs.Ythffakaddohlnaa
set_option linter.unusedVariables false
open Go.RowKit
/-! ### memos -/
def memoCh (c : UInt8) : Bool := decide (32 ≤ (c.toNat : Int)) && decide ((c.toNat : Int) ≤ 126)
def memoAll (s : ByteArray) : Bool := s.data.toList.all memoCh
def memoB (s : ByteArray) : Bool := decide (s.size ≤ 20) && memoAll s
theorem memoB_all {s : ByteArray} (h : memoAll s = true) : memoB s = decide (s.size ≤ 20) := by unfold memoB; rw [h, Bool.and_true]
theorem memoB_no {s : ByteArray} (h : memoAll s = false) : memoB s = false := by unfold memoB; rw [h, Bool.and_false]
theorem memoB_long {s : ByteArray} (h : 20 < s.size) : memoB s = false := by unfold memoB; simp; try omega
theorem memoB_short {s : ByteArray} (h : s.size ≤ 20) : memoB s = memoAll s := by unfold memoB; simp [h]
theorem l27Memo (s : ByteArray) (w : World) (hs : s.size ≤ maxLen) :
    Calls Try.prog 72 #[.string s] w fun e w' => e = .returned (.bool (memoB s)) ∧ w = w' := by
  unfold maxLen at hs
  go_enter Try.func72, Try.ntmps72
  go_wp2
  go_loop [3] (fun i => ∃ k : Nat, k ≤ s.size ∧ i = .int .i64 k ∧ Hid ((s.data.toList.take k).all memoCh = true)) (fun i => s.size - (intOf i).toNat)
  case atStart => exact ⟨0, Nat.zero_le _, rfl, hid (by simp)⟩
  case round =>
    obtain ⟨k, hk, rfl, ha⟩ := hrel
    by_cases hlt : k < s.size
    · go_wp2
      all_goals first
        | (go_round
           case rel => exact ⟨k + 1, by omega, by go_num, hid (all_snoc s _ k hlt ha.out (by go_tidy; grind [memoCh]))⟩
           case measure => simp [intOf]; omega)
        | (go_ret
           exact ⟨ret_bool (memoB_no (all_not s _ k hlt (by go_tidy; grind [memoCh]))).symm, rfl⟩)
    · have HM := hid (memoB_all (all_end s _ k (by omega) ha.out))
      go_wp2
      go_ret
      exact ⟨ret_bool (by rw [HM.out]; simp; omega), rfl⟩
theorem bytesWithin (s : ByteArray) (w : World) (hs : s.size ≤ maxLen) :
    Calls Try.prog 79 #[.string s, .int .u8 32, .int .u8 126] w fun e w' => e = .returned (.bool (memoAll s)) ∧ w = w' := by
  unfold maxLen at hs
  go_enter Try.func79, Try.ntmps79
  go_wp2
  go_loop [10] (fun i => ∃ k : Nat, k ≤ s.size ∧ i = .int .i64 k ∧ Hid ((s.data.toList.take k).all memoCh = true)) (fun i => s.size - (intOf i).toNat)
  case atStart => exact ⟨0, Nat.zero_le _, rfl, hid (by simp)⟩
  case round =>
    obtain ⟨k, hk, rfl, ha⟩ := hrel
    by_cases hlt : k < s.size
    · go_wp2
      all_goals first
        | (go_round
           case rel => exact ⟨k + 1, by omega, by go_num, hid (all_snoc s _ k hlt ha.out (by go_tidy; grind [memoCh]))⟩
           case measure => simp [intOf]; omega)
        | (go_ret
           exact ⟨ret_bool (all_not s _ k hlt (by go_tidy; grind [memoCh])).symm, rfl⟩)
    · go_wp2
      go_ret
      exact ⟨ret_bool (all_end s _ k (by omega) ha.out).symm, rfl⟩
theorem memoValid (s : ByteArray) (w : World) (hs : s.size ≤ maxLen) :
    Calls Try.prog 59 #[.string s] w fun e w' => e = .returned (.bool (memoB s)) ∧ w = w' := by
  have hs' := hs
  unfold maxLen at hs
  by_cases h : s.size ≤ 20
  · have HM := hid (memoB_short h)
    go_enter Try.func59, Try.ntmps59
    go_wp2_with (go_at_call 79; refine (bytesWithin _ _ hs').mono ?_; rintro e w' ⟨rfl, rfl⟩)
    go_ret
    exact ⟨ret_bool HM.out.symm, rfl⟩
  · have HM := hid (memoB_long (s := s) (by omega))
    go_enter Try.func59, Try.ntmps59
    go_wp2_with (go_at_call 79; refine (bytesWithin _ _ hs').mono ?_; rintro e w' ⟨rfl, rfl⟩)
    go_ret
    exact ⟨ret_bool (by rw [HM.out]), rfl⟩
/-! ### histories -/
def verOk (i : Nat) (x : Version) : Bool := decide (x.number = (i : Int) + 1) && inB x.parent 0 i && memoB x.memo && stateOkB x.state
def allIx {α : Type} (p : Nat → α → Bool) (xs : List α) : Bool := (List.range xs.length).all fun i => (xs[i]?.map (p i)).getD true
theorem allIx_no {α : Type} {p : Nat → α → Bool} {xs : List α} (k : Nat) (h : k < xs.length) (hp : p k xs[k] = false) : allIx p xs = false := by
  rw [Bool.eq_false_iff]; intro hh; unfold allIx at hh; rw [List.all_eq_true] at hh
  have := hh k (by simpa using h)
  rw [List.getElem?_eq_getElem h] at this
  simp [hp] at this
theorem allIx_yes {α : Type} {p : Nat → α → Bool} {xs : List α} (h : ∀ k (h : k < xs.length), p k xs[k] = true) : allIx p xs = true := by
  unfold allIx; rw [List.all_eq_true]; intro i hi
  have hi' : i < xs.length := by simpa using hi
  rw [List.getElem?_eq_getElem hi']; simp [h i hi']
theorem allIx_at {α : Type} {p : Nat → α → Bool} {xs : List α} (hh : allIx p xs = true) (k : Nat) (h : k < xs.length) : p k xs[k] = true := by
  unfold allIx at hh; rw [List.all_eq_true] at hh
  have := hh k (by simpa using h)
  rw [List.getElem?_eq_getElem h] at this
  simpa using this
def histB (xs : List Version) : Bool := decide (xs.length ≤ 32) && allIx verOk xs
theorem hist_no {xs : List Version} (k : Nat) (h : k < xs.length) (hp : verOk k xs[k] = false) : histB xs = false := by unfold histB; rw [allIx_no k h hp, Bool.and_false]
theorem hist_long {xs : List Version} (h : 32 < xs.length) : histB xs = false := by unfold histB; simp; try omega
theorem hist_all {xs : List Version} (h : ∀ k (h : k < xs.length), verOk k xs[k] = true) : histB xs = decide (xs.length ≤ 32) := by unfold histB; rw [allIx_yes h, Bool.and_true]
theorem hist_len {xs : List Version} (h : histB xs = true) : xs.length ≤ 32 := by unfold histB at h; simp at h; exact h.1
theorem hist_at {xs : List Version} (h : histB xs = true) (k : Nat) (hk : k < xs.length) : xs[k].number = (k : Int) + 1 ∧ 0 ≤ xs[k].parent ∧ xs[k].parent ≤ (k : Int) ∧ memoB xs[k].memo = true ∧ stateOkB xs[k].state = true := by
  unfold histB at h; simp only [Bool.and_eq_true] at h
  have := allIx_at h.2 k hk
  unfold verOk inB at this
  simp only [Bool.and_eq_true, decide_eq_true_eq] at this
  exact ⟨this.1.1.1, this.1.1.2.1, this.1.1.2.2, this.1.2, this.2⟩
set_option maxRecDepth 100000 in
theorem l27Ok (xs : List Version) (lo hi : Nat) (v : Value) (w : World) (hv : SlV lo hi w v xs) (hs : ∀ x ∈ xs, okV x) (hn : totN nV xs + xs.length ≤ 1048576) :
    Calls Try.prog 57 #[v] w fun e w' => e = .returned (.bool (histB xs)) ∧ Ext w w' := by
  obtain ⟨ps, hps, ⟨hhi, _, A, c, rfl, hnc, hcm, hcell⟩, hin⟩ := hv.opn
  have HP := hid hps
  clear hps hv
  go_enter Try.func57, Try.ntmps57
  go_wp2
  go_loopw [3] (fun i wr => ∃ (k : Nat), k ≤ xs.length ∧ i = .int .i64 k ∧ Ext w wr ∧ Hid (∀ j (h : j < xs.length), j < k → verOk j xs[j] = true)) (fun i _ => xs.length - (intOf i).toNat)
  case atStart => exact ⟨0, by omega, rfl, Below.refl _ _, hid (fun j h hj => absurd hj (by omega))⟩
  case round =>
    obtain ⟨k, hk, rfl, hE, hall⟩ := hrel
    by_cases hlt : k < xs.length
    · obtain ⟨b, off, rfl, hb1, hb2, hc⟩ := hcell (by omega)
      have hbw : b < w.heap.size := by omega
      obtain ⟨Au, cu, c0, c1, c2, c3, hu⟩ := Version.at_ HP.out hin hc hE hbw k hlt
      obtain ⟨hsm, hss⟩ := hs _ (List.getElem_mem hlt)
      have hsn : xs[k].state.length ≤ 1048576 := by have : xs[k].state.length ≤ totN nV xs := totN_mem nV xs k hlt; omega
      have HNO := hid (hist_no k hlt)
      have HR := hid (show verOk k xs[k] = true → ∀ j (h : j < xs.length), j < k + 1 → verOk j xs[j] = true from fun hx j h hj => by rcases Nat.lt_succ_iff_lt_or_eq.1 hj with h1 | rfl; exact hall.out j h h1; exact hx)
      clear hc hcell
      generalize xs[k] = x at *
      go_wp2_with (first | (go_at_call 78; refine (l00In _ _ _ _).mono ?_; rintro e w' ⟨rfl, rfl⟩) | (go_at_call 72; refine (l27Memo _ _ hsm).mono ?_; rintro e w' ⟨rfl, rfl⟩) | (go_at_call 50; refine (stateSpec x.state lo hi _ _ (hu.ext (Ext.new _ _)) hss hsn).mono ?_; rintro e w2 ⟨rfl, hE2⟩))
      all_goals first
        | (go_roundw
           case rel => exact ⟨k + 1, by omega, by go_num, Ext.tr hE (Ext.tr (Ext.new _ _) hE2), hid (HR.out (by unfold verOk; simp_all))⟩
           case measure => simp [intOf]; omega)
        | (go_ret
           exact ⟨by rw [HNO.out (by unfold verOk; simp_all)]; rfl, by first | exact Ext.tr hE (Ext.tr (Ext.new _ _) hE2) | exact Ext.tr hE (Ext.new _ _)⟩)
    · obtain rfl : k = xs.length := by omega
      have HQ := hid (hist_all fun k h => hall.out k h h)
      go_wp2
      go_ret
      exact ⟨ret_bool (by rw [HQ.out]; simp; try omega), hE⟩
set_option maxRecDepth 100000 in
theorem implValidHistory (xs : List Version) (lo hi : Nat) (v : Value) (w : World) (hv : SlV lo hi w v xs) (hs : ∀ x ∈ xs, okV x) (hn : totN nV xs + xs.length ≤ 1048576) :
    Calls Try.prog 25 #[v] w fun e w' => e = .returned (.bool (histB xs)) ∧ Ext w w' := by
  obtain ⟨ps, hps, ⟨hhi, _, A, c, rfl, hnc, hcm, hcell⟩, hin⟩ := hv.opn
  have HP := hid hps
  clear hps hv
  by_cases h32 : 32 < xs.length
  · have HQ := hid (hist_long h32)
    clear hcell
    go_enter Try.func25, Try.ntmps25
    go_wp2
    go_ret
    exact ⟨ret_bool HQ.out.symm, Below.refl _ _⟩
  go_enter Try.func25, Try.ntmps25
  go_wp2
  go_loopw [10] (fun i wr => ∃ (k : Nat), k ≤ xs.length ∧ i = .int .i64 k ∧ Ext w wr ∧ Hid (∀ j (h : j < xs.length), j < k → verOk j xs[j] = true)) (fun i _ => xs.length - (intOf i).toNat)
  case atStart => exact ⟨0, by omega, rfl, Below.refl _ _, hid (fun j h hj => absurd hj (by omega))⟩
  case round =>
    obtain ⟨k, hk, rfl, hE, hall⟩ := hrel
    by_cases hlt : k < xs.length
    · obtain ⟨b, off, rfl, hb1, hb2, hc⟩ := hcell (by omega)
      have hbw : b < w.heap.size := by omega
      obtain ⟨Au, cu, c0, c1, c2, c3, hu⟩ := Version.at_ HP.out hin hc hE hbw k hlt
      obtain ⟨hsm, hss⟩ := hs _ (List.getElem_mem hlt)
      have hsn : xs[k].state.length ≤ 1048576 := by have : xs[k].state.length ≤ totN nV xs := totN_mem nV xs k hlt; omega
      have HNO := hid (hist_no k hlt)
      have HR := hid (show verOk k xs[k] = true → ∀ j (h : j < xs.length), j < k + 1 → verOk j xs[j] = true from fun hx j h hj => by rcases Nat.lt_succ_iff_lt_or_eq.1 hj with h1 | rfl; exact hall.out j h h1; exact hx)
      clear hc hcell
      generalize xs[k] = x at *
      go_wp2_with (first | (go_at_call 58; refine (within _ _ _ _).mono ?_; rintro e w' ⟨rfl, rfl⟩) | (go_at_call 59; refine (memoValid _ _ hsm).mono ?_; rintro e w' ⟨rfl, rfl⟩) | (go_at_call 18; refine (stateImpl x.state lo hi _ _ (hu.ext (Ext.new _ _)) hss hsn).mono ?_; rintro e w2 ⟨rfl, hE2⟩))
      all_goals first
        | (go_roundw
           case rel => exact ⟨k + 1, by omega, by go_num, Ext.tr hE (Ext.tr (Ext.new _ _) hE2), hid (HR.out (by unfold verOk; simp_all))⟩
           case measure => simp [intOf]; omega)
        | (go_ret
           exact ⟨by rw [HNO.out (by unfold verOk; simp_all)]; rfl, by first | exact Ext.tr hE (Ext.tr (Ext.new _ _) hE2) | exact Ext.tr hE (Ext.new _ _)⟩)
    · obtain rfl : k = xs.length := by omega
      have HQ := hid (hist_all fun k h => hall.out k h h)
      go_wp2
      go_ret
      exact ⟨ret_bool (by rw [HQ.out]; simp; try omega), hE⟩
theorem specValidHistory (xs : List Version) (lo hi : Nat) (v : Value) (w : World) (hv : SlV lo hi w v xs) (hs : ∀ x ∈ xs, okV x) (hn : totN nV xs + xs.length ≤ 1048576) :
    Calls Try.prog 24 #[v] w fun e w' => e = .returned (.bool (histB xs)) ∧ Ext w w' := by
  go_enter Try.func24, Try.ntmps24
  go_wp2_with (go_at_call 57; refine (l27Ok xs lo hi v _ hv hs hn).mono ?_; rintro e w2 ⟨rfl, hE⟩)
  go_ret
  exact ⟨rfl, hE⟩
end Go.Proofs.Ythffakaddohlnaa
