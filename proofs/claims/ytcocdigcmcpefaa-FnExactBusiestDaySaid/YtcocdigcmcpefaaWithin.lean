/- Contracts of allWithin and of the library's IndexFunc and ContainsFunc as it uses them. -/
import Derived.Test.YtcocdigcmcpefaaNums
import Derived.Test.YtcocdigcmcpefaaOk
namespace Go.Proofs.Ytcocdigcmcpefaa
set_option linter.unusedVariables false
open Go.RowKit
def allIn (xs : List Int) (a b : Int) : Bool := xs.all fun n => inB n a b
theorem allIn_at {xs : List Int} {a b : Int} (h : allIn xs a b = true) (k : Nat) (hk : k < xs.length) : a ≤ xs[k] ∧ xs[k] ≤ b := by
  unfold allIn at h; rw [List.all_eq_true] at h
  have := h _ (List.getElem_mem hk); unfold inB at this; simpa using this
theorem allIn_no {xs : List Int} {a b : Int} (k : Nat) (hk : k < xs.length) (h : inB xs[k] a b = false) : allIn xs a b = false := by
  rw [Bool.eq_false_iff]; intro hh; unfold allIn at hh; rw [List.all_eq_true] at hh
  have := hh _ (List.getElem_mem hk); rw [h] at this; cases this
theorem allIn_yes {xs : List Int} {a b : Int} (h : ∀ k (hk : k < xs.length), inB xs[k] a b = true) : allIn xs a b = true := by
  unfold allIn; rw [List.all_eq_true]; intro x hx
  obtain ⟨k, hk, rfl⟩ := List.getElem_of_mem hx; exact h k hk
theorem allWithin1 (n a b : Int) (g g' : Nat) (w : World) (ha : w.cell? ⟨g, 0, none⟩ = some (.int .i64 a)) (hb : w.cell? ⟨g', 0, none⟩ = some (.int .i64 b)) :
    Calls Try.prog 68 #[.int .i64 n, .pointer (some ⟨g, 0, none⟩), .pointer (some ⟨g', 0, none⟩)] w fun e w' => e = .returned (.bool (!inB n a b)) ∧ w = w' := by
  go_enter Try.func68, Try.ntmps68
  go_wp2_with (go_at_call 56; refine (within _ _ _ _).mono ?_; rintro e w' ⟨rfl, rfl⟩)
  go_ret
  exact ⟨rfl, rfl⟩
def idxPost (xs : List Int) (a b : Int) (e : Ending) : Prop := ∃ r : Int, e = .returned (.int .i64 r) ∧ (if allIn xs a b then r = -1 else 0 ≤ r)
theorem idxWithin (xs : List Int) (a b : Int) (g g' lo hi : Nat) (v : Value) (w : World) (hv : Sl lo hi w 1 v xs.length (flat encI xs)) (hn : xs.length ≤ 1048576) (ha : w.cell? ⟨g, 0, none⟩ = some (.int .i64 a)) (hb : w.cell? ⟨g', 0, none⟩ = some (.int .i64 b)) :
    Calls Try.prog 76 #[v, .func (.func 68) #[] #[.pointer (some ⟨g, 0, none⟩), .pointer (some ⟨g', 0, none⟩)]] w fun e w' => idxPost xs a b e ∧ w = w' := by
  obtain ⟨hhi, _, A, c, rfl, hnc, hcm, hcell⟩ := hv
  go_enter Try.func76, Try.ntmps76
  go_wp2
  go_loop [8] (fun i => ∃ k : Nat, k ≤ xs.length ∧ i = .int .i64 k ∧ Hid (∀ j (h : j < xs.length), j < k → inB xs[j] a b = true)) (fun i => xs.length - (intOf i).toNat)
  case atStart => exact ⟨0, Nat.zero_le _, rfl, hid (fun j h hj => absurd hj (by omega))⟩
  case round =>
    obtain ⟨k, hk, rfl, hall⟩ := hrel
    by_cases hlt : k < xs.length
    · obtain ⟨b', off, rfl, hb1, hb2, hc⟩ := hcell (by omega)
      have c0 := cellsI hc k hlt
      clear hc
      cases hp : inB xs[k] a b
      · go_wp2_with (go_at_call 68; refine (cv (allWithin1 _ a b _ _ _ ha hb) (vb (by rw [hp]; rfl : (!inB xs[k] a b) = true))).mono ?_; rintro e w' ⟨rfl, rfl⟩)
        go_ret
        exact ⟨⟨k, rfl, by rw [allIn_no k hlt hp]; simp⟩, rfl⟩
      · go_wp2_with (go_at_call 68; refine (cv (allWithin1 _ a b _ _ _ ha hb) (vb (by rw [hp]; rfl : (!inB xs[k] a b) = false))).mono ?_; rintro e w' ⟨rfl, rfl⟩)
        go_round
        case rel => exact ⟨k + 1, by omega, by go_num, hid (fun j h hj => by rcases Nat.lt_succ_iff_lt_or_eq.1 hj with h1 | rfl; exact hall.out j h h1; exact hp)⟩
        case measure => simp [intOf]; omega
    · obtain rfl : k = xs.length := by omega
      go_wp2
      go_ret
      exact ⟨⟨-1, rfl, by rw [allIn_yes (fun k hk => hall.out k hk hk)]; simp⟩, rfl⟩
theorem containsWithin (xs : List Int) (a b : Int) (g g' lo hi : Nat) (v : Value) (w : World) (hv : Sl lo hi w 1 v xs.length (flat encI xs)) (hn : xs.length ≤ 1048576) (ha : w.cell? ⟨g, 0, none⟩ = some (.int .i64 a)) (hb : w.cell? ⟨g', 0, none⟩ = some (.int .i64 b)) :
    Calls Try.prog 67 #[v, .func (.func 68) #[] #[.pointer (some ⟨g, 0, none⟩), .pointer (some ⟨g', 0, none⟩)]] w fun e w' => e = .returned (.bool (!allIn xs a b)) ∧ w = w' := by
  go_enter Try.func67, Try.ntmps67
  go_wp2_with (go_at_call 76; refine (idxWithin xs a b g g' lo hi v _ hv hn ha hb).mono ?_; rintro e w' ⟨⟨r, rfl, hr⟩, rfl⟩)
  all_goals
    go_ret
    refine ⟨ret_bool ?_, rfl⟩
    go_tidy
    cases hA : allIn xs a b <;> rw [hA] at hr <;> simp at hr ⊢ <;> omega
theorem allWithin (xs : List Int) (a b : Int) (lo hi : Nat) (v : Value) (w : World) (hv : Sl lo hi w 1 v xs.length (flat encI xs)) (hn : xs.length ≤ 1048576) :
    Calls Try.prog 58 #[v, .int .i64 a, .int .i64 b] w fun e w' => e = .returned (.bool (allIn xs a b)) ∧ Ext w w' := by
  have hv2 := hv.ext (Ext.tr (Ext.new w (.cells #[.int .i64 a] 2)) (Ext.new _ (.cells #[.int .i64 b] 2)))
  have HV := hid hv2
  clear hv2
  go_enter Try.func58, Try.ntmps58
  go_wp2_with (go_at_call 67; refine (containsWithin xs a b _ _ _ _ _ _ HV.out hn (by simp [go_sem]) (by simp [go_sem])).mono ?_; rintro e w' ⟨rfl, rfl⟩)
  go_ret
  exact ⟨ret_bool (by simp), by go_tidy; go_grown⟩
end Go.Proofs.Ytcocdigcmcpefaa
