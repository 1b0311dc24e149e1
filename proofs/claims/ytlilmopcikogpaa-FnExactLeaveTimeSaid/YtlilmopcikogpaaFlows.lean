/- Flows of a mine: the contracts of l07Flows and hasFlows. -/
import Derived.Test.YtlilmopcikogpaaMine1
import Derived.Test.YtlilmopcikogpaaWithin
namespace Go.Proofs.Ytlilmopcikogpaa
set_option linter.unusedVariables false
open Go.RowKit
def flowsB (n : Int) (fs : List Int) : Bool := decide ((fs.length : Int) = n) && allIn fs (-100000) 100000
theorem l03FlowF (n : Int) (w : World) : Calls Try.prog 101 #[.int .i64 n] w fun e w' => e = .returned (.bool (inB n (-100000) 100000)) ∧ w = w' := by
  go_enter Try.func101, Try.ntmps101
  go_wp2_with (go_at_call 53; refine (l00In _ _ _ _).mono ?_; rintro e w' ⟨rfl, rfl⟩)
  go_ret
  exact ⟨rfl, rfl⟩
theorem l07Flows (j : Int) (n : Nat) (A0 : Option Addr) (cm : Nat) (fs : List Int) (bm om lo hi : Nat) (v : Value) (w : World) (hm : MineAt w bm om j (.slice A0 n cm)) (hv : Sl lo hi w 1 v fs.length (flat encI fs)) (hn : fs.length ≤ 1048576) :
    Calls Try.prog 82 #[.pointer (some ⟨bm, om, none⟩), v] w fun e w' => e = .returned (.bool (flowsB n fs)) ∧ w = w' := by
  obtain ⟨m0, m1⟩ := hm
  obtain ⟨hhi, _, A, c, rfl, hnc, hcm, hcell⟩ := hv
  go_enter Try.func82, Try.ntmps82
  go_wp2
  go_loop [5] (fun i => ∃ k : Nat, k ≤ fs.length ∧ i = .int .i64 k ∧ Hid (∀ j (h : j < fs.length), j < k → inB fs[j] (-100000) 100000 = true)) (fun i => fs.length - (intOf i).toNat)
  case atStart => exact ⟨0, by omega, rfl, hid (fun j h hj => absurd hj (by omega))⟩
  case round =>
    obtain ⟨k, hk, rfl, hall⟩ := hrel
    by_cases hlt : k < fs.length
    · obtain ⟨b, off, rfl, hb1, hb2, hc⟩ := hcell (by omega)
      have c0 := cellsI hc k hlt
      clear hc
      cases hp : inB fs[k] (-100000) 100000
      · go_wp2_with (go_at_call 101; refine (cv (l03FlowF _ _) (vb hp)).mono ?_; rintro e w' ⟨rfl, rfl⟩)
        go_ret
        exact ⟨ret_bool (by unfold flowsB; rw [allIn_no k hlt hp]; simp), rfl⟩
      · go_wp2_with (go_at_call 101; refine (cv (l03FlowF _ _) (vb hp)).mono ?_; rintro e w' ⟨rfl, rfl⟩)
        go_round
        case rel => exact ⟨k + 1, by omega, by go_num, hid (fun j h hj => by rcases Nat.lt_succ_iff_lt_or_eq.1 hj with h1 | rfl; exact hall.out j h h1; exact hp)⟩
        case measure => simp [intOf]; omega
    · obtain rfl : k = fs.length := by omega
      go_wp2
      go_ret
      refine ⟨ret_bool ?_, rfl⟩
      unfold flowsB; rw [allIn_yes (fun k hk => hall.out k hk hk), Bool.and_true]
      go_tidy
      rw [Bool.eq_iff_iff]; simp
theorem hasFlows (j : Int) (n : Nat) (A0 : Option Addr) (cm : Nat) (fs : List Int) (lo hi : Nat) (v : Value) (w : World) (hv : Sl lo hi w 1 v fs.length (flat encI fs)) (hn : fs.length ≤ 1048576) :
    Calls Try.prog 84 #[.agg #[.int .i64 j, .slice A0 n cm], v] w fun e w' => e = .returned (.bool (flowsB n fs)) ∧ Ext w w' := by
  have hl : ∀ (W : World), Ext w W → Calls Try.prog 103 #[.agg #[.int .i64 j, .slice A0 n cm], v, .int .i64 (-100000), .int .i64 100000] W fun e w' => e = .returned (.bool (flowsB n fs)) ∧ Ext W w' := by
    intro W hW
    have hv1 := hv
    obtain ⟨_, _, A, c, rfl, _, _, _⟩ := hv1
    by_cases hq : (fs.length : Int) = n
    · have HQ := hid hq
      have hqb : ((fs.length : Int) == n) = true := by simpa using hq
      clear hq
      go_enter Try.func103, Try.ntmps103
      go_wp2_with (go_at_call 57; refine (allWithin fs _ _ _ _ _ _ (hv.ext (Ext.tr hW (by go_tidy; go_grown))) hn).mono ?_; rintro e w2 ⟨rfl, hE⟩)
      go_ret
      exact ⟨ret_bool (by unfold flowsB; simp [HQ.out]), Ext.tr (by go_tidy; go_grown) hE⟩
    · have hqb : ((fs.length : Int) == n) = false := by simpa using hq
      go_enter Try.func103, Try.ntmps103
      go_wp2
      go_ret
      exact ⟨ret_bool (by unfold flowsB; simp [hq]), by go_tidy; go_grown⟩
  go_enter Try.func84, Try.ntmps84
  go_wp2_with (go_at_call 103; refine (hl _ (by go_tidy; go_grown)).mono ?_; rintro e w2 ⟨rfl, hE⟩)
  go_ret
  exact ⟨rfl, Ext.tr (by go_tidy; go_grown) hE⟩
theorem flows_len {n : Int} {fs : List Int} (h : flowsB n fs = true) : (fs.length : Int) = n := by
  unfold flowsB at h; simp only [Bool.and_eq_true, decide_eq_true_eq] at h; exact h.1
theorem flows_in {n : Int} {fs : List Int} (h : flowsB n fs = true) (k : Nat) (hk : k < fs.length) : -100000 ≤ fs[k] ∧ fs[k] ≤ 100000 := by
  unfold flowsB at h; simp only [Bool.and_eq_true, decide_eq_true_eq] at h; exact allIn_at h.2 k hk
end Go.Proofs.Ytlilmopcikogpaa
