/- slices.Sort on at most twelve numbers. -/
import Derived.Test.YtopjccbjdcoanaaMedD
import Derived.Test.YtopjccbjdcoanaaMedQ
import Derived.BigRegion
import Derived.BigQuiet
namespace Go.Proofs.Ytopjccbjdcoanaa
set_option linter.unusedVariables false
open Go.RowKit
theorem isNaNI (a : Int) (w : World) : Calls Try.prog 124 #[.int .i64 a] w fun e w' => e = .returned (.bool false) ∧ w = w' := by
  go_enter Try.func124, Try.ntmps124
  go_wp2
  go_ret
  exact ⟨rfl, rfl⟩
theorem lessI (a b : Int) (w : World) : Calls Try.prog 114 #[.int .i64 a, .int .i64 b] w fun e w' => e = .returned (.bool (decide (a < b))) ∧ w = w' := by
  by_cases h : a < b
  · go_enter Try.func114, Try.ntmps114
    go_wp2_with (go_at_call 124; refine (isNaNI _ _).mono ?_; rintro e w' ⟨rfl, rfl⟩)
    go_ret
    exact ⟨ret_bool (by simp [h]), rfl⟩
  · go_enter Try.func114, Try.ntmps114
    go_wp2_with (go_at_call 124; refine (isNaNI _ _).mono ?_; rintro e w' ⟨rfl, rfl⟩)
    go_ret
    exact ⟨ret_bool (by simp), rfl⟩
set_option maxRecDepth 100000 in
set_option maxHeartbeats 1000000 in
theorem insSort (ns : List Int) (base g cap : Nat) (w : World) (h0 : 0 < ns.length) (hn : ns.length ≤ 12) (hbw : base ≤ w.heap.size) (hown : w.ownsRow base 2 1 (.slice (some ⟨g, 0, none⟩) ns.length cap) ns.length (flat encI ns)) :
    Calls Try.prog 108 #[.slice (some ⟨g, 0, none⟩) ns.length cap, .int .i64 0, .int .i64 ns.length] w fun e w' => e = .returned (.tuple #[]) ∧ (∃ L : List Int, (L.Perm ns ∧ L.Pairwise (· ≤ ·)) ∧ w'.ownsRow base 2 1 (.slice (some ⟨g, 0, none⟩) ns.length cap) ns.length (flat encI L)) ∧ Below base w w' := by
  have hbg : base ≤ g ∧ ns.length ≤ cap := by
    obtain ⟨_, _, _, he, hb, _, _, hc⟩ := row_open hown 0 (by omega)
    simp only [Value.slice.injEq, Option.some.injEq, Addr.mk.injEq, and_true, true_and] at he
    obtain ⟨rfl, rfl⟩ := he
    exact ⟨hb, hc⟩
  obtain ⟨hbg, hcap⟩ := hbg
  have HO := hid hown
  clear hown
  go_enter Try.func108, Try.ntmps108
  go_wp2
  go_loopw [6] (fun a wr => ∃ (i : Nat) (L : List Int), 1 ≤ i ∧ i ≤ ns.length ∧ a = .int .i64 i ∧ Hid (L.length = ns.length) ∧ Hid (Upto ns i L) ∧ Hid (wr.ownsRow base 2 1 (.slice (some ⟨g, 0, none⟩) ns.length cap) ns.length (flat encI L)) ∧ Below base w wr) (fun a _ => ns.length - (intOf a).toNat)
  case atStart => exact ⟨1, ns, by omega, by omega, rfl, hid rfl, hid (Upto.zero ns), HO, Below.refl _ _⟩
  case round =>
    obtain ⟨i, L, hi1, hi2, rfl, HL, hU, HR, hB⟩ := hrel
    by_cases hlt : i < ns.length
    · go_wp2
      go_loopw [7] (fun b wi => ∃ (j : Nat) (M : List Int), j ≤ i ∧ b = .int .i64 j ∧ Hid (M.length = ns.length) ∧ Hid (InsI ns i j M) ∧ Hid (wi.ownsRow base 2 1 (.slice (some ⟨g, 0, none⟩) ns.length cap) ns.length (flat encI M)) ∧ Below base w wi) (fun b _ => (intOf b).toNat)
      case atStart => exact ⟨i, L, Nat.le_refl _, rfl, HL, hid (hU.out.ins (by rw [HL.out]; exact hlt)), HR, hB⟩
      case round =>
        obtain ⟨j, M, hji, rfl, HM, HI, HR2, hB2⟩ := hrel
        have hjn : (j : Int) < ns.length := by omega
        by_cases hj : 0 < j
        · have hj' : (0 : Int) < j := by omega
          have cell : ∀ p, p < ns.length → wr.cell? ⟨g, p, none⟩ = some (.int .i64 (at0 M p)) := fun p hp => row_cell HR2.out (j := p) (show (flat encI M)[p]? = some (.int .i64 (at0 M p)) by
            have hp' : p < M.length := by rw [HM.out]; exact hp
            rw [flatI_map, List.getElem?_map, List.getElem?_eq_getElem hp', ← at0_of hp']; rfl)
          have cj := cell j (by omega)
          have ck := cell (j - 1) (by omega)
          by_cases hl : at0 M j < at0 M (j - 1)
          · have HLt := hid hl
            go_wp2_with fail
            go_quiet ((go_at_call 114; exact Calls.quiet_of_same (qv (lessI _ _ _) (vb (show decide (at0 M j < at0 M (j - 1)) = true by simpa using HLt.out)))))
            have HQ := hid (ownD HR2.out nq)
            have hBq := hB2.trans ((Ext.drewN wr nq).mono (Nat.le_trans hbw hB2.size))
            have fz : ∀ p, (wr.drewN nq).frozen? ⟨g, p, none⟩ = false := fun p => HQ.out.frozenAt _
            replace cell : ∀ p, p < ns.length → (wr.drewN nq).cell? ⟨g, p, none⟩ = some (.int .i64 (at0 M p)) := cell
            generalize wr.drewN nq = wq at *
            have cj := cell j (by omega)
            have ck := cell (j - 1) (by omega)
            have fj := fz j
            have fk := fz (j - 1)
            go_wp2_with fail
            go_region
            have HN := hid (show ((wq.setCell ⟨g, j, none⟩ (.int .i64 (at0 M (j - 1)))).setCell ⟨g, j - 1, none⟩ (.int .i64 (at0 M j))).ownsRow base 2 1 (.slice (some ⟨g, 0, none⟩) ns.length cap) ns.length (flat encI (swp M j)) by
              have h1 := (HQ.out.stored j (.int .i64 (at0 M (j - 1)))).1
              have h2 := (h1.stored (j - 1) (.int .i64 (at0 M j))).1
              unfold swp; rw [flatI_map, List.map_set, List.map_set, ← flatI_map]; exact h2)
            have hBn := (hBq.setCell (p := ⟨g, j, none⟩) hbg (.int .i64 (at0 M (j - 1)))).setCell (p := ⟨g, j - 1, none⟩) hbg (.int .i64 (at0 M j))
            generalize (wq.setCell _ _).setCell _ _ = wn at *
            have HN2 := hid (ownD HN.out 1)
            have hBn2 : Below base w wn.drew := hBn.drew
            change Hid (wn.drew.ownsRow _ _ _ _ _ _) at HN2
            generalize wn.drew = wm at *
            clear fz cell cj ck fj fk HQ HR2 HR HO hBq hBn
            go_wp2
            go_roundw
            case rel => exact ⟨j - 1, swp M j, by omega, congrArg _ (by omega), hid (by rw [swp_len, HM.out]), hid (HI.out.step hj hji (by rw [HM.out]; exact hlt) HLt.out), HN2, hBn2⟩
            case measure => simp [intOf]; omega
          · have hl' : at0 M (j - 1) ≤ at0 M j := by omega
            have HLt := hid hl'
            have HL0 := hid (show decide (at0 M j < at0 M (j - 1)) = false by simpa using hl)
            clear hl hl'
            go_wp2_with fail
            go_quiet ((go_at_call 114; exact Calls.quiet_of_same (qv (lessI _ _ _) (vb HL0.out))))
            go_wp2
            go_roundw
            case rel => exact ⟨i + 1, M, by omega, by omega, by go_num, HM, hid (HI.out.stop hji (.inr HLt.out)), hid (ownD HR2.out _), hB2.trans ((Ext.drewN wr _).mono (Nat.le_trans hbw hB2.size))⟩
            case measure => simp [intOf]; omega
        · obtain rfl : j = 0 := by omega
          go_wp2_with fail
          go_quiet (fail)
          go_wp2
          go_roundw
          case rel => exact ⟨i + 1, M, by omega, by omega, by go_num, HM, hid (HI.out.stop hji (.inl rfl)), hid (ownD HR2.out _), hB2.trans ((Ext.drewN wr _).mono (Nat.le_trans hbw hB2.size))⟩
          case measure => simp [intOf]; omega
    · obtain rfl : i = ns.length := by omega
      have HE := hid (hU.out.end_ (by rw [HL.out]; exact Nat.le_refl _))
      go_wp2
      go_end0
      exact ⟨rfl, ⟨L, HE.out, HR.out⟩, hB⟩
set_option maxRecDepth 100000 in
theorem bitsLen64 (n : Nat) (hn : n ≤ 12) (w : World) : Calls Try.prog 118 #[.int .u64 n] w fun e w' => (∃ k : Int, e = .returned (.int .i64 k)) ∧ w = w' := by
  have h : n = 0 ∨ n = 1 ∨ n = 2 ∨ n = 3 ∨ n = 4 ∨ n = 5 ∨ n = 6 ∨ n = 7 ∨ n = 8 ∨ n = 9 ∨ n = 10 ∨ n = 11 ∨ n = 12 := by omega
  rcases h with rfl | rfl | rfl | rfl | rfl | rfl | rfl | rfl | rfl | rfl | rfl | rfl | rfl
  all_goals
    go_enter Try.func118, Try.ntmps118
    go_wp2
    go_ret
    exact ⟨⟨_, rfl⟩, rfl⟩
set_option maxRecDepth 100000 in
theorem bitsLen (n : Nat) (hn : n ≤ 12) (w : World) : Calls Try.prog 105 #[.int .u64 n] w fun e w' => (∃ k : Int, e = .returned (.int .i64 k)) ∧ w = w' := by
  go_enter Try.func105, Try.ntmps105
  go_wp2_with (go_at_call 118; refine (bitsLen64 n hn _).mono ?_; rintro e w' ⟨⟨k, rfl⟩, rfl⟩)
  go_ret
  exact ⟨⟨_, rfl⟩, rfl⟩
set_option maxRecDepth 100000 in
theorem pdqSort (ns : List Int) (k : Int) (base g cap : Nat) (w : World) (h0 : 0 < ns.length) (hn : ns.length ≤ 12) (hbw : base ≤ w.heap.size) (hown : w.ownsRow base 2 1 (.slice (some ⟨g, 0, none⟩) ns.length cap) ns.length (flat encI ns)) :
    Calls Try.prog 104 #[.slice (some ⟨g, 0, none⟩) ns.length cap, .int .i64 0, .int .i64 ns.length, .int .i64 k] w fun e w' => e = .returned (.tuple #[]) ∧ (∃ L : List Int, (L.Perm ns ∧ L.Pairwise (· ≤ ·)) ∧ w'.ownsRow base 2 1 (.slice (some ⟨g, 0, none⟩) ns.length cap) ns.length (flat encI L)) ∧ Below base w w' := by
  have HI := hid (insSort ns base g cap w h0 hn hbw hown)
  clear hown
  have hn' : (ns.length : Int) ≤ 12 := by omega
  go_enter Try.func104, Try.ntmps104
  go_wp2
  go_loop [1, 2] (fun a b => a = .int .i64 0 ∧ b = .int .i64 ns.length) (fun _ _ => 0)
  case atStart => exact ⟨rfl, rfl⟩
  case round =>
    obtain ⟨rfl, rfl⟩ := hrel
    go_wp2_with (go_at_call 108; refine HI.out.mono ?_; rintro e w' ⟨rfl, h1, h2⟩)
    first | go_end0 | refine bodyPost_ret (results_none rfl _ _ _) rfl ?_
    exact ⟨rfl, h1, h2⟩
set_option maxRecDepth 100000 in
theorem sortI (ns : List Int) (base g cap : Nat) (w : World) (h0 : 0 < ns.length) (hn : ns.length ≤ 12) (hbw : base ≤ w.heap.size) (hown : w.ownsRow base 2 1 (.slice (some ⟨g, 0, none⟩) ns.length cap) ns.length (flat encI ns)) :
    Calls Try.prog 99 #[.slice (some ⟨g, 0, none⟩) ns.length cap] w fun e w' => e = .returned (.tuple #[]) ∧ (∃ L : List Int, (L.Perm ns ∧ L.Pairwise (· ≤ ·)) ∧ w'.ownsRow base 2 1 (.slice (some ⟨g, 0, none⟩) ns.length cap) ns.length (flat encI L)) ∧ Below base w w' := by
  have HI := hid (fun k => pdqSort ns k base g cap w h0 hn hbw hown)
  clear hown
  have hn' : (ns.length : Int) ≤ 12 := by omega
  go_enter Try.func99, Try.ntmps99
  go_wp2_with (first | (go_at_call 105; refine (bitsLen ns.length hn _).mono ?_; rintro e w' ⟨⟨k, rfl⟩, rfl⟩) | (go_at_call 104; refine (HI.out _).mono ?_; rintro e w' ⟨rfl, h1, h2⟩))
  first | go_end0 | refine bodyPost_ret (results_none rfl _ _ _) rfl ?_
  exact ⟨rfl, h1, h2⟩
end Go.Proofs.Ytopjccbjdcoanaa
