/- Names of crews: the contracts of l28Names and crewNames; lists of numbers: l00Has and slices.Contains. -/
import Derived.Test.YtibmcailjodpkaaStrs
import Derived.Test.YtibmcailjodpkaaNums
import Derived.Test.YtibmcailjodpkaaOk
import Derived.Test.YtibmcailjodpkaaAnyL
namespace Go.Proofs.Ytibmcailjodpkaa
set_option linter.unusedVariables false
open Go.RowKit
def namesB (cs : List ByteArray) : Bool := decide (cs.length ≤ 8) && allOk cs nameB strLt
theorem names_name {cs : List ByteArray} (h : namesB cs = true) (k : Nat) (hk : k < cs.length) : nameB cs[k] = true := by
  unfold namesB at h; rw [Bool.and_eq_true] at h; exact allOk_p h.2 k hk
theorem names_len {cs : List ByteArray} (h : namesB cs = true) : cs.length ≤ 8 := by
  unfold namesB at h; simp only [Bool.and_eq_true, decide_eq_true_eq] at h; exact h.1
set_option maxRecDepth 100000 in
set_option maxHeartbeats 1000000 in
theorem l28Names (cs : List ByteArray) (lo hi : Nat) (v : Value) (w : World) (hv : Sl lo hi w 1 v cs.length (flat encT cs)) (hs : ∀ x ∈ cs, x.size ≤ maxLen) (hn : cs.length ≤ 1048576) :
    Calls Try.prog 53 #[v] w fun e w' => e = .returned (.bool (namesB cs)) ∧ Ext w w' := by
  obtain ⟨hhi, _, A, c, rfl, hnc, hcm, hcell⟩ := hv
  go_enter Try.func53, Try.ntmps53
  go_wp2
  go_loopw [3] (fun i wr => ∃ k : Nat, k ≤ cs.length ∧ i = .int .i64 k ∧ Hid (OkTo cs nameB strLt k) ∧ Ext w wr) (fun i _ => cs.length - (intOf i).toNat)
  case atStart => exact ⟨0, by omega, rfl, hid OkTo.zero, Below.refl _ _⟩
  case round =>
    obtain ⟨k, hk, rfl, hok, hE⟩ := hrel
    by_cases hlt : k < cs.length
    · obtain ⟨b0, off, rfl, hb1, hb2, hc⟩ := hcell (by omega)
      have hbw : b0 < w.heap.size := by omega
      have hki : (k : Int) < cs.length := by omega
      have hsk : cs[k].size ≤ maxLen := hs _ (List.getElem_mem hlt)
      have y0 : ∀ d : Later wr, d.w.cell? ⟨b0, off + k, none⟩ = some (.string cs[k]) := fun d => ((bcell (Ext.tr hE d.h)).1 _ _ hbw).trans (cellsT hc k hlt)
      cases h0 : nameB cs[k]
      · go_wp2
        refine wp_region_later wr (by kernel_rfl) (by kernel_rfl) (Below.refl _ _) ?_
        repeat (go_big_quiet_step ((first | (go_at_call 80; exact qls (l01Name _ _ hsk) (vb h0)))))
        refine wpQuiet_nil ?_
        rintro _ ⟨d, rfl⟩
        go_wp2
        go_ret
        exact ⟨ret_bool (by unfold namesB; rw [allOk_noP hlt h0]; simp), Ext.tr hE d.h⟩
      · by_cases hz : 0 < k
        · have hz' : (0 : Int) < k := by omega
          have y1 : ∀ d : Later wr, d.w.cell? ⟨b0, off + (k - 1), none⟩ = some (.string (cs[k - 1]'(by omega))) := fun d => ((bcell (Ext.tr hE d.h)).1 _ _ hbw).trans (cellsT hc (k - 1) (by omega))
          cases hl : strLt (cs[k - 1]'(by omega)) cs[k]
          all_goals have hl' : Op.bytesLess (cs[k - 1]'(by omega)).toList cs[k].toList = _ := hl
          · go_wp2
            refine wp_region_later wr (by kernel_rfl) (by kernel_rfl) (Below.refl _ _) ?_
            repeat (go_big_quiet_step ((first | (go_at_call 80; exact qls (l01Name _ _ hsk) (vb h0)))))
            refine wpQuiet_nil ?_
            rintro _ ⟨d, rfl⟩
            go_wp2
            go_ret
            exact ⟨ret_bool (by unfold namesB; rw [allOk_noL hlt hz hl]; simp), Ext.tr hE d.h⟩
          · go_wp2
            refine wp_region_later wr (by kernel_rfl) (by kernel_rfl) (Below.refl _ _) ?_
            repeat (go_big_quiet_step ((first | (go_at_call 80; exact qls (l01Name _ _ hsk) (vb h0)))))
            refine wpQuiet_nil ?_
            rintro _ ⟨d, rfl⟩
            go_wp2
            go_roundw
            case rel => exact ⟨k + 1, by omega, by go_num, hid (hok.out.succ hlt h0 (fun _ => hl)), Ext.tr hE d.h⟩
            case measure => simp [intOf]; omega
        · have hz' : ¬ (0 : Int) < k := by omega
          go_wp2
          refine wp_region_later wr (by kernel_rfl) (by kernel_rfl) (Below.refl _ _) ?_
          repeat (go_big_quiet_step ((first | (go_at_call 80; exact qls (l01Name _ _ hsk) (vb h0)))))
          refine wpQuiet_nil ?_
          rintro _ ⟨d, rfl⟩
          go_wp2
          go_roundw
          case rel => exact ⟨k + 1, by omega, by go_num, hid (hok.out.succ hlt h0 (fun h => absurd h hz)), Ext.tr hE d.h⟩
          case measure => simp [intOf]; omega
    · obtain rfl : k = cs.length := by omega
      go_wp2
      go_ret
      exact ⟨ret_bool (by unfold namesB; rw [hok.out.end_, Bool.and_true]; exact decide_eq_decide.2 (by omega)), hE⟩
set_option maxRecDepth 100000 in
set_option maxHeartbeats 1000000 in
theorem crewNames (cs : List ByteArray) (lo hi : Nat) (v : Value) (w : World) (hv : Sl lo hi w 1 v cs.length (flat encT cs)) (hs : ∀ x ∈ cs, x.size ≤ maxLen) (hn : cs.length ≤ 1048576) :
    Calls Try.prog 56 #[v] w fun e w' => e = .returned (.bool (namesB cs)) ∧ w = w' := by
  obtain ⟨hhi, _, A, c, rfl, hnc, hcm, hcell⟩ := hv
  go_enter Try.func56, Try.ntmps56
  go_wp2
  go_loop [7] (fun i => ∃ k : Nat, k ≤ cs.length ∧ i = .int .i64 k ∧ Hid (OkTo cs nameB strLt k)) (fun i => cs.length - (intOf i).toNat)
  case atStart => exact ⟨0, by omega, rfl, hid OkTo.zero⟩
  case round =>
    obtain ⟨k, hk, rfl, hok⟩ := hrel
    by_cases hlt : k < cs.length
    · obtain ⟨b0, off, rfl, hb1, hb2, hc⟩ := hcell (by omega)
      have hsk : cs[k].size ≤ maxLen := hs _ (List.getElem_mem hlt)
      have c0 := cellsT hc k hlt
      have HC := hid hc
      clear hc
      cases h0 : nameB cs[k]
      · go_wp2_with (go_at_call 76; refine (cv (isName _ _ hsk) (vb h0)).mono ?_; rintro e w' ⟨rfl, rfl⟩)
        go_ret
        exact ⟨ret_bool (by unfold namesB; rw [allOk_noP hlt h0]; simp), rfl⟩
      · by_cases hz : 0 < k
        · have hz' : (0 : Int) < k := by omega
          have hki : (k : Int) - 1 < cs.length := by omega
          have c1 := cellsT HC.out (k - 1) (by omega)
          cases hl : strLt (cs[k - 1]'(by omega)) cs[k]
          all_goals have hl' := strLt_le (cs[k - 1]'(by omega)) cs[k]
          all_goals rw [hl] at hl'
          · have hl2 : (Op.bytesLess cs[k].toList (cs[k - 1]'(by omega)).toList || cs[k].toList == (cs[k - 1]'(by omega)).toList) = true := hl'
            go_wp2_with (go_at_call 76; refine (cv (isName _ _ hsk) (vb h0)).mono ?_; rintro e w' ⟨rfl, rfl⟩)
            go_ret
            exact ⟨ret_bool (by unfold namesB; rw [allOk_noL hlt hz hl]; simp), rfl⟩
          · have hl2 : (Op.bytesLess cs[k].toList (cs[k - 1]'(by omega)).toList || cs[k].toList == (cs[k - 1]'(by omega)).toList) = false := hl'
            go_wp2_with (go_at_call 76; refine (cv (isName _ _ hsk) (vb h0)).mono ?_; rintro e w' ⟨rfl, rfl⟩)
            go_round
            case rel => exact ⟨k + 1, by omega, by go_num, hid (hok.out.succ hlt h0 (fun _ => hl))⟩
            case measure => simp [intOf]; omega
        · have hz' : ¬ (0 : Int) < k := by omega
          go_wp2_with (go_at_call 76; refine (cv (isName _ _ hsk) (vb h0)).mono ?_; rintro e w' ⟨rfl, rfl⟩)
          go_round
          case rel => exact ⟨k + 1, by omega, by go_num, hid (hok.out.succ hlt h0 (fun h => absurd h hz))⟩
          case measure => simp [intOf]; omega
    · obtain rfl : k = cs.length := by omega
      go_wp2
      go_ret
      exact ⟨ret_bool (by unfold namesB; rw [hok.out.end_, Bool.and_true]; exact decide_eq_decide.2 (by omega)), rfl⟩
def hasI (xs : List Int) (n : Int) : Bool := xs.any fun x => decide (x = n)
theorem hasI_yes {xs : List Int} {n : Int} (k : Nat) (h : k < xs.length) (e : xs[k] = n) : hasI xs n = true := by
  unfold hasI; exact List.any_eq_true.2 ⟨_, List.getElem_mem h, by simpa using e⟩
theorem hasI_no {xs : List Int} {n : Int} (h : ∀ k (hk : k < xs.length), ¬ xs[k] = n) : hasI xs n = false := by
  unfold hasI; rw [List.any_eq_false]; intro x hx
  obtain ⟨k, hk, rfl⟩ := List.getElem_of_mem hx
  simpa using h k hk
theorem l00Has (xs : List Int) (n : Int) (lo hi : Nat) (v : Value) (w : World) (hv : Sl lo hi w 1 v xs.length (flat encI xs)) (hn : xs.length ≤ 2097152) :
    Calls Try.prog 63 #[v, .int .i64 n] w fun e w' => e = .returned (.bool (hasI xs n)) ∧ w = w' := by
  obtain ⟨hhi, _, A, c, rfl, hnc, hcm, hcell⟩ := hv
  go_enter Try.func63, Try.ntmps63
  go_wp2
  go_loop [5] (fun i => ∃ k : Nat, k ≤ xs.length ∧ i = .int .i64 k ∧ Hid (∀ j (h : j < xs.length), j < k → ¬ xs[j] = n)) (fun i => xs.length - (intOf i).toNat)
  case atStart => exact ⟨0, by omega, rfl, hid (fun j h hj => absurd hj (by omega))⟩
  case round =>
    obtain ⟨k, hk, rfl, hall⟩ := hrel
    by_cases hlt : k < xs.length
    · obtain ⟨b, off, rfl, hb1, hb2, hc⟩ := hcell (by omega)
      have c0 := cellsI hc k hlt
      clear hc
      by_cases he : xs[k] = n
      · have HQ := hid (hasI_yes k hlt he)
        have he' : (xs[k] == n) = true := by simpa using he
        clear he
        go_wp2
        go_ret
        exact ⟨ret_bool HQ.out.symm, rfl⟩
      · have he' : (xs[k] == n) = false := by simpa using he
        go_wp2
        go_round
        case rel => exact ⟨k + 1, by omega, by go_num, hid (fun j h hj => by rcases Nat.lt_succ_iff_lt_or_eq.1 hj with h1 | rfl; exact hall.out j h h1; exact he)⟩
        case measure => simp [intOf]; omega
    · obtain rfl : k = xs.length := by omega
      go_wp2
      go_ret
      exact ⟨ret_bool (hasI_no (fun k hk => hall.out k hk hk)).symm, rfl⟩
theorem indexI (xs : List Int) (n : Int) (lo hi : Nat) (v : Value) (w : World) (hv : Sl lo hi w 1 v xs.length (flat encI xs)) (hn : xs.length ≤ 2097152) :
    Calls Try.prog 83 #[v, .int .i64 n] w fun e w' => idxP (hasI xs n) e ∧ w = w' := by
  obtain ⟨hhi, _, A, c, rfl, hnc, hcm, hcell⟩ := hv
  go_enter Try.func83, Try.ntmps83
  go_wp2
  go_loop [8] (fun i => ∃ k : Nat, k ≤ xs.length ∧ i = .int .i64 k ∧ Hid (∀ j (h : j < xs.length), j < k → ¬ xs[j] = n)) (fun i => xs.length - (intOf i).toNat)
  case atStart => exact ⟨0, by omega, rfl, hid (fun j h hj => absurd hj (by omega))⟩
  case round =>
    obtain ⟨k, hk, rfl, hall⟩ := hrel
    by_cases hlt : k < xs.length
    · obtain ⟨b, off, rfl, hb1, hb2, hc⟩ := hcell (by omega)
      have c0 := cellsI hc k hlt
      clear hc
      by_cases he : xs[k] = n
      · have HQ := hid (hasI_yes k hlt he)
        have he' : (n == xs[k]) = true := by simpa using he.symm
        clear he
        go_wp2
        go_ret
        exact ⟨idxP_yes k HQ.out, rfl⟩
      · have he' : (n == xs[k]) = false := by simpa using fun h => he h.symm
        go_wp2
        go_round
        case rel => exact ⟨k + 1, by omega, by go_num, hid (fun j h hj => by rcases Nat.lt_succ_iff_lt_or_eq.1 hj with h1 | rfl; exact hall.out j h h1; exact he)⟩
        case measure => simp [intOf]; omega
    · obtain rfl : k = xs.length := by omega
      go_wp2
      go_ret
      exact ⟨idxP_no (hasI_no (fun k hk => hall.out k hk hk)), rfl⟩
theorem containsI (xs : List Int) (n : Int) (lo hi : Nat) (v : Value) (w : World) (hv : Sl lo hi w 1 v xs.length (flat encI xs)) (hn : xs.length ≤ 2097152) :
    Calls Try.prog 64 #[v, .int .i64 n] w fun e w' => e = .returned (.bool (hasI xs n)) ∧ w = w' := by
  go_enter Try.func64, Try.ntmps64
  go_wp2_with (go_at_call 83; refine (indexI xs n lo hi v _ hv hn).mono ?_; rintro e w' ⟨⟨r, rfl, hr⟩, rfl⟩)
  all_goals
    go_ret
    refine ⟨ret_bool ?_, rfl⟩
    go_tidy
    cases hA : hasI xs n <;> rw [hA] at hr <;> simp at hr ⊢ <;> omega
end Go.Proofs.Ytibmcailjodpkaa
