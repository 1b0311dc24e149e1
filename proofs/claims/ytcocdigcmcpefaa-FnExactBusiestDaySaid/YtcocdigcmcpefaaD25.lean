/- Contracts of ChecksDue, LatestOf, in both packages, and of the functions beneath them. -/
import Derived.Test.YtcocdigcmcpefaaV25
import Derived.Test.YtcocdigcmcpefaaApp
import Derived.Test.YtcocdigcmcpefaaNums
namespace Go.Proofs.Ytcocdigcmcpefaa
set_option linter.unusedVariables false
open Go.RowKit

theorem Own.of_row {w w' : World} {t K n : Nat} {v : Value} {xs : List Value} (h : w'.ownsRow w.heap.size t K v n xs) (hn : n ≤ 2097152) : Own w.heap.size w'.heap.size w' t K v n xs := Own.of h hn
def dueP (xs : List Check) (day : Int) : Nat → Bool := tst xs (fun c => decide (c.last + c.every ≤ day))
def chkDue (xs : List Check) (day : Int) : List Int × Int :=
  if checksOkB xs then (if inB day 0 100000 then (ixs (dueP xs day) xs.length, 0) else ([], 2)) else ([], 1)
theorem chkDue_no {xs : List Check} (day : Int) (h : checksOkB xs = false) : chkDue xs day = ([], 1) := by unfold chkDue; simp [h]
theorem chkDue_range {xs : List Check} {day : Int} (h : checksOkB xs = true) (h2 : inB day 0 100000 = false) : chkDue xs day = ([], 2) := by unfold chkDue; simp [h, h2]
theorem chkDue_ok {xs : List Check} {day : Int} (h : checksOkB xs = true) (h2 : inB day 0 100000 = true) : chkDue xs day = (ixs (dueP xs day) xs.length, 0) := by unfold chkDue; simp [h, h2]
theorem checksOkB_p {xs : List Check} (h : checksOkB xs = true) (k : Nat) (hk : k < xs.length) : (1 ≤ xs[k].every ∧ xs[k].every ≤ 365) ∧ (0 ≤ xs[k].last ∧ xs[k].last ≤ 100000) := by
  unfold checksOkB at h; rw [Bool.and_eq_true] at h
  exact checkB_bd (allOk_p h.2 k hk)

set_option maxRecDepth 100000 in
set_option maxHeartbeats 1000000 in
theorem specChecksDue (xs : List Check) (day : Int) (lo hi : Nat) (v : Value) (w : World) (hv : Sl lo hi w 3 v xs.length (flat Check.enc xs)) (hs : ∀ x ∈ xs, x.id.size ≤ maxLen) (hn : xs.length ≤ 1048576) :
    Calls Try.prog 18 #[v, .int .i64 day] w fun e w' => (∃ v', e = .returned (.tuple #[v', .int .i64 (chkDue xs day).2]) ∧ Own w.heap.size w'.heap.size w' 2 1 v' (chkDue xs day).1.length (flat encI (chkDue xs day).1)) ∧ Ext w w' := by
  cases h1 : checksOkB xs
  · have HQ := hid (chkDue_no day h1)
    go_enter Try.func18, Try.ntmps18
    go_wp2_with (go_at_call 31; refine (checksSpec xs lo hi v _ hv hs hn).mono ?_; rintro e w1 ⟨rfl, hE⟩)
    go_ret2
    exact ⟨⟨_, by rw [HQ.out]; rfl, by rw [HQ.out]; exact Own.nil _ _ hE⟩, hE⟩
  cases h2 : inB day 0 100000
  · have HQ := hid (chkDue_range h1 h2)
    go_enter Try.func18, Try.ntmps18
    go_wp2_with (first | (go_at_call 31; refine (checksSpec xs lo hi v _ hv hs hn).mono ?_; rintro e w1 ⟨rfl, hE⟩) | (go_at_call 40; refine (l25Day _ _).mono ?_; rintro e w' ⟨rfl, rfl⟩))
    go_ret2
    exact ⟨⟨_, by rw [HQ.out]; rfl, by rw [HQ.out]; exact Own.nil _ _ hE⟩, hE⟩
  have HQ := hid (chkDue_ok h1 h2)
  have hv0 := hv
  obtain ⟨hhi, _, A, c, rfl, hnc, hcm, hcell⟩ := hv0
  go_enter Try.func18, Try.ntmps18
  go_wp2_with (first | (go_at_call 31; refine (checksSpec xs lo hi _ _ hv hs hn).mono ?_; rintro e w1 ⟨rfl, hE⟩) | (go_at_call 40; refine (l25Day _ _).mono ?_; rintro e w' ⟨rfl, rfl⟩))
  have hz := hE.size
  go_loopw [6, 7] (fun u i wr => ∃ (k : Nat), k ≤ xs.length ∧ i = .int .i64 k ∧ wr.ownsRow w.heap.size 2 1 u (ixs (dueP xs day) k).length (flat encI (ixs (dueP xs day) k)) ∧ Ext w wr) (fun _ i _ => xs.length - (intOf i).toNat)
  case atStart => exact ⟨0, by omega, rfl, own_empty _ _ _ _ hz, Ext.tr hE (Ext.new _ _)⟩
  case round =>
    obtain ⟨k, hk, rfl, hown, hE3⟩ := hrel
    by_cases hlt : k < xs.length
    · obtain ⟨b, off, rfl, hb1, hb2, hc⟩ := hcell (by omega)
      have hbw : b < w.heap.size := by omega
      have hbd := checksOkB_p h1 k hlt
      have hat := Check.at_of hc hE3 hbw k hlt
      have htst := tst_at xs (fun c => decide (c.last + c.every ≤ day)) k hlt
      have hz3 := hE3.size
      have hil := ixs_len (dueP xs day) k
      by_cases hd : xs[k].last + xs[k].every ≤ day
      · have HX := hid (ixs_yes (dueP xs day) k (by unfold dueP; rw [htst]; simpa using hd))
        clear htst
        go_wp2_with (first | (go_at_call 36; refine (l25Due _ _ xs[k].every xs[k].last _ hbd.1 hbd.2 hat.2.1 hat.2.2).mono ?_; rintro e w2 ⟨rfl, n, rfl⟩) | (at_builtin; refine wp_append1 (wr.drewN n) rfl (.tmp 27) (.tmp 29) _ rfl w.heap.size 2 1 8 _ Try.underlying29 infoInt rfl (by omega) (by omega) _ _ _ (ownD hown n) rfl [.int .i64 k] rfl (by simp [Value.oneCell']) _ rfl rfl (by omega) hz3 ?_; intro v' w' ho' hb'))
        go_roundw
        case rel => exact ⟨k + 1, by omega, by go_num, by rw [HX.out, flat_snoc, List.length_append]; exact ho', (Ext.tr hE3 (Ext.drewN _ n)).trans hb'⟩
        case measure => simp [intOf]; omega
      · have HX := hid (ixs_no (dueP xs day) k (by unfold dueP; rw [htst]; simpa using hd))
        clear htst
        go_wp2_with (go_at_call 36; refine (l25Due _ _ xs[k].every xs[k].last _ hbd.1 hbd.2 hat.2.1 hat.2.2).mono ?_; rintro e w2 ⟨rfl, n, rfl⟩)
        go_roundw
        case rel => exact ⟨k + 1, by omega, by go_num, by rw [HX.out]; exact ownD hown n, Ext.tr hE3 (Ext.drewN _ n)⟩
        case measure => simp [intOf]; omega
    · obtain rfl : k = xs.length := by omega
      go_wp2
      go_ret2
      exact ⟨⟨_, by rw [HQ.out]; rfl, by rw [HQ.out]; exact Own.of hown (by have := ixs_len (dueP xs day) xs.length; show (ixs (dueP xs day) xs.length).length ≤ _; omega)⟩, hE3⟩
set_option maxRecDepth 100000 in
set_option maxHeartbeats 1000000 in
theorem implChecksDue (xs : List Check) (day : Int) (lo hi : Nat) (v : Value) (w : World) (hv : Sl lo hi w 3 v xs.length (flat Check.enc xs)) (hs : ∀ x ∈ xs, x.id.size ≤ maxLen) (hn : xs.length ≤ 1048576) :
    Calls Try.prog 19 #[v, .int .i64 day] w fun e w' => (∃ v', e = .returned (.tuple #[v', .int .i64 (chkDue xs day).2]) ∧ Own w.heap.size w'.heap.size w' 2 1 v' (chkDue xs day).1.length (flat encI (chkDue xs day).1)) ∧ Ext w w' := by
  cases h1 : checksOkB xs
  · have HQ := hid (chkDue_no day h1)
    go_enter Try.func19, Try.ntmps19
    go_wp2_with (go_at_call 12; refine (checksImpl xs lo hi v _ hv hs hn).mono ?_; rintro e w1 ⟨rfl, hE⟩)
    go_ret2
    exact ⟨⟨_, by rw [HQ.out]; rfl, by rw [HQ.out]; exact Own.nil _ _ hE⟩, hE⟩
  cases h2 : inB day 0 100000
  · have HQ := hid (chkDue_range h1 h2)
    go_enter Try.func19, Try.ntmps19
    go_wp2_with (first | (go_at_call 12; refine (checksImpl xs lo hi v _ hv hs hn).mono ?_; rintro e w1 ⟨rfl, hE⟩) | (go_at_call 41; refine (checkDay _ _).mono ?_; rintro e w' ⟨rfl, rfl⟩))
    go_ret2
    exact ⟨⟨_, by rw [HQ.out]; rfl, by rw [HQ.out]; exact Own.nil _ _ hE⟩, hE⟩
  have HQ := hid (chkDue_ok h1 h2)
  have hv0 := hv
  obtain ⟨hhi, _, A, c, rfl, hnc, hcm, hcell⟩ := hv0
  go_enter Try.func19, Try.ntmps19
  go_wp2_with (first | (go_at_call 12; refine (checksImpl xs lo hi _ _ hv hs hn).mono ?_; rintro e w1 ⟨rfl, hE⟩) | (go_at_call 41; refine (checkDay _ _).mono ?_; rintro e w' ⟨rfl, rfl⟩))
  have hz := hE.size
  go_loopw [6, 19] (fun u i wr => ∃ (k : Nat), k ≤ xs.length ∧ i = .int .i64 k ∧ wr.ownsRow w.heap.size 2 1 u (ixs (dueP xs day) k).length (flat encI (ixs (dueP xs day) k)) ∧ Ext w wr) (fun _ i _ => xs.length - (intOf i).toNat)
  case atStart => exact ⟨0, by omega, rfl, World.ownsRow_nil _ _ _ _, hE⟩
  case round =>
    obtain ⟨k, hk, rfl, hown, hE3⟩ := hrel
    by_cases hlt : k < xs.length
    · obtain ⟨b, off, rfl, hb1, hb2, hc⟩ := hcell (by omega)
      have hbw : b < w.heap.size := by omega
      have hbd := checksOkB_p h1 k hlt
      obtain ⟨c0, c1, c2⟩ := Check.cells hc k hlt
      clear hc
      obtain ⟨hcc, _⟩ := bcell hE3
      have htst := tst_at xs (fun c => decide (c.last + c.every ≤ day)) k hlt
      have hz3 := hE3.size
      have hil := ixs_len (dueP xs day) k
      by_cases hd : xs[k].last + xs[k].every ≤ day
      · have HX := hid (ixs_yes (dueP xs day) k (by unfold dueP; rw [htst]; simpa using hd))
        clear htst
        go_wp2_with (first | (go_at_call 39; refine (checkDue xs[k].id xs[k].every xs[k].last _ hbd.1 hbd.2).mono ?_; rintro e w2 ⟨rfl, hE4⟩; have hE5 := Ext.tr (Ext.new _ _) hE4; have hz5 := hE5.size; have how := ownE hown hE5) | (at_builtin; refine wp_append1 w2 rfl (.tmp 28) (.tmp 30) _ rfl w.heap.size 2 1 8 _ Try.underlying29 infoInt rfl (by omega) (by omega) _ _ _ how rfl [.int .i64 k] rfl (by simp [Value.oneCell']) _ rfl rfl (by omega) (by omega) ?_; intro v' w' ho' hb'))
        go_roundw
        case rel => exact ⟨k + 1, by omega, by go_num, by rw [HX.out, flat_snoc, List.length_append]; exact ho', (Ext.tr hE3 hE5).trans hb'⟩
        case measure => simp [intOf]; omega
      · have HX := hid (ixs_no (dueP xs day) k (by unfold dueP; rw [htst]; simpa using hd))
        clear htst
        go_wp2_with (go_at_call 39; refine (checkDue xs[k].id xs[k].every xs[k].last _ hbd.1 hbd.2).mono ?_; rintro e w2 ⟨rfl, hE4⟩; have hE5 := Ext.tr (Ext.new _ _) hE4)
        go_roundw
        case rel => exact ⟨k + 1, by omega, by go_num, by rw [HX.out]; exact ownE hown hE5, Ext.tr hE3 hE5⟩
        case measure => simp [intOf]; omega
    · obtain rfl : k = xs.length := by omega
      go_wp2
      go_ret2
      exact ⟨⟨_, by rw [HQ.out]; rfl, by rw [HQ.out]; exact Own.of hown (by have := ixs_len (dueP xs day) xs.length; show (ixs (dueP xs day) xs.length).length ≤ _; omega)⟩, hE3⟩
end Go.Proofs.Ytcocdigcmcpefaa
