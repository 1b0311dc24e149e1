/- Contracts of the two packages' tests of one sensor and of a series. -/
import Derived.Test.YtopjccbjdcoanaaXSensor
import Derived.Test.YtopjccbjdcoanaaWithin
import Derived.Test.YtopjccbjdcoanaaOk
namespace Go.Proofs.Ytopjccbjdcoanaa
set_option linter.unusedVariables false
open Go.RowKit
def sensorB (x : Sensor) : Bool := nameB x.id && inB x.junction 0 15 && inB x.limit 0 1000000 && inB x.release 0 x.limit && inB x.delay 1 60
theorem l24Reading (n : Int) (w : World) : Calls Try.prog 102 #[.int .i64 n] w fun e w' => e = .returned (.bool (inB n 0 1000000)) ∧ w = w' := by
  go_enter Try.func102, Try.ntmps102
  go_wp2_with (go_at_call 73; refine (l00In _ _ _ _).mono ?_; rintro e w' ⟨rfl, rfl⟩)
  go_ret
  exact ⟨rfl, rfl⟩
theorem junctionOk (n : Int) (w : World) : Calls Try.prog 95 #[.int .i64 n] w fun e w' => e = .returned (.bool (inB n 0 15)) ∧ w = w' := by
  go_enter Try.func95, Try.ntmps95
  go_wp2_with (go_at_call 83; refine (within _ _ _ _).mono ?_; rintro e w' ⟨rfl, rfl⟩)
  go_ret
  exact ⟨rfl, rfl⟩
set_option maxHeartbeats 1000000 in
theorem sensorS (b : Nat) (x : Sensor) (w : World) (hs : x.id.size ≤ maxLen) (c0 : w.cell? ⟨b, 0, none⟩ = some (.string x.id)) (c1 : w.cell? ⟨b, 1, none⟩ = some (.int .i64 x.junction)) (c2 : w.cell? ⟨b, 2, none⟩ = some (.int .i64 x.limit)) (c3 : w.cell? ⟨b, 3, none⟩ = some (.int .i64 x.delay)) (c4 : w.cell? ⟨b, 4, none⟩ = some (.int .i64 x.release)) :
    Calls Try.prog 93 #[.pointer (some ⟨b, 0, none⟩)] w fun e w' => e = .returned (.bool (sensorB x)) ∧ Ext w w' := by
  cases h0 : nameB x.id
  · have u_ := True.intro
    go_enter Try.func93, Try.ntmps93
    go_wp2_with fail
    go_quiet ((first | (go_at_call 101; exact Calls.quiet_of_same (qv (l01Name _ _ hs) (vb h0)))))
    go_wp2
    go_ret
    exact ⟨ret_bool (by simp [sensorB, *]), Ext.drewN _ _⟩
  cases h1 : inB x.junction 0 15
  · have u_ := True.intro
    go_enter Try.func93, Try.ntmps93
    go_wp2_with fail
    go_quiet ((first | (go_at_call 101; exact Calls.quiet_of_same (qv (l01Name _ _ hs) (vb h0))) | (go_at_call 73; exact Calls.quiet_of_same (qv (l00In _ _ _ _) (vb h1)))))
    go_wp2
    go_ret
    exact ⟨ret_bool (by simp [sensorB, *]), Ext.drewN _ _⟩
  cases h2 : inB x.limit 0 1000000
  · have u_ := True.intro
    go_enter Try.func93, Try.ntmps93
    go_wp2_with fail
    go_quiet ((first | (go_at_call 101; exact Calls.quiet_of_same (qv (l01Name _ _ hs) (vb h0))) | (go_at_call 73; exact Calls.quiet_of_same (qv (l00In _ _ _ _) (vb h1))) | (go_at_call 102; exact Calls.quiet_of_same (qv (l24Reading _ _) (vb h2)))))
    go_wp2
    go_ret
    exact ⟨ret_bool (by simp [sensorB, *]), Ext.drewN _ _⟩
  cases h3 : inB x.release 0 x.limit
  · have u_ := True.intro
    go_enter Try.func93, Try.ntmps93
    go_wp2_with fail
    go_quiet ((first | (go_at_call 101; exact Calls.quiet_of_same (qv (l01Name _ _ hs) (vb h0))) | (go_at_call 73; exact Calls.quiet_of_same (qv (l00In _ _ _ _) (vb h1))) | (go_at_call 102; exact Calls.quiet_of_same (qv (l24Reading _ _) (vb h2))) | (go_at_call 73; exact Calls.quiet_of_same (qv (l00In _ _ _ _) (vb h3)))))
    go_wp2
    go_ret
    exact ⟨ret_bool (by simp [sensorB, *]), Ext.drewN _ _⟩
  cases h4 : inB x.delay 1 60
  · have u_ := True.intro
    go_enter Try.func93, Try.ntmps93
    go_wp2_with fail
    go_quiet ((first | (go_at_call 101; exact Calls.quiet_of_same (qv (l01Name _ _ hs) (vb h0))) | (go_at_call 73; exact Calls.quiet_of_same (qv (l00In _ _ _ _) (vb h1))) | (go_at_call 102; exact Calls.quiet_of_same (qv (l24Reading _ _) (vb h2))) | (go_at_call 73; exact Calls.quiet_of_same (qv (l00In _ _ _ _) (vb h3))) | (go_at_call 73; exact Calls.quiet_of_same (qv (l00In _ _ _ _) (vb h4)))))
    go_wp2
    go_ret
    exact ⟨ret_bool (by simp [sensorB, *]), Ext.drewN _ _⟩
  go_enter Try.func93, Try.ntmps93
  go_wp2_with fail
  go_quiet ((first | (go_at_call 101; exact Calls.quiet_of_same (qv (l01Name _ _ hs) (vb h0))) | (go_at_call 73; exact Calls.quiet_of_same (qv (l00In _ _ _ _) (vb h1))) | (go_at_call 102; exact Calls.quiet_of_same (qv (l24Reading _ _) (vb h2))) | (go_at_call 73; exact Calls.quiet_of_same (qv (l00In _ _ _ _) (vb h3))) | (go_at_call 73; exact Calls.quiet_of_same (qv (l00In _ _ _ _) (vb h4)))))
  go_wp2
  go_ret
  exact ⟨ret_bool (by simp [sensorB, *]), Ext.drewN _ _⟩
theorem sensorI (x : Sensor) (w : World) (hs : x.id.size ≤ maxLen) :
    Calls Try.prog 71 #[.agg #[.string x.id, .int .i64 x.junction, .int .i64 x.limit, .int .i64 x.delay, .int .i64 x.release]] w fun e w' => e = .returned (.bool (sensorB x)) ∧ Ext w w' := by
  go_enter Try.func71, Try.ntmps71
  go_wp2_with (first | (go_at_call 94; refine (isName _ _ hs).mono ?_; rintro e w' ⟨rfl, rfl⟩) | (go_at_call 95; refine (junctionOk _ _).mono ?_; rintro e w' ⟨rfl, rfl⟩) | (go_at_call 83; refine (within _ _ _ _).mono ?_; rintro e w' ⟨rfl, rfl⟩))
  all_goals (go_ret; refine ⟨ret_bool ?_, by go_tidy; go_grown⟩; go_tidy; grind [sensorB])
theorem sensorB_le {x : Sensor} (h : sensorB x = true) : 0 ≤ x.limit ∧ 0 ≤ x.release ∧ x.release ≤ x.limit ∧ 1 ≤ x.delay ∧ x.delay ≤ 60 ∧ x.limit ≤ 1000000 := by
  unfold sensorB inB at h; simp only [Bool.and_eq_true, decide_eq_true_eq] at h; omega
/-! ### series -/
def seriesB (ns : List Int) : Bool := decide (ns.length ≤ 200) && allIn ns (-1) 1000000
theorem series_no {ns : List Int} (h : allIn ns (-1) 1000000 = false) : seriesB ns = false := by unfold seriesB; rw [h, Bool.and_false]
theorem series_all {ns : List Int} (h : allIn ns (-1) 1000000 = true) : seriesB ns = decide (ns.length ≤ 200) := by unfold seriesB; rw [h, Bool.and_true]
theorem series_len {ns : List Int} (h : seriesB ns = true) : ns.length ≤ 200 := by unfold seriesB at h; simp at h; exact h.1
theorem series_at {ns : List Int} (h : seriesB ns = true) (k : Nat) (hk : k < ns.length) : -1 ≤ ns[k] ∧ ns[k] ≤ 1000000 := by
  unfold seriesB at h; simp only [Bool.and_eq_true] at h; exact allIn_at h.2 k hk
theorem l24Series (ns : List Int) (lo hi : Nat) (v : Value) (w : World) (hv : Sl lo hi w 1 v ns.length (flat encI ns)) (hn : ns.length ≤ 1048576) :
    Calls Try.prog 77 #[v] w fun e w' => e = .returned (.bool (seriesB ns)) ∧ w = w' := by
  obtain ⟨hhi, _, A, c, rfl, hnc, hcm, hcell⟩ := hv
  go_enter Try.func77, Try.ntmps77
  go_wp2
  go_loop [3] (fun i => ∃ k : Nat, k ≤ ns.length ∧ i = .int .i64 k ∧ Hid (∀ j (h : j < ns.length), j < k → inB ns[j] (-1) 1000000 = true)) (fun i => ns.length - (intOf i).toNat)
  case atStart => exact ⟨0, Nat.zero_le _, rfl, hid (fun j h hj => absurd hj (by omega))⟩
  case round =>
    obtain ⟨k, hk, rfl, hall⟩ := hrel
    by_cases hlt : k < ns.length
    · obtain ⟨b', off, rfl, hb1, hb2, hc⟩ := hcell (by omega)
      have c0 := cellsI hc k hlt
      clear hc
      cases hp : inB ns[k] (-1) 1000000
      · have HQ := hid (series_no (allIn_no k hlt hp))
        go_wp2_with (go_at_call 73; refine (cv (l00In _ _ _ _) (vb hp)).mono ?_; rintro e w' ⟨rfl, rfl⟩)
        go_ret
        exact ⟨ret_bool HQ.out.symm, rfl⟩
      · go_wp2_with (go_at_call 73; refine (cv (l00In _ _ _ _) (vb hp)).mono ?_; rintro e w' ⟨rfl, rfl⟩)
        go_round
        case rel => exact ⟨k + 1, by omega, by go_num, hid (fun j h hj => by rcases Nat.lt_succ_iff_lt_or_eq.1 hj with h1 | rfl; exact hall.out j h h1; exact hp)⟩
        case measure => simp [intOf]; omega
    · obtain rfl : k = ns.length := by omega
      have HQ := hid (series_all (allIn_yes fun k hk => hall.out k hk hk))
      go_wp2
      go_ret
      exact ⟨ret_bool (by rw [HQ.out]; simp; omega), rfl⟩
theorem seriesOk (ns : List Int) (lo hi : Nat) (v : Value) (w : World) (hv : Sl lo hi w 1 v ns.length (flat encI ns)) (hn : ns.length ≤ 1048576) :
    Calls Try.prog 67 #[v] w fun e w' => e = .returned (.bool (seriesB ns)) ∧ Ext w w' := by
  have hv0 := hv
  obtain ⟨hhi, _, A, c, rfl, hnc, hcm, hcell⟩ := hv0
  clear hcell
  by_cases h : ns.length ≤ 200
  · have HQ := hid (show seriesB ns = allIn ns (-1) 1000000 by unfold seriesB; simp [h])
    go_enter Try.func67, Try.ntmps67
    go_wp2_with (go_at_call 58; refine (allWithin ns _ _ lo hi _ _ hv hn).mono ?_; rintro e w' ⟨rfl, hE⟩)
    go_ret
    exact ⟨ret_bool HQ.out.symm, hE⟩
  · have HQ := hid (show seriesB ns = false by unfold seriesB; simp [h])
    go_enter Try.func67, Try.ntmps67
    go_wp2
    go_ret
    exact ⟨by rw [HQ.out]; rfl, Below.refl _ _⟩
end Go.Proofs.Ytopjccbjdcoanaa
