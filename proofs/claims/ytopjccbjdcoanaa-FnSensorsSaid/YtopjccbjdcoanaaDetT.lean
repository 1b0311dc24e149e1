/- DetectTime in both packages, for a set of places that rises. -/
import Derived.Test.YtopjccbjdcoanaaMnl
import Derived.Test.YtopjccbjdcoanaaFse
namespace Go.Proofs.Ytopjccbjdcoanaa
set_option linter.unusedVariables false
open Go.RowKit
def detR (ts set : List Int) : Int × Int := if det ts set < 0 then (0, 3) else (det ts set, 0)
theorem Ris.plc {P : Nat} {set : List Int} (h : Ris P 0 set) : Plc P set := fun j hj => by
  obtain ⟨m, e, _, b⟩ := h.at_ j hj
  exact ⟨m, e, b⟩
theorem Ris.allIn {P : Nat} {set : List Int} (h : Ris P 0 set) : allIn set 0 ((P : Int) - 1) = true := allIn_yes fun k hk => by
  obtain ⟨m, e, _, b⟩ := h.at_ k hk
  rw [e]; unfold inB; simp; omega
theorem Ris.len0 {P : Nat} {set : List Int} (h : Ris P 0 set) : set.length ≤ P := by have := h.len (Nat.zero_le _); omega
set_option maxRecDepth 100000 in
set_option maxHeartbeats 1000000 in
theorem l00Rises (P : Nat) (set : List Int) (lo hi : Nat) (v : Value) (w : World) (hv : Sl lo hi w 1 v set.length (flat encI set)) (hr : Ris P 0 set) (hP : P ≤ 16) :
    Calls Try.prog 60 #[v, .int .i64 0, .int .i64 ((P : Int) - 1)] w fun e w' => e = .returned (.bool true) ∧ Ext w w' := by
  have hl := hr.len0
  obtain ⟨hhi, _, A, c, rfl, hnc, hcm, hcell⟩ := hv
  have HR := hid hr
  clear hr
  go_enter Try.func60, Try.ntmps60
  go_wp2
  go_loopw [7] (fun i W => ∃ k : Nat, k ≤ set.length ∧ i = .int .i64 k ∧ Hid (Ext w W)) (fun i _ => set.length - (intOf i).toNat)
  case atStart => exact ⟨0, Nat.zero_le _, rfl, hid (Below.refl _ _)⟩
  case round =>
    obtain ⟨k, hk, rfl, HE⟩ := hrel
    by_cases hlt : k < set.length
    · obtain ⟨b, off, rfl, hb1, hb2, hc⟩ := hcell (by omega)
      obtain ⟨m, em, _, hm⟩ := HR.out.at_ k hlt
      have c0 : wr.cell? ⟨b, off + k, none⟩ = some (.int .i64 m) := (HE.out.cell (p := ⟨b, off + k, none⟩) (by show b < _; omega)).trans (by rw [cellsI hc k hlt, em])
      have hin : inB m 0 ((P : Int) - 1) = true := by unfold inB; simp; omega
      by_cases h0 : 0 < k
      · obtain ⟨m', em', _, hm'⟩ := HR.out.at_ (k - 1) (by omega)
        have hlt2 := HR.out.lt (k - 1) (by omega)
        have hlt3 : (m' : Int) < m := by
          have e1 : set[k - 1 + 1]'(by omega) = set[k] := by congr 1; omega
          rw [em', e1, em] at hlt2; exact hlt2
        have c1 : wr.cell? ⟨b, off + (k - 1), none⟩ = some (.int .i64 m') := (HE.out.cell (p := ⟨b, off + (k - 1), none⟩) (by show b < _; omega)).trans (by rw [cellsI hc (k - 1) (by omega), em'])
        have hg : decide ((m : Int) ≤ m') = false := by simp; omega
        have hg' : ¬ m ≤ m' := by omega
        have h0' : (0 : Int) < k := by omega
        have h0b : decide ((0 : Int) < k) = true := by simpa using h0'
        clear hc em em' hlt2
        go_wp2_with fail
        go_quiet ((go_at_call 73; exact Calls.quiet_of_same (qv (l00In _ _ _ _) (vb hin))))
        go_wp2
        go_roundw
        case rel => exact ⟨k + 1, by omega, by go_num, hid (Ext.tr HE.out (Ext.drewN _ _))⟩
        case measure => simp [intOf]; omega
      · obtain rfl : k = 0 := by omega
        have c0' : wr.cell? ⟨b, off, none⟩ = some (.int .i64 m) := c0
        clear hc em c0
        go_wp2_with fail
        go_quiet ((go_at_call 73; exact Calls.quiet_of_same (qv (l00In _ _ _ _) (vb hin))))
        go_wp2
        go_roundw
        case rel => exact ⟨1, by omega, by go_num, hid (Ext.tr HE.out (Ext.drewN _ _))⟩
        case measure => simp [intOf]; omega
    · obtain rfl : k = set.length := by omega
      go_wp2
      go_ret
      exact ⟨rfl, HE.out⟩
set_option maxRecDepth 100000 in
set_option maxHeartbeats 1000000 in
theorem increasingI (P : Nat) (set : List Int) (lo hi : Nat) (v : Value) (w : World) (hv : Sl lo hi w 1 v set.length (flat encI set)) (hr : Ris P 0 set) (hP : P ≤ 16) :
    Calls Try.prog 57 #[v] w fun e w' => e = .returned (.bool true) ∧ Ext w w' := by
  have hl := hr.len0
  obtain ⟨hhi, _, A, c, rfl, hnc, hcm, hcell⟩ := hv
  have HR := hid hr
  clear hr
  go_enter Try.func57, Try.ntmps57
  go_wp2
  go_loopw [3] (fun i W => ∃ k : Nat, 1 ≤ k ∧ k ≤ set.length + 1 ∧ i = .int .i64 k ∧ Hid (Ext w W)) (fun i _ => set.length + 1 - (intOf i).toNat)
  case atStart => exact ⟨1, by omega, by omega, rfl, hid (Below.refl _ _)⟩
  case round =>
    obtain ⟨k, hk0, hk, rfl, HE⟩ := hrel
    by_cases hlt : k < set.length
    · obtain ⟨b, off, rfl, hb1, hb2, hc⟩ := hcell (by omega)
      obtain ⟨m, em, _, hm⟩ := HR.out.at_ k hlt
      obtain ⟨m', em', _, hm'⟩ := HR.out.at_ (k - 1) (by omega)
      have hlt2 := HR.out.lt (k - 1) (by omega)
      have hlt3 : (m' : Int) < m := by
        have e1 : set[k - 1 + 1]'(by omega) = set[k] := by congr 1; omega
        rw [em', e1, em] at hlt2; exact hlt2
      have c0 : wr.cell? ⟨b, off + k, none⟩ = some (.int .i64 m) := (HE.out.cell (p := ⟨b, off + k, none⟩) (by show b < _; omega)).trans (by rw [cellsI hc k hlt, em])
      have c1 : wr.cell? ⟨b, off + (k - 1), none⟩ = some (.int .i64 m') := (HE.out.cell (p := ⟨b, off + (k - 1), none⟩) (by show b < _; omega)).trans (by rw [cellsI hc (k - 1) (by omega), em'])
      have hg : decide ((m : Int) ≤ m') = false := by simp; omega
      have hg' : ¬ m ≤ m' := by omega
      clear hc em em' hlt2
      go_wp2_with fail
      go_quiet (fail)
      go_wp2
      go_roundw
      case rel => exact ⟨k + 1, by omega, by omega, by go_num, hid (Ext.tr HE.out (Ext.drewN _ _))⟩
      case measure => simp [intOf]; omega
    · have hge : ¬ (k : Int) < set.length := by omega
      go_wp2
      go_ret
      exact ⟨rfl, HE.out⟩
set_option maxRecDepth 100000 in
theorem specDetect (ts set : List Int) (lo hi lo2 hi2 : Nat) (v v2 : Value) (w : World) (hv : Sl lo hi w 1 v ts.length (flat encI ts)) (hv2 : Sl lo2 hi2 w 1 v2 set.length (flat encI set)) (ht : timesB ts = true) (ht16 : ts.length ≤ 16) (hr : Ris ts.length 0 set) :
    Calls Try.prog 14 #[v, v2] w fun e w' => e = .returned (.tuple #[.int .i64 (detR ts set).1, .int .i64 (detR ts set).2]) ∧ Ext w w' := by
  have hl := hr.len0
  have HT := hid (cv (l24Times ts lo hi v w hv (by omega)) (vb ht))
  have HRI := hid (fun (W : World) (hW : Ext w W) => l00Rises ts.length set _ _ v2 W (hv2.ext hW) hr ht16)
  have HDT := hid (fun (W : World) (hW : Ext w W) => l24Detect ts set _ _ _ _ v v2 W (hv.ext hW) (hv2.ext hW) hr.plc (by omega) (by omega))
  obtain ⟨_, _, A, c, rfl, _, _, _⟩ := id hv
  obtain ⟨_, _, A2, c2, rfl, _, _, _⟩ := id hv2
  clear hv hv2 hr ht
  by_cases hd : det ts set < 0
  · have HQ := hid (show detR ts set = (0, 3) from if_pos hd)
    go_enter Try.func14, Try.ntmps14
    go_wp2_with (first | (go_at_call 59; refine HT.out.mono ?_; rintro e w1 ⟨rfl, rfl⟩) | (go_at_call 60; refine (HRI.out w (Below.refl _ _)).mono ?_; rintro e w2 ⟨rfl, hE2⟩) | (go_at_call 61; refine (HDT.out w2 hE2).mono ?_; rintro e w3 ⟨rfl, rfl⟩))
    go_ret2
    exact ⟨by rw [HQ.out]; rfl, hE2⟩
  · have HQ := hid (show detR ts set = (det ts set, 0) from if_neg hd)
    go_enter Try.func14, Try.ntmps14
    go_wp2_with (first | (go_at_call 59; refine HT.out.mono ?_; rintro e w1 ⟨rfl, rfl⟩) | (go_at_call 60; refine (HRI.out w (Below.refl _ _)).mono ?_; rintro e w2 ⟨rfl, hE2⟩) | (go_at_call 61; refine (HDT.out w2 hE2).mono ?_; rintro e w3 ⟨rfl, rfl⟩))
    go_ret2
    exact ⟨by rw [HQ.out]; rfl, hE2⟩
set_option maxRecDepth 100000 in
theorem implDetect (ts set : List Int) (lo hi lo2 hi2 : Nat) (v v2 : Value) (w : World) (hv : Sl lo hi w 1 v ts.length (flat encI ts)) (hv2 : Sl lo2 hi2 w 1 v2 set.length (flat encI set)) (ht : timesB ts = true) (ht16 : ts.length ≤ 16) (hr : Ris ts.length 0 set) (hd : 0 ≤ det ts set) :
    Calls Try.prog 13 #[v, v2] w fun e w' => e = .returned (.tuple #[.int .i64 (det ts set), .int .i64 0]) ∧ Ext w w' := by
  have hl := hr.len0
  have HT := hid (cv (timesOk ts lo hi v w hv (by omega)) (vb ht))
  have HRI := hid (fun (W : World) (hW : Ext w W) => increasingI ts.length set _ _ v2 W (hv2.ext hW) hr ht16)
  have HAL := hid (fun (W : World) (hW : Ext w W) => cv (allWithin set 0 ((ts.length : Int) - 1) _ _ v2 W (hv2.ext hW) (by omega)) (vb hr.allIn))
  have HDT := hid (fun (W : World) (hW : Ext w W) => firstReached ts set _ _ _ _ v v2 W (hv.ext hW) (hv2.ext hW) hr.plc (by omega) (by omega))
  have HV := hid hv
  obtain ⟨_, _, A, c, rfl, _, _, hcell⟩ := id hv
  obtain ⟨_, _, A2, c2, rfl, _, _, _⟩ := id hv2
  clear hv hv2 hr ht
  go_enter Try.func13, Try.ntmps13
  go_wp2_with fail
  refine HT.out.mono ?_
  rintro e w1 ⟨rfl, hE1⟩
  have HE1 := hid hE1
  clear hE1
  go_wp2_with fail
  refine (HRI.out w1 HE1.out).mono ?_
  rintro e w2 ⟨rfl, hE2⟩
  have HE2 := hid (Ext.tr HE1.out hE2)
  clear hE2
  go_wp2_with fail
  refine (HAL.out w2 HE2.out).mono ?_
  rintro e w3 ⟨rfl, hE3⟩
  have HE3 := hid (Ext.tr HE2.out hE3)
  clear hE3
  go_wp2_with fail
  refine (HDT.out w3 HE3.out).mono ?_
  rintro e w4 ⟨⟨r, rfl, hp⟩, rfl⟩
  rcases hp with ⟨_, h⟩ | ⟨p, hp, rfl, he, _⟩
  · omega
  · obtain ⟨b, off, rfl, _, hb2, hc⟩ := hcell (by omega)
    have c0 : w3.cell? ⟨b, off + p, none⟩ = some (.int .i64 (det ts set)) := (HE3.out.cell (p := ⟨b, off + p, none⟩) (by have := HV.out.1; show b < _; omega)).trans (by rw [cellsI hc p hp, tAt_of hp, he])
    have hpi : (p : Int) < ts.length := by omega
    clear hc he
    go_wp2
    go_ret2
    exact ⟨rfl, HE3.out⟩
end Go.Proofs.Ytopjccbjdcoanaa
