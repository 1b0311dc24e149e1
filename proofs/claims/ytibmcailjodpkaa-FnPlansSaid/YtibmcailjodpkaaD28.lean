/- Contracts of the functions that tell whether drills are valid, in both packages. -/
import Derived.Test.YtibmcailjodpkaaXDrill
import Derived.Test.YtibmcailjodpkaaCmp
namespace Go.Proofs.Ytibmcailjodpkaa
set_option linter.unusedVariables false
open Go.RowKit

def drillB (x : Drill) : Bool := inB x.day 0 100000 && nameB x.crew && inB x.persons 1 200 && inB x.seconds 0 36000 && inB x.missing 0 x.persons
def drillLt (a b : Drill) : Bool := decide (a.day < b.day) || (decide (a.day = b.day) && strLt a.crew b.crew)
def drillsB (xs : List Drill) : Bool := decide (xs.length ≤ 32) && allOk xs drillB drillLt
def DrillAt (w : World) (b o : Nat) (x : Drill) : Prop := w.cell? ⟨b, o, none⟩ = some (.int .i64 x.day) ∧ w.cell? ⟨b, o + 1, none⟩ = some (.string x.crew) ∧ w.cell? ⟨b, o + 2, none⟩ = some (.int .i64 x.persons) ∧ w.cell? ⟨b, o + 3, none⟩ = some (.int .i64 x.seconds) ∧ w.cell? ⟨b, o + 4, none⟩ = some (.int .i64 x.missing)

theorem l28Day (n : Int) (w : World) : Calls Try.prog 54 #[.int .i64 n] w fun e w' => e = .returned (.bool (inB n 0 100000)) ∧ w = w' := by
  go_enter Try.func54, Try.ntmps54
  go_wp2_with (go_at_call 50; refine (l00In _ _ _ _).mono ?_; rintro e w' ⟨rfl, rfl⟩)
  go_ret
  exact ⟨rfl, rfl⟩
theorem l28One (b o : Nat) (x : Drill) (w : World) (hs : x.crew.size ≤ maxLen) (hx : DrillAt w b o x) :
    Calls Try.prog 66 #[.pointer (some ⟨b, o, none⟩)] w fun e w' => e = .returned (.bool (drillB x)) ∧ ∃ n, w' = w.drewN n := by
  obtain ⟨c0, c1, c2, c3, c4⟩ := hx
  cases h0 : inB x.day 0 100000
  · go_enter Try.func66, Try.ntmps66
    go_wp2_with fail
    go_quiet ((first | (go_at_call 54; exact Calls.quiet_of_same (qv (l28Day _ _) (vb h0)))))
    go_wp2
    go_ret
    exact ⟨ret_bool (by simp [drillB, *]), _, rfl⟩
  cases h1 : nameB x.crew
  · go_enter Try.func66, Try.ntmps66
    go_wp2_with fail
    go_quiet ((first | (go_at_call 54; exact Calls.quiet_of_same (qv (l28Day _ _) (vb h0))) | (go_at_call 80; exact Calls.quiet_of_same (qv (l01Name _ _ hs) (vb h1)))))
    go_wp2
    go_ret
    exact ⟨ret_bool (by simp [drillB, *]), _, rfl⟩
  cases h2 : inB x.persons 1 200
  · go_enter Try.func66, Try.ntmps66
    go_wp2_with fail
    go_quiet ((first | (go_at_call 54; exact Calls.quiet_of_same (qv (l28Day _ _) (vb h0))) | (go_at_call 80; exact Calls.quiet_of_same (qv (l01Name _ _ hs) (vb h1))) | (go_at_call 50; exact Calls.quiet_of_same (qv (l00In _ _ _ _) (vb h2)))))
    go_wp2
    go_ret
    exact ⟨ret_bool (by simp [drillB, *]), _, rfl⟩
  cases h3 : inB x.seconds 0 36000
  · go_enter Try.func66, Try.ntmps66
    go_wp2_with fail
    go_quiet ((first | (go_at_call 54; exact Calls.quiet_of_same (qv (l28Day _ _) (vb h0))) | (go_at_call 80; exact Calls.quiet_of_same (qv (l01Name _ _ hs) (vb h1))) | (go_at_call 50; exact Calls.quiet_of_same (qv (l00In _ _ _ _) (vb h2))) | (go_at_call 50; exact Calls.quiet_of_same (qv (l00In _ _ _ _) (vb h3)))))
    go_wp2
    go_ret
    exact ⟨ret_bool (by simp [drillB, *]), _, rfl⟩
  cases h4 : inB x.missing 0 x.persons
  · go_enter Try.func66, Try.ntmps66
    go_wp2_with fail
    go_quiet ((first | (go_at_call 54; exact Calls.quiet_of_same (qv (l28Day _ _) (vb h0))) | (go_at_call 80; exact Calls.quiet_of_same (qv (l01Name _ _ hs) (vb h1))) | (go_at_call 50; exact Calls.quiet_of_same (qv (l00In _ _ _ _) (vb h2))) | (go_at_call 50; exact Calls.quiet_of_same (qv (l00In _ _ _ _) (vb h3))) | (go_at_call 50; exact Calls.quiet_of_same (qv (l00In _ _ _ _) (vb h4)))))
    go_wp2
    go_ret
    exact ⟨ret_bool (by simp [drillB, *]), _, rfl⟩
  go_enter Try.func66, Try.ntmps66
  go_wp2_with fail
  go_quiet ((first | (go_at_call 54; exact Calls.quiet_of_same (qv (l28Day _ _) (vb h0))) | (go_at_call 80; exact Calls.quiet_of_same (qv (l01Name _ _ hs) (vb h1))) | (go_at_call 50; exact Calls.quiet_of_same (qv (l00In _ _ _ _) (vb h2))) | (go_at_call 50; exact Calls.quiet_of_same (qv (l00In _ _ _ _) (vb h3))) | (go_at_call 50; exact Calls.quiet_of_same (qv (l00In _ _ _ _) (vb h4)))))
  go_wp2
  go_ret
  exact ⟨ret_bool (by simp [drillB, *]), _, rfl⟩
theorem drillValid (x : Drill) (w : World) (hs : x.crew.size ≤ maxLen) :
    Calls Try.prog 44 #[.agg #[.int .i64 x.day, .string x.crew, .int .i64 x.persons, .int .i64 x.seconds, .int .i64 x.missing]] w fun e w' => e = .returned (.bool (drillB x)) ∧ Ext w w' := by
  go_enter Try.func44, Try.ntmps44
  go_wp2_with (first | (go_at_call 76; refine (isName _ _ hs).mono ?_; rintro e w' ⟨rfl, rfl⟩) | (go_at_call 51; refine (within _ _ _ _).mono ?_; rintro e w' ⟨rfl, rfl⟩))
  all_goals (go_ret; refine ⟨ret_bool ?_, by go_tidy; go_grown⟩; go_tidy; grind [drillB])
theorem l28Before (b o b' o' : Nat) (x y : Drill) (w : World) (hx : DrillAt w b o x) (hy : DrillAt w b' o' y) :
    Calls Try.prog 67 #[.pointer (some ⟨b, o, none⟩), .pointer (some ⟨b', o', none⟩)] w fun e w' => e = .returned (.bool (drillLt x y)) ∧ ∃ n, w' = w.drewN n := by
  obtain ⟨c0, c1, c2, c3, c4⟩ := hx
  obtain ⟨d0, d1, d2, d3, d4⟩ := hy
  by_cases h0 : x.day < y.day
  · have HQ := hid (show drillLt x y = true by unfold drillLt; simp [h0])
    have h0' : decide (x.day < y.day) = true := by simpa using h0
    go_enter Try.func67, Try.ntmps67
    go_wp2_with fail
    go_quiet (fail)
    go_wp2
    go_ret
    exact ⟨ret_bool HQ.out.symm, _, rfl⟩
  · have h0' : decide (x.day < y.day) = false := by simpa using h0
    by_cases h1 : x.day = y.day
    · have HQ := hid (show drillLt x y = Op.bytesLess x.crew.toList y.crew.toList by unfold drillLt strLt; simp [h1])
      have h1' : (x.day == y.day) = true := by simpa using h1
      have H1 := hid h1
      clear h1
      go_enter Try.func67, Try.ntmps67
      go_wp2_with fail
      go_quiet (fail)
      go_wp2
      go_ret
      exact ⟨ret_bool HQ.out.symm, _, rfl⟩
    · have HQ := hid (show drillLt x y = false by unfold drillLt; simp [h1, h0])
      have h1' : (x.day == y.day) = false := by simpa using h1
      go_enter Try.func67, Try.ntmps67
      go_wp2_with fail
      go_quiet (fail)
      go_wp2
      go_ret
      exact ⟨ret_bool HQ.out.symm, _, rfl⟩
def cmpDrill (x y : Drill) : Int := orI (cmpI x.day y.day) (cmpS x.crew y.crew)
theorem compareDrills (x y : Drill) (w : World) :
    Calls Try.prog 45 #[.agg #[.int .i64 x.day, .string x.crew, .int .i64 x.persons, .int .i64 x.seconds, .int .i64 x.missing], .agg #[.int .i64 y.day, .string y.crew, .int .i64 y.persons, .int .i64 y.seconds, .int .i64 y.missing]] w fun e w' => e = .returned (.int .i64 (cmpDrill x y)) ∧ Ext w w' := by
  go_enter Try.func45, Try.ntmps45
  go_wp2_with fail
  generalize hA : (w.alloc _).alloc _ = A
  have hz : A.heap.size = w.heap.size + 2 := by rw [← hA]; simp
  have hE : Ext w A := by rw [← hA]; exact Ext.tr (Ext.new _ _) (Ext.new _ _)
  have a0 : ∀ W, Ext A W → W.cell? ⟨w.heap.size, 0, none⟩ = some (.int .i64 x.day) := fun W hW => (hW.cell (p := ⟨w.heap.size, 0, none⟩) (by rw [hz]; show w.heap.size < _; omega)).trans (by rw [← hA]; simp)
  have a1 : ∀ W, Ext A W → W.cell? ⟨w.heap.size, 1, none⟩ = some (.string x.crew) := fun W hW => (hW.cell (p := ⟨w.heap.size, 1, none⟩) (by rw [hz]; show w.heap.size < _; omega)).trans (by rw [← hA]; simp)
  have b0 : ∀ W, Ext A W → W.cell? ⟨w.heap.size + 1, 0, none⟩ = some (.int .i64 y.day) := fun W hW => (hW.cell (p := ⟨w.heap.size + 1, 0, none⟩) (by rw [hz]; show w.heap.size + 1 < _; omega)).trans (by rw [← hA]; simp)
  have b1 : ∀ W, Ext A W → W.cell? ⟨w.heap.size + 1, 1, none⟩ = some (.string y.crew) := fun W hW => (hW.cell (p := ⟨w.heap.size + 1, 1, none⟩) (by rw [hz]; show w.heap.size + 1 < _; omega)).trans (by rw [← hA]; simp)
  clear hA hz
  go_region_held3 (fun W => Ext A W) (first | assumption | exact Ext.drewN _ 1 | exact Ext.tr (by assumption) (Ext.new _ _)) (first | (go_at_call 78; refine (compareI _ _ _).mono ?_; rintro e w' ⟨rfl, rfl⟩) | (go_at_call 79; refine (compareS _ _ _).mono ?_; rintro e w' ⟨rfl, rfl⟩) | (go_at_call 77; refine (orNew _ _ _).mono ?_; rintro e w2 ⟨rfl, rfl⟩))
  all_goals
    go_wp2
    go_ret
    exact ⟨rfl, Ext.tr hE (by assumption)⟩
theorem cmpDrill_lt (x y : Drill) (h : drillLt x y = true) : cmpDrill x y < 0 := by
  unfold drillLt at h; unfold cmpDrill orI cmpI cmpS
  simp only [Bool.or_eq_true, decide_eq_true_eq, Bool.and_eq_true] at h
  rcases h with h | ⟨h1, h2⟩
  · simp [h]
  · simp [h1, h2]
theorem cmpDrill_ge (x y : Drill) (h : drillLt x y = false) : 0 ≤ cmpDrill x y := by
  unfold drillLt at h; unfold cmpDrill orI cmpI cmpS
  simp only [Bool.or_eq_false_iff, decide_eq_false_iff_not, Bool.and_eq_false_iff] at h
  obtain ⟨h1, h2⟩ := h
  rw [if_neg h1]
  by_cases h3 : y.day < x.day
  · simp [h3]
  · rcases h2 with h2 | h2
    · omega
    · simp [h3, h2]; split <;> omega
theorem l28Ok (xs : List Drill) (lo hi : Nat) (v : Value) (w : World) (hv : Sl lo hi w 5 v xs.length (flat Drill.enc xs)) (hs : ∀ x ∈ xs, x.crew.size ≤ maxLen) (hn : xs.length ≤ 1048576) :
    Calls Try.prog 43 #[v] w fun e w' => e = .returned (.bool (drillsB xs)) ∧ Ext w w' := by
  obtain ⟨hhi, _, A, c, rfl, hnc, hcm, hcell⟩ := hv
  go_enter Try.func43, Try.ntmps43
  go_wp2
  go_loopw [3] (fun i wr => ∃ (k : Nat), k ≤ xs.length ∧ i = .int .i64 k ∧ Hid (OkTo xs drillB drillLt k) ∧ Ext w wr) (fun i _ => xs.length - (intOf i).toNat)
  case atStart => exact ⟨0, by omega, rfl, hid OkTo.zero, Below.refl _ _⟩
  case round =>
    obtain ⟨k, hk, rfl, hok, hE⟩ := hrel
    by_cases hlt : k < xs.length
    · obtain ⟨b, off, rfl, hb1, hb2, hc⟩ := hcell (by omega)
      have hsk : xs[k].crew.size ≤ maxLen := hs _ (List.getElem_mem hlt)
      have hbw : b < w.heap.size := by omega
      have hki : (k : Int) < xs.length := by omega
      have at0 : ∀ W, Ext w W → DrillAt W b (off + k * 5) xs[k] := fun W hW => by
        obtain ⟨c0, c1, c2, c3, c4⟩ := Drill.cells hc k hlt
        have hh := (bcell hW).1
        exact ⟨(hh _ _ hbw).trans c0, (hh _ _ hbw).trans c1, (hh _ _ hbw).trans c2, (hh _ _ hbw).trans c3, (hh _ _ hbw).trans c4⟩
      have AT0 := hid at0
      clear at0
      have hE2 : ∀ n, Ext w (wr.drewN n) := fun n => Ext.tr hE (Ext.drewN _ _)
      have HE2 := hid hE2
      clear hE2
      cases hp : drillB xs[k]
      · go_wp2
        go_quiet ((go_at_call 66; exact Calls.quiet_of (qd (l28One _ _ xs[k] _ hsk (AT0.out _ (HE2.out _))) (vb hp))))
        go_wp2
        go_ret
        exact ⟨ret_bool (by unfold drillsB; rw [allOk_noP hlt hp]; simp), HE2.out _⟩
      · by_cases h0 : 0 < k
        · have h0' : (0 : Int) < k := by omega
          have at1 : ∀ W, Ext w W → DrillAt W b (off + (k - 1) * 5) (xs[k - 1]'(by omega)) := fun W hW => by
            obtain ⟨c0, c1, c2, c3, c4⟩ := Drill.cells hc (k - 1) (by omega)
            have hh := (bcell hW).1
            exact ⟨(hh _ _ hbw).trans c0, (hh _ _ hbw).trans c1, (hh _ _ hbw).trans c2, (hh _ _ hbw).trans c3, (hh _ _ hbw).trans c4⟩
          have AT1 := hid at1
          clear at1
          cases hl : drillLt (xs[k - 1]'(by omega)) xs[k]
          · go_wp2
            go_quiet ((first | (go_at_call 66; exact Calls.quiet_of (qd (l28One _ _ xs[k] _ hsk (AT0.out _ (HE2.out _))) (vb hp))) | (go_at_call 67; exact Calls.quiet_of (qd (l28Before _ _ _ _ (xs[k - 1]'(by omega)) xs[k] _ (AT1.out _ (HE2.out _)) (AT0.out _ (HE2.out _))) (vb hl)))))
            go_wp2
            go_ret
            exact ⟨ret_bool (by unfold drillsB; rw [allOk_noL hlt h0 hl]; simp), HE2.out _⟩
          · go_wp2
            go_quiet ((first | (go_at_call 66; exact Calls.quiet_of (qd (l28One _ _ xs[k] _ hsk (AT0.out _ (HE2.out _))) (vb hp))) | (go_at_call 67; exact Calls.quiet_of (qd (l28Before _ _ _ _ (xs[k - 1]'(by omega)) xs[k] _ (AT1.out _ (HE2.out _)) (AT0.out _ (HE2.out _))) (vb hl)))))
            go_wp2
            go_roundw
            case rel => exact ⟨k + 1, by omega, by go_num, hid (hok.out.succ hlt hp (fun _ => hl)), HE2.out _⟩
            case measure => simp [intOf]; omega
        · have h0' : ¬ (0 : Int) < k := by omega
          go_wp2
          go_quiet ((go_at_call 66; exact Calls.quiet_of (qd (l28One _ _ xs[k] _ hsk (AT0.out _ (HE2.out _))) (vb hp))))
          go_wp2
          go_roundw
          case rel => exact ⟨k + 1, by omega, by go_num, hid (hok.out.succ hlt hp (fun h => absurd h h0)), HE2.out _⟩
          case measure => simp [intOf]; omega
    · obtain rfl : k = xs.length := by omega
      go_wp2
      go_ret
      exact ⟨ret_bool (by unfold drillsB; rw [hok.out.end_, Bool.and_true]; exact decide_eq_decide.2 (by omega)), hE⟩
theorem specValidDrills (xs : List Drill) (lo hi : Nat) (v : Value) (w : World) (hv : Sl lo hi w 5 v xs.length (flat Drill.enc xs)) (hs : ∀ x ∈ xs, x.crew.size ≤ maxLen) (hn : xs.length ≤ 1048576) :
    Calls Try.prog 12 #[v] w fun e w' => e = .returned (.bool (drillsB xs)) ∧ Ext w w' := by
  go_enter Try.func12, Try.ntmps12
  go_wp2_with (go_at_call 43; refine (l28Ok xs lo hi v _ hv hs hn).mono ?_; rintro e w2 ⟨rfl, hE⟩)
  go_ret
  exact ⟨rfl, hE⟩
set_option maxRecDepth 100000 in
set_option maxHeartbeats 1000000 in
theorem implValidDrills (xs : List Drill) (lo hi : Nat) (v : Value) (w : World) (hv : Sl lo hi w 5 v xs.length (flat Drill.enc xs)) (hs : ∀ x ∈ xs, x.crew.size ≤ maxLen) (hn : xs.length ≤ 1048576) :
    Calls Try.prog 14 #[v] w fun e w' => e = .returned (.bool (drillsB xs)) ∧ Ext w w' := by
  obtain ⟨hhi, _, A, c, rfl, hnc, hcm, hcell⟩ := hv
  by_cases h32 : 32 < xs.length
  · have HQ := hid (show drillsB xs = false by unfold drillsB; simp; omega)
    have h32' : (32 : Int) < xs.length := by omega
    go_enter Try.func14, Try.ntmps14
    go_wp2
    go_ret
    exact ⟨ret_bool HQ.out.symm, Below.refl _ _⟩
  have h32' : ¬ (32 : Int) < xs.length := by omega
  go_enter Try.func14, Try.ntmps14
  go_wp2
  go_loopw [10] (fun i wr => ∃ (k : Nat), k ≤ xs.length ∧ i = .int .i64 k ∧ Hid (OkTo xs drillB drillLt k) ∧ Ext w wr) (fun i _ => xs.length - (intOf i).toNat)
  case atStart => exact ⟨0, by omega, rfl, hid OkTo.zero, Below.refl _ _⟩
  case round =>
    obtain ⟨k, hk, rfl, hok, hE⟩ := hrel
    by_cases hlt : k < xs.length
    · obtain ⟨b, off, rfl, hb1, hb2, hc⟩ := hcell (by omega)
      have hsk : xs[k].crew.size ≤ maxLen := hs _ (List.getElem_mem hlt)
      have hbw : b < w.heap.size := by omega
      have hki : (k : Int) < xs.length := by omega
      obtain ⟨c0, c1, c2, c3, c4⟩ := Drill.cells hc k hlt
      obtain ⟨hcc, _⟩ := bcell hE
      cases hp : drillB xs[k]
      · go_wp2
        generalize hA : wr.alloc _ = B
        have hEB : Ext w B := by rw [← hA]; exact Ext.tr hE (Ext.new _ _)
        have hBz : wr.heap.size < B.heap.size := by rw [← hA]; simp
        have x0 : ∀ d : Later B, d.w.cell? ⟨wr.heap.size, 0, none⟩ = some (.int .i64 xs[k].day) := fun d => (d.h.cell (p := ⟨wr.heap.size, 0, none⟩) hBz).trans (by rw [← hA]; simp)
        have x1 : ∀ d : Later B, d.w.cell? ⟨wr.heap.size, 1, none⟩ = some (.string xs[k].crew) := fun d => (d.h.cell (p := ⟨wr.heap.size, 1, none⟩) hBz).trans (by rw [← hA]; simp)
        have x2 : ∀ d : Later B, d.w.cell? ⟨wr.heap.size, 2, none⟩ = some (.int .i64 xs[k].persons) := fun d => (d.h.cell (p := ⟨wr.heap.size, 2, none⟩) hBz).trans (by rw [← hA]; simp)
        have x3 : ∀ d : Later B, d.w.cell? ⟨wr.heap.size, 3, none⟩ = some (.int .i64 xs[k].seconds) := fun d => (d.h.cell (p := ⟨wr.heap.size, 3, none⟩) hBz).trans (by rw [← hA]; simp)
        have x4 : ∀ d : Later B, d.w.cell? ⟨wr.heap.size, 4, none⟩ = some (.int .i64 xs[k].missing) := fun d => (d.h.cell (p := ⟨wr.heap.size, 4, none⟩) hBz).trans (by rw [← hA]; simp)
        have HA := hid hA
        clear hA hcc c0 c1 c2 c3 c4
        refine wp_region_later B (by kernel_rfl) (by kernel_rfl) (Below.refl _ _) ?_
        repeat (go_big_quiet_step ((first | (go_at_call 44; exact ql (drillValid xs[k] _ hsk) (vb hp)))))
        refine wpQuiet_nil ?_
        rintro _ ⟨d, rfl⟩
        all_goals
          go_wp2
          go_ret
          exact ⟨ret_bool (by unfold drillsB; rw [allOk_noP hlt hp]; simp), Ext.tr hEB d.h⟩
      by_cases h0 : 0 < k
      · have h0' : (0 : Int) < k := by omega
        cases hl : drillLt (xs[k - 1]'(by omega)) xs[k]
        · have hcm0 := cmpDrill_ge _ _ hl
          go_wp2
          generalize hA : wr.alloc _ = B
          have hEB : Ext w B := by rw [← hA]; exact Ext.tr hE (Ext.new _ _)
          have hBz : wr.heap.size < B.heap.size := by rw [← hA]; simp
          have x0 : ∀ d : Later B, d.w.cell? ⟨wr.heap.size, 0, none⟩ = some (.int .i64 xs[k].day) := fun d => (d.h.cell (p := ⟨wr.heap.size, 0, none⟩) hBz).trans (by rw [← hA]; simp)
          have x1 : ∀ d : Later B, d.w.cell? ⟨wr.heap.size, 1, none⟩ = some (.string xs[k].crew) := fun d => (d.h.cell (p := ⟨wr.heap.size, 1, none⟩) hBz).trans (by rw [← hA]; simp)
          have x2 : ∀ d : Later B, d.w.cell? ⟨wr.heap.size, 2, none⟩ = some (.int .i64 xs[k].persons) := fun d => (d.h.cell (p := ⟨wr.heap.size, 2, none⟩) hBz).trans (by rw [← hA]; simp)
          have x3 : ∀ d : Later B, d.w.cell? ⟨wr.heap.size, 3, none⟩ = some (.int .i64 xs[k].seconds) := fun d => (d.h.cell (p := ⟨wr.heap.size, 3, none⟩) hBz).trans (by rw [← hA]; simp)
          have x4 : ∀ d : Later B, d.w.cell? ⟨wr.heap.size, 4, none⟩ = some (.int .i64 xs[k].missing) := fun d => (d.h.cell (p := ⟨wr.heap.size, 4, none⟩) hBz).trans (by rw [← hA]; simp)
          obtain ⟨d0, d1, d2, d3, d4⟩ := Drill.cells hc (k - 1) (by omega)
          have y0 : ∀ d : Later B, d.w.cell? ⟨b, off + (k - 1) * 5, none⟩ = some (.int .i64 (xs[k - 1]'(by omega)).day) := fun d => ((bcell (Ext.tr hEB d.h)).1 _ _ hbw).trans d0
          have y1 : ∀ d : Later B, d.w.cell? ⟨b, off + (k - 1) * 5 + 1, none⟩ = some (.string (xs[k - 1]'(by omega)).crew) := fun d => ((bcell (Ext.tr hEB d.h)).1 _ _ hbw).trans d1
          have y2 : ∀ d : Later B, d.w.cell? ⟨b, off + (k - 1) * 5 + 2, none⟩ = some (.int .i64 (xs[k - 1]'(by omega)).persons) := fun d => ((bcell (Ext.tr hEB d.h)).1 _ _ hbw).trans d2
          have y3 : ∀ d : Later B, d.w.cell? ⟨b, off + (k - 1) * 5 + 3, none⟩ = some (.int .i64 (xs[k - 1]'(by omega)).seconds) := fun d => ((bcell (Ext.tr hEB d.h)).1 _ _ hbw).trans d3
          have y4 : ∀ d : Later B, d.w.cell? ⟨b, off + (k - 1) * 5 + 4, none⟩ = some (.int .i64 (xs[k - 1]'(by omega)).missing) := fun d => ((bcell (Ext.tr hEB d.h)).1 _ _ hbw).trans d4
          clear d0 d1 d2 d3 d4
          have HA := hid hA
          clear hA hcc c0 c1 c2 c3 c4
          refine wp_region_later B (by kernel_rfl) (by kernel_rfl) (Below.refl _ _) ?_
          repeat (go_big_quiet_step ((first | (go_at_call 44; exact ql (drillValid xs[k] _ hsk) (vb hp)) | (go_at_call 45; exact ql (compareDrills (xs[k - 1]'(by omega)) xs[k] _) rfl))))
          refine wpQuiet_nil ?_
          rintro _ ⟨d, rfl⟩
          all_goals
            go_wp2
            go_ret
            exact ⟨ret_bool (by unfold drillsB; rw [allOk_noL hlt h0 hl]; simp), Ext.tr hEB d.h⟩
        · have hcm0 := cmpDrill_lt _ _ hl
          go_wp2
          generalize hA : wr.alloc _ = B
          have hEB : Ext w B := by rw [← hA]; exact Ext.tr hE (Ext.new _ _)
          have hBz : wr.heap.size < B.heap.size := by rw [← hA]; simp
          have x0 : ∀ d : Later B, d.w.cell? ⟨wr.heap.size, 0, none⟩ = some (.int .i64 xs[k].day) := fun d => (d.h.cell (p := ⟨wr.heap.size, 0, none⟩) hBz).trans (by rw [← hA]; simp)
          have x1 : ∀ d : Later B, d.w.cell? ⟨wr.heap.size, 1, none⟩ = some (.string xs[k].crew) := fun d => (d.h.cell (p := ⟨wr.heap.size, 1, none⟩) hBz).trans (by rw [← hA]; simp)
          have x2 : ∀ d : Later B, d.w.cell? ⟨wr.heap.size, 2, none⟩ = some (.int .i64 xs[k].persons) := fun d => (d.h.cell (p := ⟨wr.heap.size, 2, none⟩) hBz).trans (by rw [← hA]; simp)
          have x3 : ∀ d : Later B, d.w.cell? ⟨wr.heap.size, 3, none⟩ = some (.int .i64 xs[k].seconds) := fun d => (d.h.cell (p := ⟨wr.heap.size, 3, none⟩) hBz).trans (by rw [← hA]; simp)
          have x4 : ∀ d : Later B, d.w.cell? ⟨wr.heap.size, 4, none⟩ = some (.int .i64 xs[k].missing) := fun d => (d.h.cell (p := ⟨wr.heap.size, 4, none⟩) hBz).trans (by rw [← hA]; simp)
          obtain ⟨d0, d1, d2, d3, d4⟩ := Drill.cells hc (k - 1) (by omega)
          have y0 : ∀ d : Later B, d.w.cell? ⟨b, off + (k - 1) * 5, none⟩ = some (.int .i64 (xs[k - 1]'(by omega)).day) := fun d => ((bcell (Ext.tr hEB d.h)).1 _ _ hbw).trans d0
          have y1 : ∀ d : Later B, d.w.cell? ⟨b, off + (k - 1) * 5 + 1, none⟩ = some (.string (xs[k - 1]'(by omega)).crew) := fun d => ((bcell (Ext.tr hEB d.h)).1 _ _ hbw).trans d1
          have y2 : ∀ d : Later B, d.w.cell? ⟨b, off + (k - 1) * 5 + 2, none⟩ = some (.int .i64 (xs[k - 1]'(by omega)).persons) := fun d => ((bcell (Ext.tr hEB d.h)).1 _ _ hbw).trans d2
          have y3 : ∀ d : Later B, d.w.cell? ⟨b, off + (k - 1) * 5 + 3, none⟩ = some (.int .i64 (xs[k - 1]'(by omega)).seconds) := fun d => ((bcell (Ext.tr hEB d.h)).1 _ _ hbw).trans d3
          have y4 : ∀ d : Later B, d.w.cell? ⟨b, off + (k - 1) * 5 + 4, none⟩ = some (.int .i64 (xs[k - 1]'(by omega)).missing) := fun d => ((bcell (Ext.tr hEB d.h)).1 _ _ hbw).trans d4
          clear d0 d1 d2 d3 d4
          have HA := hid hA
          clear hA hcc c0 c1 c2 c3 c4
          refine wp_region_later B (by kernel_rfl) (by kernel_rfl) (Below.refl _ _) ?_
          repeat (go_big_quiet_step ((first | (go_at_call 44; exact ql (drillValid xs[k] _ hsk) (vb hp)) | (go_at_call 45; exact ql (compareDrills (xs[k - 1]'(by omega)) xs[k] _) rfl))))
          refine wpQuiet_nil ?_
          rintro _ ⟨d, rfl⟩
          all_goals
            go_wp2
            go_roundw
            case rel => exact ⟨k + 1, by omega, by go_num, hid (hok.out.succ hlt hp (fun _ => hl)), Ext.tr hEB d.h⟩
            case measure => simp [intOf]; omega
      · have h0' : ¬ (0 : Int) < k := by omega
        go_wp2
        generalize hA : wr.alloc _ = B
        have hEB : Ext w B := by rw [← hA]; exact Ext.tr hE (Ext.new _ _)
        have hBz : wr.heap.size < B.heap.size := by rw [← hA]; simp
        have x0 : ∀ d : Later B, d.w.cell? ⟨wr.heap.size, 0, none⟩ = some (.int .i64 xs[k].day) := fun d => (d.h.cell (p := ⟨wr.heap.size, 0, none⟩) hBz).trans (by rw [← hA]; simp)
        have x1 : ∀ d : Later B, d.w.cell? ⟨wr.heap.size, 1, none⟩ = some (.string xs[k].crew) := fun d => (d.h.cell (p := ⟨wr.heap.size, 1, none⟩) hBz).trans (by rw [← hA]; simp)
        have x2 : ∀ d : Later B, d.w.cell? ⟨wr.heap.size, 2, none⟩ = some (.int .i64 xs[k].persons) := fun d => (d.h.cell (p := ⟨wr.heap.size, 2, none⟩) hBz).trans (by rw [← hA]; simp)
        have x3 : ∀ d : Later B, d.w.cell? ⟨wr.heap.size, 3, none⟩ = some (.int .i64 xs[k].seconds) := fun d => (d.h.cell (p := ⟨wr.heap.size, 3, none⟩) hBz).trans (by rw [← hA]; simp)
        have x4 : ∀ d : Later B, d.w.cell? ⟨wr.heap.size, 4, none⟩ = some (.int .i64 xs[k].missing) := fun d => (d.h.cell (p := ⟨wr.heap.size, 4, none⟩) hBz).trans (by rw [← hA]; simp)
        have HA := hid hA
        clear hA hcc c0 c1 c2 c3 c4
        refine wp_region_later B (by kernel_rfl) (by kernel_rfl) (Below.refl _ _) ?_
        repeat (go_big_quiet_step ((first | (go_at_call 44; exact ql (drillValid xs[k] _ hsk) (vb hp)))))
        refine wpQuiet_nil ?_
        rintro _ ⟨d, rfl⟩
        all_goals
          go_wp2
          go_roundw
          case rel => exact ⟨k + 1, by omega, by go_num, hid (hok.out.succ hlt hp (fun h => absurd h h0)), Ext.tr hEB d.h⟩
          case measure => simp [intOf]; omega
    · obtain rfl : k = xs.length := by omega
      go_wp2
      go_ret
      exact ⟨ret_bool (by unfold drillsB; rw [hok.out.end_, Bool.and_true]; symm; simp; omega), hE⟩
end Go.Proofs.Ytibmcailjodpkaa
