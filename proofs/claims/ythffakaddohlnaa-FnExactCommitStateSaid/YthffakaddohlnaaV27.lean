/- Contracts of the functions that tell whether a list of Setting is valid, in both packages: at most 24, each valid, their names rising. -/
import Derived.Test.YthffakaddohlnaaXSetting
import Derived.Test.YthffakaddohlnaaCmp
namespace Go.Proofs.Ythffakaddohlnaa
set_option linter.unusedVariables false
open Go.RowKit
def settingP (x : Setting) : Bool := nameB x.name && inB x.value 0 1000
theorem l27Setting (b o : Nat) (x : Setting) (w : World) (hs : x.name.size ≤ maxLen) (hx : Setting.At w b o x) :
    Calls Try.prog 76 #[.pointer (some ⟨b, o, none⟩)] w fun e w' => e = .returned (.bool (settingP x)) ∧ w = w' := by
  obtain ⟨c0, c1⟩ := hx
  go_enter Try.func76, Try.ntmps76
  go_wp2_with (first | (go_at_call 87; refine (l01Name _ _ hs).mono ?_; rintro e w' ⟨rfl, rfl⟩) | (go_at_call 78; refine (l00In _ _ _ _).mono ?_; rintro e w' ⟨rfl, rfl⟩))
  all_goals (go_ret; refine ⟨ret_bool ?_, rfl⟩; go_tidy; grind [settingP])
theorem settingValid (x : Setting) (w : World) (hs : x.name.size ≤ maxLen) :
    Calls Try.prog 51 #[.agg #[.string x.name, .int .i64 x.value]] w fun e w' => e = .returned (.bool (settingP x)) ∧ Ext w w' := by
  go_enter Try.func51, Try.ntmps51
  go_wp2_with (first | (go_at_call 77; refine (isName _ _ hs).mono ?_; rintro e w' ⟨rfl, rfl⟩) | (go_at_call 58; refine (within _ _ _ _).mono ?_; rintro e w' ⟨rfl, rfl⟩))
  all_goals (go_ret; refine ⟨ret_bool ?_, by go_tidy; go_grown⟩; go_tidy; grind [settingP])
def Setting.lt (a b : Setting) : Bool := strLt a.name b.name
def stateOkB (xs : List Setting) : Bool := decide (xs.length ≤ 24) && allOk xs settingP Setting.lt
set_option maxRecDepth 100000 in
set_option maxHeartbeats 1000000 in
theorem stateSpec (xs : List Setting) (lo hi : Nat) (v : Value) (w : World) (hv : Sl lo hi w 2 v xs.length (flat Setting.enc xs)) (hs : ∀ x ∈ xs, x.name.size ≤ maxLen) (hn : xs.length ≤ 1048576) :
    Calls Try.prog 50 #[v] w fun e w' => e = .returned (.bool (stateOkB xs)) ∧ Ext w w' := by
  obtain ⟨hhi, _, A, c, rfl, hnc, hcm, hcell⟩ := hv
  go_enter Try.func50, Try.ntmps50
  go_wp2
  go_loopw [3] (fun i wr => ∃ (k : Nat), k ≤ xs.length ∧ i = .int .i64 k ∧ Hid (OkTo xs settingP Setting.lt k) ∧ Ext w wr) (fun i _ => xs.length - (intOf i).toNat)
  case atStart => exact ⟨0, by omega, rfl, hid OkTo.zero, Below.refl _ _⟩
  case round =>
    obtain ⟨k, hk, rfl, hok, hE⟩ := hrel
    by_cases hlt : k < xs.length
    · obtain ⟨b, off, rfl, hb1, hb2, hc⟩ := hcell (by omega)
      have hsk : xs[k].name.size ≤ maxLen := hs _ (List.getElem_mem hlt)
      have hbw : b < w.heap.size := by omega
      have hki : (k : Int) < xs.length := by omega
      have at0 : ∀ d : Later wr, Setting.At d.w b (off + k * 2) xs[k] := fun d => Setting.at_of hc (Ext.tr hE d.h) hbw k hlt
      cases hp : settingP xs[k]
      · go_wp2
        refine wp_region_later wr (by kernel_rfl) (by kernel_rfl) (Below.refl _ _) ?_
        repeat (go_big_quiet_step ((first | (go_at_call 76; exact qls (l27Setting _ _ xs[k] _ hsk (at0 _)) (vb hp)))))
        refine wpQuiet_nil ?_
        rintro _ ⟨d, rfl⟩
        go_wp2
        go_ret
        exact ⟨ret_bool (by unfold stateOkB; rw [allOk_noP hlt hp]; simp), Ext.tr hE d.h⟩
      · by_cases h0 : 0 < k
        · have h0' : (0 : Int) < k := by omega
          have y0 : ∀ d : Later wr, d.w.cell? ⟨b, off + k * 2, none⟩ = some (.string xs[k].name) := fun d => (at0 d).1
          have y1 : ∀ d : Later wr, d.w.cell? ⟨b, off + (k - 1) * 2, none⟩ = some (.string (xs[k - 1]'(by omega)).name) := fun d => (Setting.at_of hc (Ext.tr hE d.h) hbw (k - 1) (by omega)).1
          cases hl : Setting.lt (xs[k - 1]'(by omega)) xs[k]
          all_goals have hl' : Op.bytesLess (xs[k - 1]'(by omega)).name.toList xs[k].name.toList = _ := hl
          · go_wp2
            refine wp_region_later wr (by kernel_rfl) (by kernel_rfl) (Below.refl _ _) ?_
            repeat (go_big_quiet_step ((first | (go_at_call 76; exact qls (l27Setting _ _ xs[k] _ hsk (at0 _)) (vb hp)))))
            refine wpQuiet_nil ?_
            rintro _ ⟨d, rfl⟩
            go_wp2
            go_ret
            exact ⟨ret_bool (by unfold stateOkB; rw [allOk_noL hlt h0 hl]; simp), Ext.tr hE d.h⟩
          · go_wp2
            refine wp_region_later wr (by kernel_rfl) (by kernel_rfl) (Below.refl _ _) ?_
            repeat (go_big_quiet_step ((first | (go_at_call 76; exact qls (l27Setting _ _ xs[k] _ hsk (at0 _)) (vb hp)))))
            refine wpQuiet_nil ?_
            rintro _ ⟨d, rfl⟩
            go_wp2
            go_roundw
            case rel => exact ⟨k + 1, by omega, by go_num, hid (hok.out.succ hlt hp (fun _ => hl)), Ext.tr hE d.h⟩
            case measure => simp [intOf]; omega
        · have h0' : ¬ (0 : Int) < k := by omega
          go_wp2
          refine wp_region_later wr (by kernel_rfl) (by kernel_rfl) (Below.refl _ _) ?_
          repeat (go_big_quiet_step ((first | (go_at_call 76; exact qls (l27Setting _ _ xs[k] _ hsk (at0 _)) (vb hp)))))
          refine wpQuiet_nil ?_
          rintro _ ⟨d, rfl⟩
          go_wp2
          go_roundw
          case rel => exact ⟨k + 1, by omega, by go_num, hid (hok.out.succ hlt hp (fun h => absurd h h0)), Ext.tr hE d.h⟩
          case measure => simp [intOf]; omega
    · obtain rfl : k = xs.length := by omega
      go_wp2
      go_ret
      exact ⟨ret_bool (by unfold stateOkB; rw [hok.out.end_, Bool.and_true]; exact decide_eq_decide.2 (by omega)), hE⟩
set_option maxRecDepth 100000 in
set_option maxHeartbeats 1000000 in
theorem stateImpl (xs : List Setting) (lo hi : Nat) (v : Value) (w : World) (hv : Sl lo hi w 2 v xs.length (flat Setting.enc xs)) (hs : ∀ x ∈ xs, x.name.size ≤ maxLen) (hn : xs.length ≤ 1048576) :
    Calls Try.prog 18 #[v] w fun e w' => e = .returned (.bool (stateOkB xs)) ∧ Ext w w' := by
  obtain ⟨hhi, _, A, c, rfl, hnc, hcm, hcell⟩ := hv
  by_cases hmx : 24 < xs.length
  · have HQ := hid (show stateOkB xs = false by unfold stateOkB; simp; omega)
    have hmx' : (24 : Int) < xs.length := by omega
    go_enter Try.func18, Try.ntmps18
    go_wp2
    go_ret
    exact ⟨ret_bool HQ.out.symm, Below.refl _ _⟩
  have hmx' : ¬ (24 : Int) < xs.length := by omega
  go_enter Try.func18, Try.ntmps18
  go_wp2
  go_loopw [10] (fun i wr => ∃ (k : Nat), k ≤ xs.length ∧ i = .int .i64 k ∧ Hid (OkTo xs settingP Setting.lt k) ∧ Ext w wr) (fun i _ => xs.length - (intOf i).toNat)
  case atStart => exact ⟨0, by omega, rfl, hid OkTo.zero, Below.refl _ _⟩
  case round =>
    obtain ⟨k, hk, rfl, hok, hE⟩ := hrel
    by_cases hlt : k < xs.length
    · obtain ⟨b, off, rfl, hb1, hb2, hc⟩ := hcell (by omega)
      have hsk : xs[k].name.size ≤ maxLen := hs _ (List.getElem_mem hlt)
      have hbw : b < w.heap.size := by omega
      have hki : (k : Int) < xs.length := by omega
      obtain ⟨c0, c1⟩ := Setting.cells hc k hlt
      obtain ⟨hcc, _⟩ := bcell hE
      cases hp : settingP xs[k]
      · go_wp2
        generalize hA : wr.alloc _ = B
        have hEB : Ext w B := by rw [← hA]; exact Ext.tr hE (Ext.new _ _)
        have hBz : wr.heap.size < B.heap.size := by rw [← hA]; simp
        have x0 : ∀ d : Later B, d.w.cell? ⟨wr.heap.size, 0, none⟩ = some (.string xs[k].name) := fun d => (d.h.cell (p := ⟨wr.heap.size, 0, none⟩) hBz).trans (by rw [← hA]; simp)
        have x1 : ∀ d : Later B, d.w.cell? ⟨wr.heap.size, 1, none⟩ = some (.int .i64 xs[k].value) := fun d => (d.h.cell (p := ⟨wr.heap.size, 1, none⟩) hBz).trans (by rw [← hA]; simp)
        clear hA hcc c0 c1
        refine wp_region_later B (by kernel_rfl) (by kernel_rfl) (Below.refl _ _) ?_
        repeat (go_big_quiet_step ((first | (go_at_call 51; exact ql (settingValid xs[k] _ hsk) (vb hp)))))
        refine wpQuiet_nil ?_
        rintro _ ⟨d, rfl⟩
        go_wp2
        go_ret
        exact ⟨ret_bool (by unfold stateOkB; rw [allOk_noP hlt hp]; simp), Ext.tr hEB d.h⟩
      by_cases h0 : 0 < k
      · have h0' : (0 : Int) < k := by omega
        cases hl : Setting.lt (xs[k - 1]'(by omega)) xs[k]
        all_goals have hl' := strLt_le (xs[k - 1]'(by omega)).name xs[k].name
        all_goals rw [show strLt (xs[k - 1]'(by omega)).name xs[k].name = _ from hl] at hl'
        · have hl2 : (Op.bytesLess xs[k].name.toList (xs[k - 1]'(by omega)).name.toList || xs[k].name.toList == (xs[k - 1]'(by omega)).name.toList) = true := hl'
          go_wp2
          generalize hA : wr.alloc _ = B
          have hEB : Ext w B := by rw [← hA]; exact Ext.tr hE (Ext.new _ _)
          have hBz : wr.heap.size < B.heap.size := by rw [← hA]; simp
          have x0 : ∀ d : Later B, d.w.cell? ⟨wr.heap.size, 0, none⟩ = some (.string xs[k].name) := fun d => (d.h.cell (p := ⟨wr.heap.size, 0, none⟩) hBz).trans (by rw [← hA]; simp)
          have x1 : ∀ d : Later B, d.w.cell? ⟨wr.heap.size, 1, none⟩ = some (.int .i64 xs[k].value) := fun d => (d.h.cell (p := ⟨wr.heap.size, 1, none⟩) hBz).trans (by rw [← hA]; simp)
          have y1 : ∀ d : Later B, d.w.cell? ⟨b, off + (k - 1) * 2, none⟩ = some (.string (xs[k - 1]'(by omega)).name) := fun d => (Setting.at_of hc (Ext.tr hEB d.h) hbw (k - 1) (by omega)).1
          clear hA hcc c0 c1
          refine wp_region_later B (by kernel_rfl) (by kernel_rfl) (Below.refl _ _) ?_
          repeat (go_big_quiet_step ((first | (go_at_call 51; exact ql (settingValid xs[k] _ hsk) (vb hp)))))
          refine wpQuiet_nil ?_
          rintro _ ⟨d, rfl⟩
          go_wp2
          go_ret
          exact ⟨ret_bool (by unfold stateOkB; rw [allOk_noL hlt h0 hl]; simp), Ext.tr hEB d.h⟩
        · have hl2 : (Op.bytesLess xs[k].name.toList (xs[k - 1]'(by omega)).name.toList || xs[k].name.toList == (xs[k - 1]'(by omega)).name.toList) = false := hl'
          go_wp2
          generalize hA : wr.alloc _ = B
          have hEB : Ext w B := by rw [← hA]; exact Ext.tr hE (Ext.new _ _)
          have hBz : wr.heap.size < B.heap.size := by rw [← hA]; simp
          have x0 : ∀ d : Later B, d.w.cell? ⟨wr.heap.size, 0, none⟩ = some (.string xs[k].name) := fun d => (d.h.cell (p := ⟨wr.heap.size, 0, none⟩) hBz).trans (by rw [← hA]; simp)
          have x1 : ∀ d : Later B, d.w.cell? ⟨wr.heap.size, 1, none⟩ = some (.int .i64 xs[k].value) := fun d => (d.h.cell (p := ⟨wr.heap.size, 1, none⟩) hBz).trans (by rw [← hA]; simp)
          have y1 : ∀ d : Later B, d.w.cell? ⟨b, off + (k - 1) * 2, none⟩ = some (.string (xs[k - 1]'(by omega)).name) := fun d => (Setting.at_of hc (Ext.tr hEB d.h) hbw (k - 1) (by omega)).1
          clear hA hcc c0 c1
          refine wp_region_later B (by kernel_rfl) (by kernel_rfl) (Below.refl _ _) ?_
          repeat (go_big_quiet_step ((first | (go_at_call 51; exact ql (settingValid xs[k] _ hsk) (vb hp)))))
          refine wpQuiet_nil ?_
          rintro _ ⟨d, rfl⟩
          go_wp2
          go_roundw
          case rel => exact ⟨k + 1, by omega, by go_num, hid (hok.out.succ hlt hp (fun _ => hl)), Ext.tr hEB d.h⟩
          case measure => simp [intOf]; omega
      · have h0' : ¬ (0 : Int) < k := by omega
        go_wp2
        generalize hA : wr.alloc _ = B
        have hEB : Ext w B := by rw [← hA]; exact Ext.tr hE (Ext.new _ _)
        have hBz : wr.heap.size < B.heap.size := by rw [← hA]; simp
        have x0 : ∀ d : Later B, d.w.cell? ⟨wr.heap.size, 0, none⟩ = some (.string xs[k].name) := fun d => (d.h.cell (p := ⟨wr.heap.size, 0, none⟩) hBz).trans (by rw [← hA]; simp)
        have x1 : ∀ d : Later B, d.w.cell? ⟨wr.heap.size, 1, none⟩ = some (.int .i64 xs[k].value) := fun d => (d.h.cell (p := ⟨wr.heap.size, 1, none⟩) hBz).trans (by rw [← hA]; simp)
        clear hA hcc c0 c1
        refine wp_region_later B (by kernel_rfl) (by kernel_rfl) (Below.refl _ _) ?_
        repeat (go_big_quiet_step ((first | (go_at_call 51; exact ql (settingValid xs[k] _ hsk) (vb hp)))))
        refine wpQuiet_nil ?_
        rintro _ ⟨d, rfl⟩
        go_wp2
        go_roundw
        case rel => exact ⟨k + 1, by omega, by go_num, hid (hok.out.succ hlt hp (fun h => absurd h h0)), Ext.tr hEB d.h⟩
        case measure => simp [intOf]; omega
    · obtain rfl : k = xs.length := by omega
      go_wp2
      go_ret
      exact ⟨ret_bool (by unfold stateOkB; rw [hok.out.end_, Bool.and_true]; symm; simp; omega), hE⟩
theorem stateSpecW (xs : List Setting) (lo hi : Nat) (v : Value) (w : World) (hv : Sl lo hi w 2 v xs.length (flat Setting.enc xs)) (hs : ∀ x ∈ xs, x.name.size ≤ maxLen) (hn : xs.length ≤ 1048576) :
    Calls Try.prog 17 #[v] w fun e w' => e = .returned (.bool (stateOkB xs)) ∧ Ext w w' := by
  go_enter Try.func17, Try.ntmps17
  go_wp2_with (go_at_call 50; refine (stateSpec xs lo hi v _ hv hs hn).mono ?_; rintro e w2 ⟨rfl, hE⟩)
  go_ret
  exact ⟨rfl, hE⟩
end Go.Proofs.Ythffakaddohlnaa
