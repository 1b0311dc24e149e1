/- Contracts of the functions that tell whether a list of Check is valid, in both packages: at most 16, each valid, their names rising. -/
import Derived.Test.YtcocdigcmcpefaaXCheck
import Derived.Test.YtcocdigcmcpefaaChk1
import Derived.Test.YtcocdigcmcpefaaCmp
namespace Go.Proofs.Ytcocdigcmcpefaa
set_option linter.unusedVariables false
open Go.RowKit
def checkP (x : Check) : Bool := checkB x.id x.every x.last
theorem l25OneX (b o : Nat) (x : Check) (w : World) (hs : x.id.size ≤ maxLen) (hx : Check.At w b o x) :
    Calls Try.prog 54 #[.pointer (some ⟨b, o, none⟩)] w fun e w' => e = .returned (.bool (checkP x)) ∧ w = w' := l25One b o x.id x.every x.last w hs hx.1 hx.2.1 hx.2.2
theorem checkValidX (x : Check) (w : World) (hs : x.id.size ≤ maxLen) :
    Calls Try.prog 33 #[.agg #[.string x.id, .int .i64 x.every, .int .i64 x.last]] w fun e w' => e = .returned (.bool (checkP x)) ∧ Ext w w' := checkValid x.id x.every x.last w hs
def Check.lt (a b : Check) : Bool := strLt a.id b.id
def checksOkB (xs : List Check) : Bool := decide (xs.length ≤ 16) && allOk xs checkP Check.lt
set_option maxRecDepth 100000 in
set_option maxHeartbeats 1000000 in
theorem checksSpec (xs : List Check) (lo hi : Nat) (v : Value) (w : World) (hv : Sl lo hi w 3 v xs.length (flat Check.enc xs)) (hs : ∀ x ∈ xs, x.id.size ≤ maxLen) (hn : xs.length ≤ 1048576) :
    Calls Try.prog 31 #[v] w fun e w' => e = .returned (.bool (checksOkB xs)) ∧ Ext w w' := by
  obtain ⟨hhi, _, A, c, rfl, hnc, hcm, hcell⟩ := hv
  go_enter Try.func31, Try.ntmps31
  go_wp2
  go_loopw [3] (fun i wr => ∃ (k : Nat), k ≤ xs.length ∧ i = .int .i64 k ∧ Hid (OkTo xs checkP Check.lt k) ∧ Ext w wr) (fun i _ => xs.length - (intOf i).toNat)
  case atStart => exact ⟨0, by omega, rfl, hid OkTo.zero, Below.refl _ _⟩
  case round =>
    obtain ⟨k, hk, rfl, hok, hE⟩ := hrel
    by_cases hlt : k < xs.length
    · obtain ⟨b, off, rfl, hb1, hb2, hc⟩ := hcell (by omega)
      have hsk : xs[k].id.size ≤ maxLen := hs _ (List.getElem_mem hlt)
      have hbw : b < w.heap.size := by omega
      have hki : (k : Int) < xs.length := by omega
      have at0 : ∀ d : Later wr, Check.At d.w b (off + k * 3) xs[k] := fun d => Check.at_of hc (Ext.tr hE d.h) hbw k hlt
      cases hp : checkP xs[k]
      · go_wp2
        refine wp_region_later wr (by kernel_rfl) (by kernel_rfl) (Below.refl _ _) ?_
        repeat (go_big_quiet_step ((first | (go_at_call 54; exact qls (l25OneX _ _ xs[k] _ hsk (at0 _)) (vb hp)))))
        refine wpQuiet_nil ?_
        rintro _ ⟨d, rfl⟩
        go_wp2
        go_ret
        exact ⟨ret_bool (by unfold checksOkB; rw [allOk_noP hlt hp]; simp), Ext.tr hE d.h⟩
      · by_cases h0 : 0 < k
        · have h0' : (0 : Int) < k := by omega
          have y0 : ∀ d : Later wr, d.w.cell? ⟨b, off + k * 3, none⟩ = some (.string xs[k].id) := fun d => (at0 d).1
          have y1 : ∀ d : Later wr, d.w.cell? ⟨b, off + (k - 1) * 3, none⟩ = some (.string (xs[k - 1]'(by omega)).id) := fun d => (Check.at_of hc (Ext.tr hE d.h) hbw (k - 1) (by omega)).1
          cases hl : Check.lt (xs[k - 1]'(by omega)) xs[k]
          all_goals have hl' : Op.bytesLess (xs[k - 1]'(by omega)).id.toList xs[k].id.toList = _ := hl
          · go_wp2
            refine wp_region_later wr (by kernel_rfl) (by kernel_rfl) (Below.refl _ _) ?_
            repeat (go_big_quiet_step ((first | (go_at_call 54; exact qls (l25OneX _ _ xs[k] _ hsk (at0 _)) (vb hp)))))
            refine wpQuiet_nil ?_
            rintro _ ⟨d, rfl⟩
            go_wp2
            go_ret
            exact ⟨ret_bool (by unfold checksOkB; rw [allOk_noL hlt h0 hl]; simp), Ext.tr hE d.h⟩
          · go_wp2
            refine wp_region_later wr (by kernel_rfl) (by kernel_rfl) (Below.refl _ _) ?_
            repeat (go_big_quiet_step ((first | (go_at_call 54; exact qls (l25OneX _ _ xs[k] _ hsk (at0 _)) (vb hp)))))
            refine wpQuiet_nil ?_
            rintro _ ⟨d, rfl⟩
            go_wp2
            go_roundw
            case rel => exact ⟨k + 1, by omega, by go_num, hid (hok.out.succ hlt hp (fun _ => hl)), Ext.tr hE d.h⟩
            case measure => simp [intOf]; omega
        · have h0' : ¬ (0 : Int) < k := by omega
          go_wp2
          refine wp_region_later wr (by kernel_rfl) (by kernel_rfl) (Below.refl _ _) ?_
          repeat (go_big_quiet_step ((first | (go_at_call 54; exact qls (l25OneX _ _ xs[k] _ hsk (at0 _)) (vb hp)))))
          refine wpQuiet_nil ?_
          rintro _ ⟨d, rfl⟩
          go_wp2
          go_roundw
          case rel => exact ⟨k + 1, by omega, by go_num, hid (hok.out.succ hlt hp (fun h => absurd h h0)), Ext.tr hE d.h⟩
          case measure => simp [intOf]; omega
    · obtain rfl : k = xs.length := by omega
      go_wp2
      go_ret
      exact ⟨ret_bool (by unfold checksOkB; rw [hok.out.end_, Bool.and_true]; exact decide_eq_decide.2 (by omega)), hE⟩
set_option maxRecDepth 100000 in
set_option maxHeartbeats 1000000 in
theorem checksImpl (xs : List Check) (lo hi : Nat) (v : Value) (w : World) (hv : Sl lo hi w 3 v xs.length (flat Check.enc xs)) (hs : ∀ x ∈ xs, x.id.size ≤ maxLen) (hn : xs.length ≤ 1048576) :
    Calls Try.prog 12 #[v] w fun e w' => e = .returned (.bool (checksOkB xs)) ∧ Ext w w' := by
  obtain ⟨hhi, _, A, c, rfl, hnc, hcm, hcell⟩ := hv
  by_cases hmx : 16 < xs.length
  · have HQ := hid (show checksOkB xs = false by unfold checksOkB; simp; omega)
    have hmx' : (16 : Int) < xs.length := by omega
    go_enter Try.func12, Try.ntmps12
    go_wp2
    go_ret
    exact ⟨ret_bool HQ.out.symm, Below.refl _ _⟩
  have hmx' : ¬ (16 : Int) < xs.length := by omega
  go_enter Try.func12, Try.ntmps12
  go_wp2
  go_loopw [10] (fun i wr => ∃ (k : Nat), k ≤ xs.length ∧ i = .int .i64 k ∧ Hid (OkTo xs checkP Check.lt k) ∧ Ext w wr) (fun i _ => xs.length - (intOf i).toNat)
  case atStart => exact ⟨0, by omega, rfl, hid OkTo.zero, Below.refl _ _⟩
  case round =>
    obtain ⟨k, hk, rfl, hok, hE⟩ := hrel
    by_cases hlt : k < xs.length
    · obtain ⟨b, off, rfl, hb1, hb2, hc⟩ := hcell (by omega)
      have hsk : xs[k].id.size ≤ maxLen := hs _ (List.getElem_mem hlt)
      have hbw : b < w.heap.size := by omega
      have hki : (k : Int) < xs.length := by omega
      obtain ⟨c0, c1, c2⟩ := Check.cells hc k hlt
      obtain ⟨hcc, _⟩ := bcell hE
      cases hp : checkP xs[k]
      · go_wp2
        generalize hA : wr.alloc _ = B
        have hEB : Ext w B := by rw [← hA]; exact Ext.tr hE (Ext.new _ _)
        have hBz : wr.heap.size < B.heap.size := by rw [← hA]; simp
        have x0 : ∀ d : Later B, d.w.cell? ⟨wr.heap.size, 0, none⟩ = some (.string xs[k].id) := fun d => (d.h.cell (p := ⟨wr.heap.size, 0, none⟩) hBz).trans (by rw [← hA]; simp)
        have x1 : ∀ d : Later B, d.w.cell? ⟨wr.heap.size, 1, none⟩ = some (.int .i64 xs[k].every) := fun d => (d.h.cell (p := ⟨wr.heap.size, 1, none⟩) hBz).trans (by rw [← hA]; simp)
        have x2 : ∀ d : Later B, d.w.cell? ⟨wr.heap.size, 2, none⟩ = some (.int .i64 xs[k].last) := fun d => (d.h.cell (p := ⟨wr.heap.size, 2, none⟩) hBz).trans (by rw [← hA]; simp)
        clear hA hcc c0 c1 c2
        refine wp_region_later B (by kernel_rfl) (by kernel_rfl) (Below.refl _ _) ?_
        repeat (go_big_quiet_step ((first | (go_at_call 33; exact ql (checkValidX xs[k] _ hsk) (vb hp)))))
        refine wpQuiet_nil ?_
        rintro _ ⟨d, rfl⟩
        go_wp2
        go_ret
        exact ⟨ret_bool (by unfold checksOkB; rw [allOk_noP hlt hp]; simp), Ext.tr hEB d.h⟩
      by_cases h0 : 0 < k
      · have h0' : (0 : Int) < k := by omega
        cases hl : Check.lt (xs[k - 1]'(by omega)) xs[k]
        all_goals have hl' := strLt_le (xs[k - 1]'(by omega)).id xs[k].id
        all_goals rw [show strLt (xs[k - 1]'(by omega)).id xs[k].id = _ from hl] at hl'
        · have hl2 : (Op.bytesLess xs[k].id.toList (xs[k - 1]'(by omega)).id.toList || xs[k].id.toList == (xs[k - 1]'(by omega)).id.toList) = true := hl'
          go_wp2
          generalize hA : wr.alloc _ = B
          have hEB : Ext w B := by rw [← hA]; exact Ext.tr hE (Ext.new _ _)
          have hBz : wr.heap.size < B.heap.size := by rw [← hA]; simp
          have x0 : ∀ d : Later B, d.w.cell? ⟨wr.heap.size, 0, none⟩ = some (.string xs[k].id) := fun d => (d.h.cell (p := ⟨wr.heap.size, 0, none⟩) hBz).trans (by rw [← hA]; simp)
          have x1 : ∀ d : Later B, d.w.cell? ⟨wr.heap.size, 1, none⟩ = some (.int .i64 xs[k].every) := fun d => (d.h.cell (p := ⟨wr.heap.size, 1, none⟩) hBz).trans (by rw [← hA]; simp)
          have x2 : ∀ d : Later B, d.w.cell? ⟨wr.heap.size, 2, none⟩ = some (.int .i64 xs[k].last) := fun d => (d.h.cell (p := ⟨wr.heap.size, 2, none⟩) hBz).trans (by rw [← hA]; simp)
          have y1 : ∀ d : Later B, d.w.cell? ⟨b, off + (k - 1) * 3, none⟩ = some (.string (xs[k - 1]'(by omega)).id) := fun d => (Check.at_of hc (Ext.tr hEB d.h) hbw (k - 1) (by omega)).1
          clear hA hcc c0 c1 c2
          refine wp_region_later B (by kernel_rfl) (by kernel_rfl) (Below.refl _ _) ?_
          repeat (go_big_quiet_step ((first | (go_at_call 33; exact ql (checkValidX xs[k] _ hsk) (vb hp)))))
          refine wpQuiet_nil ?_
          rintro _ ⟨d, rfl⟩
          go_wp2
          go_ret
          exact ⟨ret_bool (by unfold checksOkB; rw [allOk_noL hlt h0 hl]; simp), Ext.tr hEB d.h⟩
        · have hl2 : (Op.bytesLess xs[k].id.toList (xs[k - 1]'(by omega)).id.toList || xs[k].id.toList == (xs[k - 1]'(by omega)).id.toList) = false := hl'
          go_wp2
          generalize hA : wr.alloc _ = B
          have hEB : Ext w B := by rw [← hA]; exact Ext.tr hE (Ext.new _ _)
          have hBz : wr.heap.size < B.heap.size := by rw [← hA]; simp
          have x0 : ∀ d : Later B, d.w.cell? ⟨wr.heap.size, 0, none⟩ = some (.string xs[k].id) := fun d => (d.h.cell (p := ⟨wr.heap.size, 0, none⟩) hBz).trans (by rw [← hA]; simp)
          have x1 : ∀ d : Later B, d.w.cell? ⟨wr.heap.size, 1, none⟩ = some (.int .i64 xs[k].every) := fun d => (d.h.cell (p := ⟨wr.heap.size, 1, none⟩) hBz).trans (by rw [← hA]; simp)
          have x2 : ∀ d : Later B, d.w.cell? ⟨wr.heap.size, 2, none⟩ = some (.int .i64 xs[k].last) := fun d => (d.h.cell (p := ⟨wr.heap.size, 2, none⟩) hBz).trans (by rw [← hA]; simp)
          have y1 : ∀ d : Later B, d.w.cell? ⟨b, off + (k - 1) * 3, none⟩ = some (.string (xs[k - 1]'(by omega)).id) := fun d => (Check.at_of hc (Ext.tr hEB d.h) hbw (k - 1) (by omega)).1
          clear hA hcc c0 c1 c2
          refine wp_region_later B (by kernel_rfl) (by kernel_rfl) (Below.refl _ _) ?_
          repeat (go_big_quiet_step ((first | (go_at_call 33; exact ql (checkValidX xs[k] _ hsk) (vb hp)))))
          refine wpQuiet_nil ?_
          rintro _ ⟨d, rfl⟩
          go_wp2
          go_roundw
          case rel => exact ⟨k + 1, by omega, by go_num, hid (hok.out.succ hlt hp (fun _ => hl)), Ext.tr hEB d.h⟩
          case measure => simp [intOf]; omega
      · have h0' : ¬ (0 : Int) < k := by omega
        go_wp2
        generalize hA : wr.alloc _ = B
        have hEB : Ext w B := by rw [← hA]; exact Ext.tr hE (Ext.new _ _)
        have hBz : wr.heap.size < B.heap.size := by rw [← hA]; simp
        have x0 : ∀ d : Later B, d.w.cell? ⟨wr.heap.size, 0, none⟩ = some (.string xs[k].id) := fun d => (d.h.cell (p := ⟨wr.heap.size, 0, none⟩) hBz).trans (by rw [← hA]; simp)
        have x1 : ∀ d : Later B, d.w.cell? ⟨wr.heap.size, 1, none⟩ = some (.int .i64 xs[k].every) := fun d => (d.h.cell (p := ⟨wr.heap.size, 1, none⟩) hBz).trans (by rw [← hA]; simp)
        have x2 : ∀ d : Later B, d.w.cell? ⟨wr.heap.size, 2, none⟩ = some (.int .i64 xs[k].last) := fun d => (d.h.cell (p := ⟨wr.heap.size, 2, none⟩) hBz).trans (by rw [← hA]; simp)
        clear hA hcc c0 c1 c2
        refine wp_region_later B (by kernel_rfl) (by kernel_rfl) (Below.refl _ _) ?_
        repeat (go_big_quiet_step ((first | (go_at_call 33; exact ql (checkValidX xs[k] _ hsk) (vb hp)))))
        refine wpQuiet_nil ?_
        rintro _ ⟨d, rfl⟩
        go_wp2
        go_roundw
        case rel => exact ⟨k + 1, by omega, by go_num, hid (hok.out.succ hlt hp (fun h => absurd h h0)), Ext.tr hEB d.h⟩
        case measure => simp [intOf]; omega
    · obtain rfl : k = xs.length := by omega
      go_wp2
      go_ret
      exact ⟨ret_bool (by unfold checksOkB; rw [hok.out.end_, Bool.and_true]; symm; simp; omega), hE⟩
theorem checksSpecW (xs : List Check) (lo hi : Nat) (v : Value) (w : World) (hv : Sl lo hi w 3 v xs.length (flat Check.enc xs)) (hs : ∀ x ∈ xs, x.id.size ≤ maxLen) (hn : xs.length ≤ 1048576) :
    Calls Try.prog 10 #[v] w fun e w' => e = .returned (.bool (checksOkB xs)) ∧ Ext w w' := by
  go_enter Try.func10, Try.ntmps10
  go_wp2_with (go_at_call 31; refine (checksSpec xs lo hi v _ hv hs hn).mono ?_; rintro e w2 ⟨rfl, hE⟩)
  go_ret
  exact ⟨rfl, hE⟩
end Go.Proofs.Ytcocdigcmcpefaa
