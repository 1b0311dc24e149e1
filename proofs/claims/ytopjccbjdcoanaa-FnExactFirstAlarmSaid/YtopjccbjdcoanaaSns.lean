/- Contracts of the functions that tell whether a list of Sensor is valid, in both packages: at most 16, each valid, their names rising. -/
import Derived.Test.YtopjccbjdcoanaaSen
import Derived.Test.YtopjccbjdcoanaaCmp
namespace Go.Proofs.Ytopjccbjdcoanaa
set_option linter.unusedVariables false
open Go.RowKit
set_option maxHeartbeats 1000000 in
theorem sensorSo (b o : Nat) (x : Sensor) (w : World) (hs : x.id.size ≤ maxLen) (hx : Sensor.At w b o x) :
    Calls Try.prog 93 #[.pointer (some ⟨b, o, none⟩)] w fun e w' => e = .returned (.bool (sensorB x)) ∧ Ext w w' := by
  obtain ⟨c0, c1, c2, c3, c4⟩ := hx
  cases h0 : nameB x.id
  · have u_ := True.intro
    go_enter Try.func93, Try.ntmps93
    go_wp2_with fail
    go_quiet ((first | (go_at_call 101; exact Calls.quiet_of_same (qv (l01Name _ _ hs) (vb h0)))))
    go_wp2
    go_ret
    exact ⟨ret_bool (by simp [sensorB, *]), Ext.drewN _ _⟩
  cases h1 : inB x.junction 0 15
  · have u_ := True.intro
    go_enter Try.func93, Try.ntmps93
    go_wp2_with fail
    go_quiet ((first | (go_at_call 101; exact Calls.quiet_of_same (qv (l01Name _ _ hs) (vb h0))) | (go_at_call 73; exact Calls.quiet_of_same (qv (l00In _ _ _ _) (vb h1)))))
    go_wp2
    go_ret
    exact ⟨ret_bool (by simp [sensorB, *]), Ext.drewN _ _⟩
  cases h2 : inB x.limit 0 1000000
  · have u_ := True.intro
    go_enter Try.func93, Try.ntmps93
    go_wp2_with fail
    go_quiet ((first | (go_at_call 101; exact Calls.quiet_of_same (qv (l01Name _ _ hs) (vb h0))) | (go_at_call 73; exact Calls.quiet_of_same (qv (l00In _ _ _ _) (vb h1))) | (go_at_call 102; exact Calls.quiet_of_same (qv (l24Reading _ _) (vb h2)))))
    go_wp2
    go_ret
    exact ⟨ret_bool (by simp [sensorB, *]), Ext.drewN _ _⟩
  cases h3 : inB x.release 0 x.limit
  · have u_ := True.intro
    go_enter Try.func93, Try.ntmps93
    go_wp2_with fail
    go_quiet ((first | (go_at_call 101; exact Calls.quiet_of_same (qv (l01Name _ _ hs) (vb h0))) | (go_at_call 73; exact Calls.quiet_of_same (qv (l00In _ _ _ _) (vb h1))) | (go_at_call 102; exact Calls.quiet_of_same (qv (l24Reading _ _) (vb h2))) | (go_at_call 73; exact Calls.quiet_of_same (qv (l00In _ _ _ _) (vb h3)))))
    go_wp2
    go_ret
    exact ⟨ret_bool (by simp [sensorB, *]), Ext.drewN _ _⟩
  cases h4 : inB x.delay 1 60
  · have u_ := True.intro
    go_enter Try.func93, Try.ntmps93
    go_wp2_with fail
    go_quiet ((first | (go_at_call 101; exact Calls.quiet_of_same (qv (l01Name _ _ hs) (vb h0))) | (go_at_call 73; exact Calls.quiet_of_same (qv (l00In _ _ _ _) (vb h1))) | (go_at_call 102; exact Calls.quiet_of_same (qv (l24Reading _ _) (vb h2))) | (go_at_call 73; exact Calls.quiet_of_same (qv (l00In _ _ _ _) (vb h3))) | (go_at_call 73; exact Calls.quiet_of_same (qv (l00In _ _ _ _) (vb h4)))))
    go_wp2
    go_ret
    exact ⟨ret_bool (by simp [sensorB, *]), Ext.drewN _ _⟩
  go_enter Try.func93, Try.ntmps93
  go_wp2_with fail
  go_quiet ((first | (go_at_call 101; exact Calls.quiet_of_same (qv (l01Name _ _ hs) (vb h0))) | (go_at_call 73; exact Calls.quiet_of_same (qv (l00In _ _ _ _) (vb h1))) | (go_at_call 102; exact Calls.quiet_of_same (qv (l24Reading _ _) (vb h2))) | (go_at_call 73; exact Calls.quiet_of_same (qv (l00In _ _ _ _) (vb h3))) | (go_at_call 73; exact Calls.quiet_of_same (qv (l00In _ _ _ _) (vb h4)))))
  go_wp2
  go_ret
  exact ⟨ret_bool (by simp [sensorB, *]), Ext.drewN _ _⟩
def Sensor.lt (a b : Sensor) : Bool := strLt a.id b.id
def sensorsB (xs : List Sensor) : Bool := decide (xs.length ≤ 16) && allOk xs sensorB Sensor.lt
set_option maxRecDepth 100000 in
set_option maxHeartbeats 1000000 in
theorem sensorsS (xs : List Sensor) (lo hi : Nat) (v : Value) (w : World) (hv : Sl lo hi w 5 v xs.length (flat Sensor.enc xs)) (hs : ∀ x ∈ xs, x.id.size ≤ maxLen) (hn : xs.length ≤ 1048576) :
    Calls Try.prog 76 #[v] w fun e w' => e = .returned (.bool (sensorsB xs)) ∧ Ext w w' := by
  obtain ⟨hhi, _, A, c, rfl, hnc, hcm, hcell⟩ := hv
  go_enter Try.func76, Try.ntmps76
  go_wp2
  go_loopw [3] (fun i wr => ∃ (k : Nat), k ≤ xs.length ∧ i = .int .i64 k ∧ Hid (OkTo xs sensorB Sensor.lt k) ∧ Ext w wr) (fun i _ => xs.length - (intOf i).toNat)
  case atStart => exact ⟨0, by omega, rfl, hid OkTo.zero, Below.refl _ _⟩
  case round =>
    obtain ⟨k, hk, rfl, hok, hE⟩ := hrel
    by_cases hlt : k < xs.length
    · obtain ⟨b, off, rfl, hb1, hb2, hc⟩ := hcell (by omega)
      have hsk : xs[k].id.size ≤ maxLen := hs _ (List.getElem_mem hlt)
      have hbw : b < w.heap.size := by omega
      have hki : (k : Int) < xs.length := by omega
      have at0 : ∀ d : Later wr, Sensor.At d.w b (off + k * 5) xs[k] := fun d => Sensor.at_of hc (Ext.tr hE d.h) hbw k hlt
      cases hp : sensorB xs[k]
      · go_wp2
        refine wp_region_later wr (by kernel_rfl) (by kernel_rfl) (Below.refl _ _) ?_
        repeat (go_big_quiet_step ((first | (go_at_call 93; exact ql (sensorSo _ _ xs[k] _ hsk (at0 _)) (vb hp)))))
        refine wpQuiet_nil ?_
        rintro _ ⟨d, rfl⟩
        go_wp2
        go_ret
        exact ⟨ret_bool (by unfold sensorsB; rw [allOk_noP hlt hp]; simp), Ext.tr hE d.h⟩
      · by_cases h0 : 0 < k
        · have h0' : (0 : Int) < k := by omega
          have y0 : ∀ d : Later wr, d.w.cell? ⟨b, off + k * 5, none⟩ = some (.string xs[k].id) := fun d => (at0 d).1
          have y1 : ∀ d : Later wr, d.w.cell? ⟨b, off + (k - 1) * 5, none⟩ = some (.string (xs[k - 1]'(by omega)).id) := fun d => (Sensor.at_of hc (Ext.tr hE d.h) hbw (k - 1) (by omega)).1
          cases hl : Sensor.lt (xs[k - 1]'(by omega)) xs[k]
          all_goals have hl' : Op.bytesLess (xs[k - 1]'(by omega)).id.toList xs[k].id.toList = _ := hl
          · go_wp2
            refine wp_region_later wr (by kernel_rfl) (by kernel_rfl) (Below.refl _ _) ?_
            repeat (go_big_quiet_step ((first | (go_at_call 93; exact ql (sensorSo _ _ xs[k] _ hsk (at0 _)) (vb hp)))))
            refine wpQuiet_nil ?_
            rintro _ ⟨d, rfl⟩
            go_wp2
            go_ret
            exact ⟨ret_bool (by unfold sensorsB; rw [allOk_noL hlt h0 hl]; simp), Ext.tr hE d.h⟩
          · go_wp2
            refine wp_region_later wr (by kernel_rfl) (by kernel_rfl) (Below.refl _ _) ?_
            repeat (go_big_quiet_step ((first | (go_at_call 93; exact ql (sensorSo _ _ xs[k] _ hsk (at0 _)) (vb hp)))))
            refine wpQuiet_nil ?_
            rintro _ ⟨d, rfl⟩
            go_wp2
            go_roundw
            case rel => exact ⟨k + 1, by omega, by go_num, hid (hok.out.succ hlt hp (fun _ => hl)), Ext.tr hE d.h⟩
            case measure => simp [intOf]; omega
        · have h0' : ¬ (0 : Int) < k := by omega
          go_wp2
          refine wp_region_later wr (by kernel_rfl) (by kernel_rfl) (Below.refl _ _) ?_
          repeat (go_big_quiet_step ((first | (go_at_call 93; exact ql (sensorSo _ _ xs[k] _ hsk (at0 _)) (vb hp)))))
          refine wpQuiet_nil ?_
          rintro _ ⟨d, rfl⟩
          go_wp2
          go_roundw
          case rel => exact ⟨k + 1, by omega, by go_num, hid (hok.out.succ hlt hp (fun h => absurd h h0)), Ext.tr hE d.h⟩
          case measure => simp [intOf]; omega
    · obtain rfl : k = xs.length := by omega
      go_wp2
      go_ret
      exact ⟨ret_bool (by unfold sensorsB; rw [hok.out.end_, Bool.and_true]; exact decide_eq_decide.2 (by omega)), hE⟩
set_option maxRecDepth 100000 in
set_option maxHeartbeats 1000000 in
theorem sensorsI (xs : List Sensor) (lo hi : Nat) (v : Value) (w : World) (hv : Sl lo hi w 5 v xs.length (flat Sensor.enc xs)) (hs : ∀ x ∈ xs, x.id.size ≤ maxLen) (hn : xs.length ≤ 1048576) :
    Calls Try.prog 65 #[v] w fun e w' => e = .returned (.bool (sensorsB xs)) ∧ Ext w w' := by
  obtain ⟨hhi, _, A, c, rfl, hnc, hcm, hcell⟩ := hv
  by_cases hmx : 16 < xs.length
  · have HQ := hid (show sensorsB xs = false by unfold sensorsB; simp; omega)
    have hmx' : (16 : Int) < xs.length := by omega
    go_enter Try.func65, Try.ntmps65
    go_wp2
    go_ret
    exact ⟨ret_bool HQ.out.symm, Below.refl _ _⟩
  have hmx' : ¬ (16 : Int) < xs.length := by omega
  go_enter Try.func65, Try.ntmps65
  go_wp2
  go_loopw [10] (fun i wr => ∃ (k : Nat), k ≤ xs.length ∧ i = .int .i64 k ∧ Hid (OkTo xs sensorB Sensor.lt k) ∧ Ext w wr) (fun i _ => xs.length - (intOf i).toNat)
  case atStart => exact ⟨0, by omega, rfl, hid OkTo.zero, Below.refl _ _⟩
  case round =>
    obtain ⟨k, hk, rfl, hok, hE⟩ := hrel
    by_cases hlt : k < xs.length
    · obtain ⟨b, off, rfl, hb1, hb2, hc⟩ := hcell (by omega)
      have hsk : xs[k].id.size ≤ maxLen := hs _ (List.getElem_mem hlt)
      have hbw : b < w.heap.size := by omega
      have hki : (k : Int) < xs.length := by omega
      obtain ⟨c0, c1, c2, c3, c4⟩ := Sensor.cells hc k hlt
      obtain ⟨hcc, _⟩ := bcell hE
      cases hp : sensorB xs[k]
      · go_wp2
        generalize hA : wr.alloc _ = B
        have hEB : Ext w B := by rw [← hA]; exact Ext.tr hE (Ext.new _ _)
        have hBz : wr.heap.size < B.heap.size := by rw [← hA]; simp
        have x0 : ∀ d : Later B, d.w.cell? ⟨wr.heap.size, 0, none⟩ = some (.string xs[k].id) := fun d => (d.h.cell (p := ⟨wr.heap.size, 0, none⟩) hBz).trans (by rw [← hA]; simp)
        have x1 : ∀ d : Later B, d.w.cell? ⟨wr.heap.size, 1, none⟩ = some (.int .i64 xs[k].junction) := fun d => (d.h.cell (p := ⟨wr.heap.size, 1, none⟩) hBz).trans (by rw [← hA]; simp)
        have x2 : ∀ d : Later B, d.w.cell? ⟨wr.heap.size, 2, none⟩ = some (.int .i64 xs[k].limit) := fun d => (d.h.cell (p := ⟨wr.heap.size, 2, none⟩) hBz).trans (by rw [← hA]; simp)
        have x3 : ∀ d : Later B, d.w.cell? ⟨wr.heap.size, 3, none⟩ = some (.int .i64 xs[k].delay) := fun d => (d.h.cell (p := ⟨wr.heap.size, 3, none⟩) hBz).trans (by rw [← hA]; simp)
        have x4 : ∀ d : Later B, d.w.cell? ⟨wr.heap.size, 4, none⟩ = some (.int .i64 xs[k].release) := fun d => (d.h.cell (p := ⟨wr.heap.size, 4, none⟩) hBz).trans (by rw [← hA]; simp)
        clear hA hcc c0 c1 c2 c3 c4
        refine wp_region_later B (by kernel_rfl) (by kernel_rfl) (Below.refl _ _) ?_
        repeat (go_big_quiet_step ((first | (go_at_call 71; exact ql (sensorI xs[k] _ hsk) (vb hp)))))
        refine wpQuiet_nil ?_
        rintro _ ⟨d, rfl⟩
        go_wp2
        go_ret
        exact ⟨ret_bool (by unfold sensorsB; rw [allOk_noP hlt hp]; simp), Ext.tr hEB d.h⟩
      by_cases h0 : 0 < k
      · have h0' : (0 : Int) < k := by omega
        cases hl : Sensor.lt (xs[k - 1]'(by omega)) xs[k]
        all_goals have hl' := strLt_le (xs[k - 1]'(by omega)).id xs[k].id
        all_goals rw [show strLt (xs[k - 1]'(by omega)).id xs[k].id = _ from hl] at hl'
        · have hl2 : (Op.bytesLess xs[k].id.toList (xs[k - 1]'(by omega)).id.toList || xs[k].id.toList == (xs[k - 1]'(by omega)).id.toList) = true := hl'
          go_wp2
          generalize hA : wr.alloc _ = B
          have hEB : Ext w B := by rw [← hA]; exact Ext.tr hE (Ext.new _ _)
          have hBz : wr.heap.size < B.heap.size := by rw [← hA]; simp
          have x0 : ∀ d : Later B, d.w.cell? ⟨wr.heap.size, 0, none⟩ = some (.string xs[k].id) := fun d => (d.h.cell (p := ⟨wr.heap.size, 0, none⟩) hBz).trans (by rw [← hA]; simp)
          have x1 : ∀ d : Later B, d.w.cell? ⟨wr.heap.size, 1, none⟩ = some (.int .i64 xs[k].junction) := fun d => (d.h.cell (p := ⟨wr.heap.size, 1, none⟩) hBz).trans (by rw [← hA]; simp)
          have x2 : ∀ d : Later B, d.w.cell? ⟨wr.heap.size, 2, none⟩ = some (.int .i64 xs[k].limit) := fun d => (d.h.cell (p := ⟨wr.heap.size, 2, none⟩) hBz).trans (by rw [← hA]; simp)
          have x3 : ∀ d : Later B, d.w.cell? ⟨wr.heap.size, 3, none⟩ = some (.int .i64 xs[k].delay) := fun d => (d.h.cell (p := ⟨wr.heap.size, 3, none⟩) hBz).trans (by rw [← hA]; simp)
          have x4 : ∀ d : Later B, d.w.cell? ⟨wr.heap.size, 4, none⟩ = some (.int .i64 xs[k].release) := fun d => (d.h.cell (p := ⟨wr.heap.size, 4, none⟩) hBz).trans (by rw [← hA]; simp)
          have y1 : ∀ d : Later B, d.w.cell? ⟨b, off + (k - 1) * 5, none⟩ = some (.string (xs[k - 1]'(by omega)).id) := fun d => (Sensor.at_of hc (Ext.tr hEB d.h) hbw (k - 1) (by omega)).1
          clear hA hcc c0 c1 c2 c3 c4
          refine wp_region_later B (by kernel_rfl) (by kernel_rfl) (Below.refl _ _) ?_
          repeat (go_big_quiet_step ((first | (go_at_call 71; exact ql (sensorI xs[k] _ hsk) (vb hp)))))
          refine wpQuiet_nil ?_
          rintro _ ⟨d, rfl⟩
          go_wp2
          go_ret
          exact ⟨ret_bool (by unfold sensorsB; rw [allOk_noL hlt h0 hl]; simp), Ext.tr hEB d.h⟩
        · have hl2 : (Op.bytesLess xs[k].id.toList (xs[k - 1]'(by omega)).id.toList || xs[k].id.toList == (xs[k - 1]'(by omega)).id.toList) = false := hl'
          go_wp2
          generalize hA : wr.alloc _ = B
          have hEB : Ext w B := by rw [← hA]; exact Ext.tr hE (Ext.new _ _)
          have hBz : wr.heap.size < B.heap.size := by rw [← hA]; simp
          have x0 : ∀ d : Later B, d.w.cell? ⟨wr.heap.size, 0, none⟩ = some (.string xs[k].id) := fun d => (d.h.cell (p := ⟨wr.heap.size, 0, none⟩) hBz).trans (by rw [← hA]; simp)
          have x1 : ∀ d : Later B, d.w.cell? ⟨wr.heap.size, 1, none⟩ = some (.int .i64 xs[k].junction) := fun d => (d.h.cell (p := ⟨wr.heap.size, 1, none⟩) hBz).trans (by rw [← hA]; simp)
          have x2 : ∀ d : Later B, d.w.cell? ⟨wr.heap.size, 2, none⟩ = some (.int .i64 xs[k].limit) := fun d => (d.h.cell (p := ⟨wr.heap.size, 2, none⟩) hBz).trans (by rw [← hA]; simp)
          have x3 : ∀ d : Later B, d.w.cell? ⟨wr.heap.size, 3, none⟩ = some (.int .i64 xs[k].delay) := fun d => (d.h.cell (p := ⟨wr.heap.size, 3, none⟩) hBz).trans (by rw [← hA]; simp)
          have x4 : ∀ d : Later B, d.w.cell? ⟨wr.heap.size, 4, none⟩ = some (.int .i64 xs[k].release) := fun d => (d.h.cell (p := ⟨wr.heap.size, 4, none⟩) hBz).trans (by rw [← hA]; simp)
          have y1 : ∀ d : Later B, d.w.cell? ⟨b, off + (k - 1) * 5, none⟩ = some (.string (xs[k - 1]'(by omega)).id) := fun d => (Sensor.at_of hc (Ext.tr hEB d.h) hbw (k - 1) (by omega)).1
          clear hA hcc c0 c1 c2 c3 c4
          refine wp_region_later B (by kernel_rfl) (by kernel_rfl) (Below.refl _ _) ?_
          repeat (go_big_quiet_step ((first | (go_at_call 71; exact ql (sensorI xs[k] _ hsk) (vb hp)))))
          refine wpQuiet_nil ?_
          rintro _ ⟨d, rfl⟩
          go_wp2
          go_roundw
          case rel => exact ⟨k + 1, by omega, by go_num, hid (hok.out.succ hlt hp (fun _ => hl)), Ext.tr hEB d.h⟩
          case measure => simp [intOf]; omega
      · have h0' : ¬ (0 : Int) < k := by omega
        go_wp2
        generalize hA : wr.alloc _ = B
        have hEB : Ext w B := by rw [← hA]; exact Ext.tr hE (Ext.new _ _)
        have hBz : wr.heap.size < B.heap.size := by rw [← hA]; simp
        have x0 : ∀ d : Later B, d.w.cell? ⟨wr.heap.size, 0, none⟩ = some (.string xs[k].id) := fun d => (d.h.cell (p := ⟨wr.heap.size, 0, none⟩) hBz).trans (by rw [← hA]; simp)
        have x1 : ∀ d : Later B, d.w.cell? ⟨wr.heap.size, 1, none⟩ = some (.int .i64 xs[k].junction) := fun d => (d.h.cell (p := ⟨wr.heap.size, 1, none⟩) hBz).trans (by rw [← hA]; simp)
        have x2 : ∀ d : Later B, d.w.cell? ⟨wr.heap.size, 2, none⟩ = some (.int .i64 xs[k].limit) := fun d => (d.h.cell (p := ⟨wr.heap.size, 2, none⟩) hBz).trans (by rw [← hA]; simp)
        have x3 : ∀ d : Later B, d.w.cell? ⟨wr.heap.size, 3, none⟩ = some (.int .i64 xs[k].delay) := fun d => (d.h.cell (p := ⟨wr.heap.size, 3, none⟩) hBz).trans (by rw [← hA]; simp)
        have x4 : ∀ d : Later B, d.w.cell? ⟨wr.heap.size, 4, none⟩ = some (.int .i64 xs[k].release) := fun d => (d.h.cell (p := ⟨wr.heap.size, 4, none⟩) hBz).trans (by rw [← hA]; simp)
        clear hA hcc c0 c1 c2 c3 c4
        refine wp_region_later B (by kernel_rfl) (by kernel_rfl) (Below.refl _ _) ?_
        repeat (go_big_quiet_step ((first | (go_at_call 71; exact ql (sensorI xs[k] _ hsk) (vb hp)))))
        refine wpQuiet_nil ?_
        rintro _ ⟨d, rfl⟩
        go_wp2
        go_roundw
        case rel => exact ⟨k + 1, by omega, by go_num, hid (hok.out.succ hlt hp (fun h => absurd h h0)), Ext.tr hEB d.h⟩
        case measure => simp [intOf]; omega
    · obtain rfl : k = xs.length := by omega
      go_wp2
      go_ret
      exact ⟨ret_bool (by unfold sensorsB; rw [hok.out.end_, Bool.and_true]; symm; simp; omega), hE⟩
end Go.Proofs.Ytopjccbjdcoanaa
