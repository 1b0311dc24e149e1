/- Texts of this claim joined into one; each part says what it proves and on what conditions. -/
import Derived.Test.YtopjccbjdcoanaaOk
import Derived.Deep.RegionHeld3
import Derived.Test.YtopjccbjdcoanaaSen
import Derived.Test.YtopjccbjdcoanaaAlm
import Derived.Test.YtopjccbjdcoanaaAlo
import Derived.Test.YtopjccbjdcoanaaAnyL
import Derived.Handy
import Derived.Test.YtopjccbjdcoanaaFse
import Derived.BigRegion
import Derived.StillTailTactics
import Derived.Test.YtopjccbjdcoanaaAppR
import Derived.Deep.RegionLaw
import Derived.Laws.EntriesVeiled
/- Contracts of Go's cmp functions at the types that the program uses: a number less than, equal to or above 0. -/
namespace Go.Proofs.Ytopjccbjdcoanaa
set_option linter.unusedVariables false
open Go.RowKit
def cmpI (a b : Int) : Int := if a < b then -1 else if b < a then 1 else 0
def cmpS (a b : ByteArray) : Int := if strLt a b then -1 else if strLt b a then 1 else 0
end Go.Proofs.Ytopjccbjdcoanaa
/- Contracts of the functions that tell whether a list of Sensor is valid, in both packages: at most 16, each valid, their names rising. -/
namespace Go.Proofs.Ytopjccbjdcoanaa
set_option linter.unusedVariables false
open Go.RowKit
set_option maxHeartbeats 1000000 in
theorem sensorSo (b o : Nat) (x : Sensor) (w : World) (hs : x.id.size ≤ maxLen) (hx : Sensor.At w b o x) :
    Calls Try.prog 93 #[.pointer (some ⟨b, o, none⟩)] w fun e w' => e = .returned (.bool (sensorB x)) ∧ Ext w w' := by
  obtain ⟨c0, c1, c2, c3, c4⟩ := hx
  cases h0 : nameB x.id
  · have u_ := True.intro
    go_enter Try.func93, Try.ntmps93
    go_wp2_with fail
    go_quiet ((first | (go_at_call 101; exact Calls.quiet_of_same (qv (l01Name _ _ hs) (vb h0)))))
    go_wp2
    go_ret
    exact ⟨ret_bool (by simp [sensorB, *]), Ext.drewN _ _⟩
  cases h1 : inB x.junction 0 15
  · have u_ := True.intro
    go_enter Try.func93, Try.ntmps93
    go_wp2_with fail
    go_quiet ((first | (go_at_call 101; exact Calls.quiet_of_same (qv (l01Name _ _ hs) (vb h0))) | (go_at_call 73; exact Calls.quiet_of_same (qv (l00In _ _ _ _) (vb h1)))))
    go_wp2
    go_ret
    exact ⟨ret_bool (by simp [sensorB, *]), Ext.drewN _ _⟩
  cases h2 : inB x.limit 0 1000000
  · have u_ := True.intro
    go_enter Try.func93, Try.ntmps93
    go_wp2_with fail
    go_quiet ((first | (go_at_call 101; exact Calls.quiet_of_same (qv (l01Name _ _ hs) (vb h0))) | (go_at_call 73; exact Calls.quiet_of_same (qv (l00In _ _ _ _) (vb h1))) | (go_at_call 102; exact Calls.quiet_of_same (qv (l24Reading _ _) (vb h2)))))
    go_wp2
    go_ret
    exact ⟨ret_bool (by simp [sensorB, *]), Ext.drewN _ _⟩
  cases h3 : inB x.release 0 x.limit
  · have u_ := True.intro
    go_enter Try.func93, Try.ntmps93
    go_wp2_with fail
    go_quiet ((first | (go_at_call 101; exact Calls.quiet_of_same (qv (l01Name _ _ hs) (vb h0))) | (go_at_call 73; exact Calls.quiet_of_same (qv (l00In _ _ _ _) (vb h1))) | (go_at_call 102; exact Calls.quiet_of_same (qv (l24Reading _ _) (vb h2))) | (go_at_call 73; exact Calls.quiet_of_same (qv (l00In _ _ _ _) (vb h3)))))
    go_wp2
    go_ret
    exact ⟨ret_bool (by simp [sensorB, *]), Ext.drewN _ _⟩
  cases h4 : inB x.delay 1 60
  · have u_ := True.intro
    go_enter Try.func93, Try.ntmps93
    go_wp2_with fail
    go_quiet ((first | (go_at_call 101; exact Calls.quiet_of_same (qv (l01Name _ _ hs) (vb h0))) | (go_at_call 73; exact Calls.quiet_of_same (qv (l00In _ _ _ _) (vb h1))) | (go_at_call 102; exact Calls.quiet_of_same (qv (l24Reading _ _) (vb h2))) | (go_at_call 73; exact Calls.quiet_of_same (qv (l00In _ _ _ _) (vb h3))) | (go_at_call 73; exact Calls.quiet_of_same (qv (l00In _ _ _ _) (vb h4)))))
    go_wp2
    go_ret
    exact ⟨ret_bool (by simp [sensorB, *]), Ext.drewN _ _⟩
  go_enter Try.func93, Try.ntmps93
  go_wp2_with fail
  go_quiet ((first | (go_at_call 101; exact Calls.quiet_of_same (qv (l01Name _ _ hs) (vb h0))) | (go_at_call 73; exact Calls.quiet_of_same (qv (l00In _ _ _ _) (vb h1))) | (go_at_call 102; exact Calls.quiet_of_same (qv (l24Reading _ _) (vb h2))) | (go_at_call 73; exact Calls.quiet_of_same (qv (l00In _ _ _ _) (vb h3))) | (go_at_call 73; exact Calls.quiet_of_same (qv (l00In _ _ _ _) (vb h4)))))
  go_wp2
  go_ret
  exact ⟨ret_bool (by simp [sensorB, *]), Ext.drewN _ _⟩
def Sensor.lt (a b : Sensor) : Bool := strLt a.id b.id
def sensorsB (xs : List Sensor) : Bool := decide (xs.length ≤ 16) && allOk xs sensorB Sensor.lt
set_option maxRecDepth 100000 in
set_option maxHeartbeats 1000000 in
theorem sensorsS (xs : List Sensor) (lo hi : Nat) (v : Value) (w : World) (hv : Sl lo hi w 5 v xs.length (flat Sensor.enc xs)) (hs : ∀ x ∈ xs, x.id.size ≤ maxLen) (hn : xs.length ≤ 1048576) :
    Calls Try.prog 76 #[v] w fun e w' => e = .returned (.bool (sensorsB xs)) ∧ Ext w w' := by
  obtain ⟨hhi, _, A, c, rfl, hnc, hcm, hcell⟩ := hv
  go_enter Try.func76, Try.ntmps76
  go_wp2
  go_loopw [3] (fun i wr => ∃ (k : Nat), k ≤ xs.length ∧ i = .int .i64 k ∧ Hid (OkTo xs sensorB Sensor.lt k) ∧ Ext w wr) (fun i _ => xs.length - (intOf i).toNat)
  case atStart => exact ⟨0, by omega, rfl, hid OkTo.zero, Below.refl _ _⟩
  case round =>
    obtain ⟨k, hk, rfl, hok, hE⟩ := hrel
    by_cases hlt : k < xs.length
    · obtain ⟨b, off, rfl, hb1, hb2, hc⟩ := hcell (by omega)
      have hsk : xs[k].id.size ≤ maxLen := hs _ (List.getElem_mem hlt)
      have hbw : b < w.heap.size := by omega
      have hki : (k : Int) < xs.length := by omega
      have at0 : ∀ d : Later wr, Sensor.At d.w b (off + k * 5) xs[k] := fun d => Sensor.at_of hc (Ext.tr hE d.h) hbw k hlt
      cases hp : sensorB xs[k]
      · go_wp2
        refine wp_region_later wr (by kernel_rfl) (by kernel_rfl) (Below.refl _ _) ?_
        repeat (go_big_quiet_step ((first | (go_at_call 93; exact ql (sensorSo _ _ xs[k] _ hsk (at0 _)) (vb hp)))))
        refine wpQuiet_nil ?_
        rintro _ ⟨d, rfl⟩
        go_wp2
        go_ret
        exact ⟨ret_bool (by unfold sensorsB; rw [allOk_noP hlt hp]; simp), Ext.tr hE d.h⟩
      · by_cases h0 : 0 < k
        · have h0' : (0 : Int) < k := by omega
          have y0 : ∀ d : Later wr, d.w.cell? ⟨b, off + k * 5, none⟩ = some (.string xs[k].id) := fun d => (at0 d).1
          have y1 : ∀ d : Later wr, d.w.cell? ⟨b, off + (k - 1) * 5, none⟩ = some (.string (xs[k - 1]'(by omega)).id) := fun d => (Sensor.at_of hc (Ext.tr hE d.h) hbw (k - 1) (by omega)).1
          cases hl : Sensor.lt (xs[k - 1]'(by omega)) xs[k]
          all_goals have hl' : Op.bytesLess (xs[k - 1]'(by omega)).id.toList xs[k].id.toList = _ := hl
          · go_wp2
            refine wp_region_later wr (by kernel_rfl) (by kernel_rfl) (Below.refl _ _) ?_
            repeat (go_big_quiet_step ((first | (go_at_call 93; exact ql (sensorSo _ _ xs[k] _ hsk (at0 _)) (vb hp)))))
            refine wpQuiet_nil ?_
            rintro _ ⟨d, rfl⟩
            go_wp2
            go_ret
            exact ⟨ret_bool (by unfold sensorsB; rw [allOk_noL hlt h0 hl]; simp), Ext.tr hE d.h⟩
          · go_wp2
            refine wp_region_later wr (by kernel_rfl) (by kernel_rfl) (Below.refl _ _) ?_
            repeat (go_big_quiet_step ((first | (go_at_call 93; exact ql (sensorSo _ _ xs[k] _ hsk (at0 _)) (vb hp)))))
            refine wpQuiet_nil ?_
            rintro _ ⟨d, rfl⟩
            go_wp2
            go_roundw
            case rel => exact ⟨k + 1, by omega, by go_num, hid (hok.out.succ hlt hp (fun _ => hl)), Ext.tr hE d.h⟩
            case measure => simp [intOf]; omega
        · have h0' : ¬ (0 : Int) < k := by omega
          go_wp2
          refine wp_region_later wr (by kernel_rfl) (by kernel_rfl) (Below.refl _ _) ?_
          repeat (go_big_quiet_step ((first | (go_at_call 93; exact ql (sensorSo _ _ xs[k] _ hsk (at0 _)) (vb hp)))))
          refine wpQuiet_nil ?_
          rintro _ ⟨d, rfl⟩
          go_wp2
          go_roundw
          case rel => exact ⟨k + 1, by omega, by go_num, hid (hok.out.succ hlt hp (fun h => absurd h h0)), Ext.tr hE d.h⟩
          case measure => simp [intOf]; omega
    · obtain rfl : k = xs.length := by omega
      go_wp2
      go_ret
      exact ⟨ret_bool (by unfold sensorsB; rw [hok.out.end_, Bool.and_true]; exact decide_eq_decide.2 (by omega)), hE⟩
set_option maxRecDepth 100000 in
set_option maxHeartbeats 1000000 in
theorem sensorsI (xs : List Sensor) (lo hi : Nat) (v : Value) (w : World) (hv : Sl lo hi w 5 v xs.length (flat Sensor.enc xs)) (hs : ∀ x ∈ xs, x.id.size ≤ maxLen) (hn : xs.length ≤ 1048576) :
    Calls Try.prog 65 #[v] w fun e w' => e = .returned (.bool (sensorsB xs)) ∧ Ext w w' := by
  obtain ⟨hhi, _, A, c, rfl, hnc, hcm, hcell⟩ := hv
  by_cases hmx : 16 < xs.length
  · have HQ := hid (show sensorsB xs = false by unfold sensorsB; simp; omega)
    have hmx' : (16 : Int) < xs.length := by omega
    go_enter Try.func65, Try.ntmps65
    go_wp2
    go_ret
    exact ⟨ret_bool HQ.out.symm, Below.refl _ _⟩
  have hmx' : ¬ (16 : Int) < xs.length := by omega
  go_enter Try.func65, Try.ntmps65
  go_wp2
  go_loopw [10] (fun i wr => ∃ (k : Nat), k ≤ xs.length ∧ i = .int .i64 k ∧ Hid (OkTo xs sensorB Sensor.lt k) ∧ Ext w wr) (fun i _ => xs.length - (intOf i).toNat)
  case atStart => exact ⟨0, by omega, rfl, hid OkTo.zero, Below.refl _ _⟩
  case round =>
    obtain ⟨k, hk, rfl, hok, hE⟩ := hrel
    by_cases hlt : k < xs.length
    · obtain ⟨b, off, rfl, hb1, hb2, hc⟩ := hcell (by omega)
      have hsk : xs[k].id.size ≤ maxLen := hs _ (List.getElem_mem hlt)
      have hbw : b < w.heap.size := by omega
      have hki : (k : Int) < xs.length := by omega
      obtain ⟨c0, c1, c2, c3, c4⟩ := Sensor.cells hc k hlt
      obtain ⟨hcc, _⟩ := bcell hE
      cases hp : sensorB xs[k]
      · go_wp2
        generalize hA : wr.alloc _ = B
        have hEB : Ext w B := by rw [← hA]; exact Ext.tr hE (Ext.new _ _)
        have hBz : wr.heap.size < B.heap.size := by rw [← hA]; simp
        have x0 : ∀ d : Later B, d.w.cell? ⟨wr.heap.size, 0, none⟩ = some (.string xs[k].id) := fun d => (d.h.cell (p := ⟨wr.heap.size, 0, none⟩) hBz).trans (by rw [← hA]; simp)
        have x1 : ∀ d : Later B, d.w.cell? ⟨wr.heap.size, 1, none⟩ = some (.int .i64 xs[k].junction) := fun d => (d.h.cell (p := ⟨wr.heap.size, 1, none⟩) hBz).trans (by rw [← hA]; simp)
        have x2 : ∀ d : Later B, d.w.cell? ⟨wr.heap.size, 2, none⟩ = some (.int .i64 xs[k].limit) := fun d => (d.h.cell (p := ⟨wr.heap.size, 2, none⟩) hBz).trans (by rw [← hA]; simp)
        have x3 : ∀ d : Later B, d.w.cell? ⟨wr.heap.size, 3, none⟩ = some (.int .i64 xs[k].delay) := fun d => (d.h.cell (p := ⟨wr.heap.size, 3, none⟩) hBz).trans (by rw [← hA]; simp)
        have x4 : ∀ d : Later B, d.w.cell? ⟨wr.heap.size, 4, none⟩ = some (.int .i64 xs[k].release) := fun d => (d.h.cell (p := ⟨wr.heap.size, 4, none⟩) hBz).trans (by rw [← hA]; simp)
        clear hA hcc c0 c1 c2 c3 c4
        refine wp_region_later B (by kernel_rfl) (by kernel_rfl) (Below.refl _ _) ?_
        repeat (go_big_quiet_step ((first | (go_at_call 71; exact ql (sensorI xs[k] _ hsk) (vb hp)))))
        refine wpQuiet_nil ?_
        rintro _ ⟨d, rfl⟩
        go_wp2
        go_ret
        exact ⟨ret_bool (by unfold sensorsB; rw [allOk_noP hlt hp]; simp), Ext.tr hEB d.h⟩
      by_cases h0 : 0 < k
      · have h0' : (0 : Int) < k := by omega
        cases hl : Sensor.lt (xs[k - 1]'(by omega)) xs[k]
        all_goals have hl' := strLt_le (xs[k - 1]'(by omega)).id xs[k].id
        all_goals rw [show strLt (xs[k - 1]'(by omega)).id xs[k].id = _ from hl] at hl'
        · have hl2 : (Op.bytesLess xs[k].id.toList (xs[k - 1]'(by omega)).id.toList || xs[k].id.toList == (xs[k - 1]'(by omega)).id.toList) = true := hl'
          go_wp2
          generalize hA : wr.alloc _ = B
          have hEB : Ext w B := by rw [← hA]; exact Ext.tr hE (Ext.new _ _)
          have hBz : wr.heap.size < B.heap.size := by rw [← hA]; simp
          have x0 : ∀ d : Later B, d.w.cell? ⟨wr.heap.size, 0, none⟩ = some (.string xs[k].id) := fun d => (d.h.cell (p := ⟨wr.heap.size, 0, none⟩) hBz).trans (by rw [← hA]; simp)
          have x1 : ∀ d : Later B, d.w.cell? ⟨wr.heap.size, 1, none⟩ = some (.int .i64 xs[k].junction) := fun d => (d.h.cell (p := ⟨wr.heap.size, 1, none⟩) hBz).trans (by rw [← hA]; simp)
          have x2 : ∀ d : Later B, d.w.cell? ⟨wr.heap.size, 2, none⟩ = some (.int .i64 xs[k].limit) := fun d => (d.h.cell (p := ⟨wr.heap.size, 2, none⟩) hBz).trans (by rw [← hA]; simp)
          have x3 : ∀ d : Later B, d.w.cell? ⟨wr.heap.size, 3, none⟩ = some (.int .i64 xs[k].delay) := fun d => (d.h.cell (p := ⟨wr.heap.size, 3, none⟩) hBz).trans (by rw [← hA]; simp)
          have x4 : ∀ d : Later B, d.w.cell? ⟨wr.heap.size, 4, none⟩ = some (.int .i64 xs[k].release) := fun d => (d.h.cell (p := ⟨wr.heap.size, 4, none⟩) hBz).trans (by rw [← hA]; simp)
          have y1 : ∀ d : Later B, d.w.cell? ⟨b, off + (k - 1) * 5, none⟩ = some (.string (xs[k - 1]'(by omega)).id) := fun d => (Sensor.at_of hc (Ext.tr hEB d.h) hbw (k - 1) (by omega)).1
          clear hA hcc c0 c1 c2 c3 c4
          refine wp_region_later B (by kernel_rfl) (by kernel_rfl) (Below.refl _ _) ?_
          repeat (go_big_quiet_step ((first | (go_at_call 71; exact ql (sensorI xs[k] _ hsk) (vb hp)))))
          refine wpQuiet_nil ?_
          rintro _ ⟨d, rfl⟩
          go_wp2
          go_ret
          exact ⟨ret_bool (by unfold sensorsB; rw [allOk_noL hlt h0 hl]; simp), Ext.tr hEB d.h⟩
        · have hl2 : (Op.bytesLess xs[k].id.toList (xs[k - 1]'(by omega)).id.toList || xs[k].id.toList == (xs[k - 1]'(by omega)).id.toList) = false := hl'
          go_wp2
          generalize hA : wr.alloc _ = B
          have hEB : Ext w B := by rw [← hA]; exact Ext.tr hE (Ext.new _ _)
          have hBz : wr.heap.size < B.heap.size := by rw [← hA]; simp
          have x0 : ∀ d : Later B, d.w.cell? ⟨wr.heap.size, 0, none⟩ = some (.string xs[k].id) := fun d => (d.h.cell (p := ⟨wr.heap.size, 0, none⟩) hBz).trans (by rw [← hA]; simp)
          have x1 : ∀ d : Later B, d.w.cell? ⟨wr.heap.size, 1, none⟩ = some (.int .i64 xs[k].junction) := fun d => (d.h.cell (p := ⟨wr.heap.size, 1, none⟩) hBz).trans (by rw [← hA]; simp)
          have x2 : ∀ d : Later B, d.w.cell? ⟨wr.heap.size, 2, none⟩ = some (.int .i64 xs[k].limit) := fun d => (d.h.cell (p := ⟨wr.heap.size, 2, none⟩) hBz).trans (by rw [← hA]; simp)
          have x3 : ∀ d : Later B, d.w.cell? ⟨wr.heap.size, 3, none⟩ = some (.int .i64 xs[k].delay) := fun d => (d.h.cell (p := ⟨wr.heap.size, 3, none⟩) hBz).trans (by rw [← hA]; simp)
          have x4 : ∀ d : Later B, d.w.cell? ⟨wr.heap.size, 4, none⟩ = some (.int .i64 xs[k].release) := fun d => (d.h.cell (p := ⟨wr.heap.size, 4, none⟩) hBz).trans (by rw [← hA]; simp)
          have y1 : ∀ d : Later B, d.w.cell? ⟨b, off + (k - 1) * 5, none⟩ = some (.string (xs[k - 1]'(by omega)).id) := fun d => (Sensor.at_of hc (Ext.tr hEB d.h) hbw (k - 1) (by omega)).1
          clear hA hcc c0 c1 c2 c3 c4
          refine wp_region_later B (by kernel_rfl) (by kernel_rfl) (Below.refl _ _) ?_
          repeat (go_big_quiet_step ((first | (go_at_call 71; exact ql (sensorI xs[k] _ hsk) (vb hp)))))
          refine wpQuiet_nil ?_
          rintro _ ⟨d, rfl⟩
          go_wp2
          go_roundw
          case rel => exact ⟨k + 1, by omega, by go_num, hid (hok.out.succ hlt hp (fun _ => hl)), Ext.tr hEB d.h⟩
          case measure => simp [intOf]; omega
      · have h0' : ¬ (0 : Int) < k := by omega
        go_wp2
        generalize hA : wr.alloc _ = B
        have hEB : Ext w B := by rw [← hA]; exact Ext.tr hE (Ext.new _ _)
        have hBz : wr.heap.size < B.heap.size := by rw [← hA]; simp
        have x0 : ∀ d : Later B, d.w.cell? ⟨wr.heap.size, 0, none⟩ = some (.string xs[k].id) := fun d => (d.h.cell (p := ⟨wr.heap.size, 0, none⟩) hBz).trans (by rw [← hA]; simp)
        have x1 : ∀ d : Later B, d.w.cell? ⟨wr.heap.size, 1, none⟩ = some (.int .i64 xs[k].junction) := fun d => (d.h.cell (p := ⟨wr.heap.size, 1, none⟩) hBz).trans (by rw [← hA]; simp)
        have x2 : ∀ d : Later B, d.w.cell? ⟨wr.heap.size, 2, none⟩ = some (.int .i64 xs[k].limit) := fun d => (d.h.cell (p := ⟨wr.heap.size, 2, none⟩) hBz).trans (by rw [← hA]; simp)
        have x3 : ∀ d : Later B, d.w.cell? ⟨wr.heap.size, 3, none⟩ = some (.int .i64 xs[k].delay) := fun d => (d.h.cell (p := ⟨wr.heap.size, 3, none⟩) hBz).trans (by rw [← hA]; simp)
        have x4 : ∀ d : Later B, d.w.cell? ⟨wr.heap.size, 4, none⟩ = some (.int .i64 xs[k].release) := fun d => (d.h.cell (p := ⟨wr.heap.size, 4, none⟩) hBz).trans (by rw [← hA]; simp)
        clear hA hcc c0 c1 c2 c3 c4
        refine wp_region_later B (by kernel_rfl) (by kernel_rfl) (Below.refl _ _) ?_
        repeat (go_big_quiet_step ((first | (go_at_call 71; exact ql (sensorI xs[k] _ hsk) (vb hp)))))
        refine wpQuiet_nil ?_
        rintro _ ⟨d, rfl⟩
        go_wp2
        go_roundw
        case rel => exact ⟨k + 1, by omega, by go_num, hid (hok.out.succ hlt hp (fun h => absurd h h0)), Ext.tr hEB d.h⟩
        case measure => simp [intOf]; omega
    · obtain rfl : k = xs.length := by omega
      go_wp2
      go_ret
      exact ⟨ret_bool (by unfold sensorsB; rw [hok.out.end_, Bool.and_true]; symm; simp; omega), hE⟩
end Go.Proofs.Ytopjccbjdcoanaa
/- The note's alarms at a pointer into a slice of sensors. -/
namespace Go.Proofs.Ytopjccbjdcoanaa
set_option linter.unusedVariables false
open Go.RowKit
set_option maxRecDepth 100000 in
set_option maxHeartbeats 2000000 in
theorem l24AlarmsO (x : Sensor) (ns : List Int) (b o : Nat) (lo hi : Nat) (v : Value) (w : World) (hx : sensorB x = true) (hbw : b < w.heap.size)
    (c2 : w.cell? ⟨b, o + 2, none⟩ = some (.int .i64 x.limit)) (c3 : w.cell? ⟨b, o + 3, none⟩ = some (.int .i64 x.delay)) (c4 : w.cell? ⟨b, o + 4, none⟩ = some (.int .i64 x.release))
    (hv : Sl lo hi w 1 v ns.length (flat encI ns)) (hs : seriesB ns = true) :
    Calls Try.prog 70 #[.pointer (some ⟨b, o, none⟩), v] w fun e w' => (∃ v', e = .returned v' ∧ OwnSS w.heap.size w'.heap.size w' v' (alarms x ns)) ∧ Ext w w' := by
  obtain ⟨hhi, _, A, c, rfl, hnc, hcm, hcell⟩ := hv
  obtain ⟨hx1, hx2, hx3, hx4, hx5, hx6⟩ := sensorB_le hx
  have hlen := series_len hs
  have HB := hid (aTo_bd x ns hx4 hx3)
  have HS := hid hs
  have HX := hid hx
  clear hs hx
  go_enter Try.func70, Try.ntmps70
  go_wp2
  go_loopw [5, 6, 7, 8, 9] (fun u run since i _ wr => ∃ (k : Nat) (ys : List (List Int × Value)), k ≤ ns.length ∧ i = .int .i64 k ∧ run = .int .i64 (aTo x ns k).run ∧ since = .int .i64 (aTo x ns k).since ∧ Hid (ys.map Prod.fst = (aTo x ns k).acc) ∧ GrowN nSS 27 2 w.heap.size wr u ys ∧ Ext w wr) (fun _ _ _ i _ _ => ns.length - (intOf i).toNat)
  case atStart => exact ⟨0, [], by omega, rfl, rfl, rfl, hid rfl, GrowN.empty (Nat.le_refl _), Ext.new _ _⟩
  case round =>
    obtain ⟨k, ys, hk, rfl, rfl, rfl, HY, hG, hE⟩ := hrel
    obtain ⟨⟨r1, r2⟩, ⟨s1, s2⟩, a1, _⟩ := HB.out k
    have hyl : ys.length ≤ k := by have := congrArg List.length HY.out; simp at this; omega
    by_cases hlt : k < ns.length
    · obtain ⟨b', off, rfl, hb1, hb2, hc⟩ := hcell (by omega)
      have hkn : (k : Int) < ns.length := by omega
      have c0 := ((bcell hE).1 b' (off + k) (by omega)).trans (cellsI hc k hlt)
      have d2 := ((bcell hE).1 b (o + 2) hbw).trans c2
      have d3 := ((bcell hE).1 b (o + 3) hbw).trans c3
      have d4 := ((bcell hE).1 b (o + 4) hbw).trans c4
      have hrr := series_at HS.out k hlt
      obtain ⟨rr1, rr2⟩ := hrr
      have HA := hid (aTo_succ x ns k hlt)
      have HC3 := hid c3
      clear hc hcell c2 c3 c4
      generalize ns[k] = r at *
      generalize hst : aTo x ns k = s at *
      have HST := hid hst
      clear hst
      by_cases hl : x.limit < r
      · by_cases hin : 0 ≤ s.since
        · have HN := hid (HA.out.trans (aStep_high_in hx3 hl hin))
          have hb3 : (r != -1) = true := by rw [bne_iff_ne]; omega
          go_wp2
          go_roundw
          case rel => exact ⟨k + 1, ys, by omega, by go_num, by rw [HN.out], by rw [HN.out], hid (by rw [HN.out]; exact HY.out), hG, hE⟩
          case measure => simp [intOf]; omega
        · by_cases hd : x.delay ≤ s.run + 1
          · have HN := hid (HA.out.trans (aStep_high_on (t := (k : Int)) hl hin hd))
            go_wp2
            go_roundw
            case rel => exact ⟨k + 1, ys, by omega, by go_num, by rw [HN.out], by rw [HN.out], hid (by rw [HN.out]; exact HY.out), hG, hE⟩
            case measure => simp [intOf]; omega
          · have HN := hid (HA.out.trans (aStep_high_no (t := (k : Int)) hl hin hd))
            have hs1 : s.since = -1 := by omega
            rw [hs1]
            go_wp2
            go_roundw
            case rel => exact ⟨k + 1, ys, by omega, by go_num, by rw [HN.out], by rw [HN.out], hid (by rw [HN.out]; exact HY.out), hG, hE⟩
            case measure => simp [intOf]; omega
      · by_cases hin : 0 ≤ s.since
        · by_cases hr1 : r = -1
          · have HN := hid (HA.out.trans (aStep_low_in (t := (k : Int)) hl hin (.inl hr1)))
            have hb3 : (r != -1) = false := by rw [hr1]; rfl
            rw [hr1] at c0
            clear hb3
            subst hr1
            go_wp2
            go_roundw
            case rel => exact ⟨k + 1, ys, by omega, by go_num, by rw [HN.out], by rw [HN.out], hid (by rw [HN.out]; exact HY.out), hG, hE⟩
            case measure => simp [intOf]; omega
          have hb3 : (r != -1) = true := by rw [bne_iff_ne]; exact hr1
          by_cases hr2 : r ≤ x.release
          · have HN := hid (HA.out.trans (aStep_low_off (t := (k : Int)) hl hin hr1 hr2))
            obtain ⟨hG2, hu, hav, hau⟩ := pair_grow hG s.since k
            have hz := hE.size
            go_wp2_with (at_builtin; refine wp_grow (N := nSS) (wr.alloc (.cells #[.int .i64 s.since, .int .i64 k] 2)) (wr.heap.size + 1) (by simp) rfl (.tmp 43) (.tmp 47) _ rfl w.heap.size 27 24 _ Try.underlying24 infoSS rfl (by decide) (by omega) 2 _ _ hG2 rfl ([s.since, (k : Int)], .slice (some ⟨wr.heap.size, 0, none⟩) 2 2) rfl (by intro u hu; simp [nSS, encSS] at hu; subst hu; rfl) _ rfl rfl (by omega) hu hav hau ?_; intro v' w' hG3 hb3; have e3 := ((bcell ((Ext.tr hE (Ext.new _ _)).trans hb3)).1 b (o + 3) hbw).trans HC3.out)
            go_roundw
            case rel => exact ⟨k + 1, _, by omega, by go_num, by rw [HN.out], by rw [HN.out], hid (by rw [HN.out, List.map_append, HY.out]; rfl), hG3, (Ext.tr hE (Ext.new _ _)).trans hb3⟩
            case measure => simp [intOf]; omega
          · have HN := hid (HA.out.trans (aStep_low_in (t := (k : Int)) hl hin (.inr (by omega))))
            go_wp2
            go_roundw
            case rel => exact ⟨k + 1, ys, by omega, by go_num, by rw [HN.out], by rw [HN.out], hid (by rw [HN.out]; exact HY.out), hG, hE⟩
            case measure => simp [intOf]; omega
        · have HN := hid (HA.out.trans (aStep_low_no (t := (k : Int)) hx4 hl hin))
          have hs1 : s.since = -1 := by omega
          rw [hs1]
          go_wp2
          go_roundw
          case rel => exact ⟨k + 1, ys, by omega, by go_num, by rw [HN.out], by rw [HN.out], hid (by rw [HN.out]; exact HY.out), hG, hE⟩
          case measure => simp [intOf]; omega
    · obtain rfl : k = ns.length := by omega
      have hbd := alarms_bd x ns hx4 hx3
      have HD := hid hbd
      clear hbd
      by_cases hin : 0 ≤ (aTo x ns ns.length).since
      · have HQ := hid (show alarms x ns = (aTo x ns ns.length).acc ++ [[(aTo x ns ns.length).since, (ns.length : Int)]] by unfold alarms aTail; rw [if_pos hin])
        generalize aTo x ns ns.length = s at *
        obtain ⟨hG2, hu, hav, hau⟩ := pair_grow hG s.since ns.length
        go_wp2_with (at_builtin; refine wp_grow (N := nSS) (wr.alloc (.cells #[.int .i64 s.since, .int .i64 ns.length] 2)) (wr.heap.size + 1) (by simp) rfl (.tmp 62) (.tmp 67) _ rfl w.heap.size 27 24 _ Try.underlying24 infoSS rfl (by decide) (by omega) 2 _ _ hG2 rfl ([s.since, (ns.length : Int)], .slice (some ⟨wr.heap.size, 0, none⟩) 2 2) rfl (by intro u hu; simp [nSS, encSS] at hu; subst hu; rfl) _ rfl rfl (by omega) hu hav hau ?_; intro v' w' hG3 hb3)
        go_ret
        refine ⟨⟨_, rfl, GrowN.own hG3 (by rw [List.map_append, HY.out, HQ.out]; rfl) (by have := HD.out; omega) (by have := HD.out; omega)⟩, (Ext.tr hE (Ext.new _ _)).trans hb3⟩
      · have HQ := hid (show alarms x ns = (aTo x ns ns.length).acc by unfold alarms aTail; rw [if_neg hin, List.append_nil])
        have hs1 : (aTo x ns ns.length).since = -1 := by omega
        rw [hs1]
        clear hin hs1
        go_wp2
        go_ret
        refine ⟨⟨_, rfl, GrowN.own hG (by rw [HY.out, HQ.out]) (by have := HD.out; omega) (by have := HD.out; omega)⟩, hE⟩
end Go.Proofs.Ytopjccbjdcoanaa
/- What FirstAlarm tells, and the contract of the note's function. -/
namespace Go.Proofs.Ytopjccbjdcoanaa
set_option linter.unusedVariables false
open Go.RowKit
def badS (ss : List (List Int)) : Bool := ss.any (fun s => !seriesB s)
theorem badS_yes {ss : List (List Int)} (k : Nat) (h : k < ss.length) (hp : seriesB ss[k] = false) : badS ss = true := by
  unfold badS; rw [List.any_eq_true]; exact ⟨ss[k], List.getElem_mem h, by rw [hp]; rfl⟩
theorem badS_no {ss : List (List Int)} (h : ∀ j (hj : j < ss.length), seriesB ss[j] = true) : badS ss = false := any_no fun j hj => by rw [h j hj]; rfl
theorem badS_at {ss : List (List Int)} (h : badS ss = false) (k : Nat) (hk : k < ss.length) : seriesB ss[k] = true := by
  cases hp : seriesB ss[k]
  · rw [badS_yes k hk hp] at h; cases h
  · rfl
def fst_ (a : List (List Int)) : Int := (a.headD []).headD 0
def fStep (p : Int × Int) (k : Nat) (a : List (List Int)) : Int × Int := if a = [] then p else if p.1 < 0 ∨ fst_ a < p.2 then (k, fst_ a) else p
theorem fStep_nil {p : Int × Int} {k : Nat} {a : List (List Int)} (h : a = []) : fStep p k a = p := by unfold fStep; rw [if_pos h]
theorem fStep_set {p : Int × Int} {k : Nat} {a : List (List Int)} (h : ¬ a = []) (h2 : p.1 < 0 ∨ fst_ a < p.2) : fStep p k a = ((k : Int), fst_ a) := by unfold fStep; rw [if_neg h, if_pos h2]
theorem fStep_keep {p : Int × Int} {k : Nat} {a : List (List Int)} (h : ¬ a = []) (h2 : ¬ (p.1 < 0 ∨ fst_ a < p.2)) : fStep p k a = p := by unfold fStep; rw [if_neg h, if_neg h2]
def fAl (xs : List Sensor) (ss : List (List Int)) (k : Nat) : List (List Int) := match xs[k]?, ss[k]? with
  | some x, some s => alarms x s
  | _, _ => []
def fTo (xs : List Sensor) (ss : List (List Int)) : Nat → Int × Int
  | 0 => (-1, 0)
  | k + 1 => fStep (fTo xs ss k) k (fAl xs ss k)
theorem fTo_succ (xs : List Sensor) (ss : List (List Int)) (k : Nat) (h1 : k < xs.length) (h2 : k < ss.length) : fTo xs ss (k + 1) = fStep (fTo xs ss k) k (alarms xs[k] ss[k]) := by
  rw [fTo, fAl, List.getElem?_eq_getElem h1, List.getElem?_eq_getElem h2]
theorem alarms_hd (x : Sensor) (ns : List Int) (hd : 1 ≤ x.delay) (hr : x.release ≤ x.limit) (h : ¬ alarms x ns = []) : ¬ (alarms x ns).headD [] = [] := by
  obtain ⟨_, _, _, h6⟩ := aTo_bd x ns hd hr ns.length
  have hall : ∀ a ∈ alarms x ns, a.length = 2 := fun a ha => by
    unfold alarms aTail at ha
    rw [List.mem_append] at ha
    rcases ha with ha | ha
    · exact h6 a ha
    · split at ha
      · simp at ha; subst ha; rfl
      · simp at ha
  generalize alarms x ns = l at *
  match l, h with
  | a :: l, _ =>
    intro h0
    have := hall a (List.mem_cons_self ..)
    simp at h0
    rw [h0] at this
    cases this
def firR (xs : List Sensor) (ss : List (List Int)) : Int × Int × Int :=
  if sensorsB xs then (if ss.length = xs.length ∧ badS ss = false then (if (fTo xs ss xs.length).1 < 0 then (0, 0, 3) else ((fTo xs ss xs.length).1, (fTo xs ss xs.length).2, 0)) else (0, 0, 2)) else (0, 0, 1)
theorem firR_a {xs : List Sensor} {ss : List (List Int)} (h : sensorsB xs = false) : firR xs ss = (0, 0, 1) := by unfold firR; rw [h]; rfl
theorem firR_b {xs : List Sensor} {ss : List (List Int)} (h : sensorsB xs = true) (h2 : ¬ ss.length = xs.length) : firR xs ss = (0, 0, 2) := by unfold firR; rw [h, if_pos rfl, if_neg (fun h => h2 h.1)]
theorem firR_c {xs : List Sensor} {ss : List (List Int)} (h : sensorsB xs = true) (h2 : badS ss = true) : firR xs ss = (0, 0, 2) := by unfold firR; rw [h, if_pos rfl, if_neg (fun h => by have := h.2; rw [h2] at this; cases this)]
theorem firR_d {xs : List Sensor} {ss : List (List Int)} (h : sensorsB xs = true) (h2 : ss.length = xs.length) (h3 : badS ss = false) (h4 : (fTo xs ss xs.length).1 < 0) : firR xs ss = (0, 0, 3) := by unfold firR; rw [h, if_pos rfl, if_pos ⟨h2, h3⟩, if_pos h4]
theorem firR_e {xs : List Sensor} {ss : List (List Int)} (h : sensorsB xs = true) (h2 : ss.length = xs.length) (h3 : badS ss = false) (h4 : ¬ (fTo xs ss xs.length).1 < 0) : firR xs ss = ((fTo xs ss xs.length).1, (fTo xs ss xs.length).2, 0) := by unfold firR; rw [h, if_pos rfl, if_pos ⟨h2, h3⟩, if_neg h4]
theorem sensors_len {xs : List Sensor} (h : sensorsB xs = true) : xs.length ≤ 16 := by unfold sensorsB at h; simp at h; exact h.1
theorem sensors_at {xs : List Sensor} (h : sensorsB xs = true) (k : Nat) (hk : k < xs.length) : sensorB xs[k] = true := by unfold sensorsB at h; simp only [Bool.and_eq_true] at h; exact allOk_p h.2 k hk
theorem SS.nil {lo hi : Nat} {w : World} {v : Value} {a : List (List Int)} (h : SlSS lo hi w v a) (ha : a = []) : ∃ A c, v = .slice A 0 c := by
  subst ha
  obtain ⟨ys, _, ⟨_, _, A, c, rfl, _⟩, _⟩ := h.opn
  exact ⟨A, c, rfl⟩
theorem SS.head {lo hi : Nat} {w : World} {v : Value} {a : List (List Int)} (h : SlSS lo hi w v a) (ha : ¬ a = []) (hd : ¬ a.headD [] = []) :
    ∃ (b o n c b2 o2 n2 c2 : Nat), v = .slice (some ⟨b, o, none⟩) n c ∧ 0 < n ∧ w.cell? ⟨b, o, none⟩ = some (.slice (some ⟨b2, o2, none⟩) n2 c2) ∧ 0 < n2 ∧ w.cell? ⟨b2, o2, none⟩ = some (.int .i64 (fst_ a)) := by
  obtain ⟨ys, hys, ⟨hhi, _, A, c, rfl, hnc, hcm, hcell⟩, hin⟩ := h.opn
  have hl : 0 < a.length := List.length_pos_iff.2 ha
  obtain ⟨b, off, rfl, hb1, hb2, hc⟩ := hcell hl
  obtain ⟨A2, c2, e0, hu⟩ := SS.at_ hys hin hc (Below.refl _ _) (by omega) 0 hl
  have he : a.headD [] = a[0] := by cases a with
    | nil => cases hl
    | cons x l => rfl
  rw [he] at hd
  have hl2 : 0 < a[0].length := List.length_pos_iff.2 hd
  obtain ⟨_, _, A3, c3, q3, _, _, hcell3⟩ := hu
  simp only [Value.slice.injEq] at q3
  obtain ⟨rfl, _, rfl⟩ := q3
  obtain ⟨b3, o3, rfl, hb3, hb4, hc3⟩ := hcell3 hl2
  have e1 := cellsI hc3 0 hl2
  refine ⟨b, off, _, c, b3, o3, _, c2, rfl, hl, e0, hl2, e1.trans ?_⟩
  unfold fst_
  rw [he]
  generalize a[0] = l at *
  cases l with
  | nil => cases hl2
  | cons x l => rfl
set_option maxRecDepth 100000 in
set_option maxHeartbeats 2000000 in
theorem specFirstAlarm (xs : List Sensor) (ss : List (List Int)) (lo hi lo2 hi2 : Nat) (v v2 : Value) (w : World) (hv : Sl lo hi w 5 v xs.length (flat Sensor.enc xs)) (hs : ∀ x ∈ xs, x.id.size ≤ maxLen) (hn : xs.length ≤ 1048576) (hv2 : SlSS lo2 hi2 w v2 ss) (hn2 : totN nSS ss + ss.length ≤ 1048576) :
    Calls Try.prog 32 #[v, v2] w fun e w' => e = .returned (.tuple #[.int .i64 (firR xs ss).1, .int .i64 (firR xs ss).2.1, .int .i64 (firR xs ss).2.2]) ∧ Ext w w' := by
  have hv0 := hv
  obtain ⟨hhi, _, A, c, rfl, hnc, hcm, hcell⟩ := hv0
  obtain ⟨ys, hys, ⟨hhi2, _, A2, c2, rfl, hnc2, hcm2, hcell2⟩, hin⟩ := hv2.opn
  have HY := hid hys
  have HT := hid (fun k (hk : k < ss.length) => (show ss[k].length ≤ totN nSS ss from totN_mem nSS ss k hk))
  clear hys hv2
  cases h1 : sensorsB xs
  · have HQ := hid (firR_a (ss := ss) h1)
    go_enter Try.func32, Try.ntmps32
    go_wp2_with (go_at_call 76; refine (cv (sensorsS xs lo hi _ _ hv hs hn) (vb h1)).mono ?_; rintro e w1 ⟨rfl, hE⟩)
    go_ret3
    exact ⟨by rw [HQ.out]; rfl, hE⟩
  have h16 := sensors_len h1
  by_cases h2 : ss.length = xs.length
  case neg =>
    have HQ := hid (firR_b h1 h2)
    have h2' : ¬ (ss.length : Int) = xs.length := by omega
    go_enter Try.func32, Try.ntmps32
    go_wp2_with (go_at_call 76; refine (cv (sensorsS xs lo hi _ _ hv hs hn) (vb h1)).mono ?_; rintro e w1 ⟨rfl, hE⟩)
    go_ret3
    exact ⟨by rw [HQ.out]; rfl, hE⟩
  have HS := hid h1
  have H2 := hid h2
  rw [h2]
  clear h2
  go_enter Try.func32, Try.ntmps32
  go_wp2_with (go_at_call 76; refine (cv (sensorsS xs lo hi _ _ hv hs hn) (vb h1)).mono ?_; rintro e w1 ⟨rfl, hE⟩)
  go_loopw [7] (fun i wr => ∃ k : Nat, k ≤ xs.length ∧ i = .int .i64 k ∧ Hid (∀ j (h : j < ss.length), j < k → seriesB ss[j] = true) ∧ Ext w wr) (fun i _ => xs.length - (intOf i).toNat)
  case atStart => exact ⟨0, Nat.zero_le _, rfl, hid (fun j h hj => absurd hj (by omega)), hE⟩
  case round =>
    obtain ⟨k, hk, rfl, hall, hE2⟩ := hrel
    by_cases hlt : k < xs.length
    · have hlt2 : k < ss.length := by have := H2.out; omega
      obtain ⟨b, off, rfl, hb1, hb2, hc⟩ := hcell2 (by omega)
      obtain ⟨Au, cu, c0, hu⟩ := SS.at_ HY.out hin hc hE2 (by omega) k hlt2
      have hq := HT.out k hlt2
      clear hc hcell hcell2
      cases hp : seriesB ss[k]
      · have HQ := hid (firR_c HS.out (badS_yes k hlt2 hp))
        go_wp2_with (go_at_call 77; refine (cv (l24Series ss[k] _ _ _ _ hu (by omega)) (vb hp)).mono ?_; rintro e w' ⟨rfl, rfl⟩)
        go_ret3
        exact ⟨by rw [HQ.out]; rfl, hE2⟩
      · go_wp2_with (go_at_call 77; refine (cv (l24Series ss[k] _ _ _ _ hu (by omega)) (vb hp)).mono ?_; rintro e w' ⟨rfl, rfl⟩)
        go_roundw
        case rel => exact ⟨k + 1, by omega, by go_num, hid (fun j h hj => by rcases Nat.lt_succ_iff_lt_or_eq.1 hj with h1 | rfl; exact hall.out j h h1; exact hp), hE2⟩
        case measure => simp [intOf]; omega
    · obtain rfl : k = xs.length := by omega
      have HB := hid (badS_no fun j h => hall.out j h (by have := H2.out; omega))
      go_wp2
      go_loopw [8, 9, 10] (fun p q i wr => ∃ k : Nat, k ≤ xs.length ∧ i = .int .i64 k ∧ p = .int .i64 (fTo xs ss k).1 ∧ q = .int .i64 (fTo xs ss k).2 ∧ Ext w wr) (fun _ _ i _ => xs.length - (intOf i).toNat)
      case atStart => exact ⟨0, Nat.zero_le _, rfl, rfl, rfl, hE2⟩
      case round =>
        obtain ⟨k, hk, rfl, rfl, rfl, hE3⟩ := hrel
        by_cases hlt : k < xs.length
        · have hlt2 : k < ss.length := by have := H2.out; omega
          have hki : (k : Int) < xs.length := by omega
          obtain ⟨b, off, rfl, hb1, hb2, hc⟩ := hcell (by omega)
          obtain ⟨b2, off2, rfl, hb3, hb4, hc2⟩ := hcell2 (by omega)
          obtain ⟨Au, cu, c0, hu⟩ := SS.at_ HY.out hin hc2 hE3 (by omega) k hlt2
          have hbw : b < w.heap.size := by omega
          have hz3 := hE3.size
          have HA : ∀ W, Ext wr W → Sensor.At W b (off + k * 5) xs[k] := fun W hW => Sensor.at_of hc (Ext.tr hE3 hW) hbw k hlt
          have HU : ∀ W, Ext wr W → Sl lo2 hi2 W 1 (.slice Au ss[k].length cu) ss[k].length (flat encI ss[k]) := fun W hW => hu.ext hW
          have y0 : ∀ W, Ext wr W → W.cell? ⟨b2, off2 + k, none⟩ = some (.slice Au ss[k].length cu) := fun W hW => ((bcell hW).1 b2 (off2 + k) (by omega)).trans c0
          have hbz : ∀ W, Ext wr W → b < W.heap.size := fun W hW => by have := hW.size; omega
          have hsr := badS_at HB.out k hlt2
          have hx := sensors_at HS.out k hlt
          have hxx := sensorB_le hx
          have hah := alarms_hd xs[k] ss[k] hxx.2.2.2.1 hxx.2.2.1
          have HF := hid (fTo_succ xs ss k hlt hlt2)
          have HX := hid hx
          have HR := hid hsr
          clear hc hc2 hcell hcell2 c0 hu hxx hx hsr
          generalize fTo xs ss k = p at *
          by_cases ha : alarms xs[k] ss[k] = []
          · have HF2 := hid (HF.out.trans (fStep_nil ha))
            go_wp2_with fail
            go_region_held3 (fun W => Ext wr W) (first | assumption | exact Ext.drewN _ 1 | exact Ext.tr (by assumption) hE9) (first | (go_at_call 70; refine (l24AlarmsO xs[k] ss[k] b (off + k * 5) _ _ _ _ HX.out (hbz _ (by assumption)) (HA _ (by assumption)).2.2.1 (HA _ (by assumption)).2.2.2.1 (HA _ (by assumption)).2.2.2.2 (HU _ (by assumption)) HR.out).mono ?_; rintro e w9 ⟨⟨v9, rfl, ho9⟩, hE9⟩; obtain ⟨A9, c9, rfl⟩ := SS.nil ho9.sl ha))
            all_goals
              go_wp2
              go_roundw
              case rel => exact ⟨k + 1, by omega, by go_num, by rw [HF2.out], by rw [HF2.out], Ext.tr hE3 (by assumption)⟩
              case measure => simp [intOf]; omega
          have hb1 := hah ha
          by_cases hp : p.1 < 0
          · have HF2 := hid (HF.out.trans (fStep_set ha (.inl hp)))
            go_wp2_with fail
            go_region_held3 (fun W => Ext wr W) (first | assumption | exact Ext.drewN _ 1 | exact Ext.tr (by assumption) hE9) (first | (go_at_call 70; refine (l24AlarmsO xs[k] ss[k] b (off + k * 5) _ _ _ _ HX.out (hbz _ (by assumption)) (HA _ (by assumption)).2.2.1 (HA _ (by assumption)).2.2.2.1 (HA _ (by assumption)).2.2.2.2 (HU _ (by assumption)) HR.out).mono ?_; rintro e w9 ⟨⟨v9, rfl, ho9⟩, hE9⟩; obtain ⟨b9, o9, n9, c9, b8, o8, n8, c8, rfl, hn9, d9, hn8, d8⟩ := SS.head ho9.sl ha hb1))
            all_goals
              go_wp2
              go_roundw
              case rel => exact ⟨k + 1, by omega, by go_num, by rw [HF2.out], by rw [HF2.out], Ext.tr hE3 (by assumption)⟩
              case measure => simp [intOf]; omega
          by_cases hq : fst_ (alarms xs[k] ss[k]) < p.2
          · have HF2 := hid (HF.out.trans (fStep_set ha (.inr hq)))
            go_wp2_with fail
            go_region_held3 (fun W => Ext wr W) (first | assumption | exact Ext.drewN _ 1 | exact Ext.tr (by assumption) hE9) (first | (go_at_call 70; refine (l24AlarmsO xs[k] ss[k] b (off + k * 5) _ _ _ _ HX.out (hbz _ (by assumption)) (HA _ (by assumption)).2.2.1 (HA _ (by assumption)).2.2.2.1 (HA _ (by assumption)).2.2.2.2 (HU _ (by assumption)) HR.out).mono ?_; rintro e w9 ⟨⟨v9, rfl, ho9⟩, hE9⟩; obtain ⟨b9, o9, n9, c9, b8, o8, n8, c8, rfl, hn9, d9, hn8, d8⟩ := SS.head ho9.sl ha hb1))
            all_goals
              go_wp2
              go_roundw
              case rel => exact ⟨k + 1, by omega, by go_num, by rw [HF2.out], by rw [HF2.out], Ext.tr hE3 (by assumption)⟩
              case measure => simp [intOf]; omega
          · have HF2 := hid (HF.out.trans (fStep_keep ha (fun h => h.elim hp hq)))
            go_wp2_with fail
            go_region_held3 (fun W => Ext wr W) (first | assumption | exact Ext.drewN _ 1 | exact Ext.tr (by assumption) hE9) (first | (go_at_call 70; refine (l24AlarmsO xs[k] ss[k] b (off + k * 5) _ _ _ _ HX.out (hbz _ (by assumption)) (HA _ (by assumption)).2.2.1 (HA _ (by assumption)).2.2.2.1 (HA _ (by assumption)).2.2.2.2 (HU _ (by assumption)) HR.out).mono ?_; rintro e w9 ⟨⟨v9, rfl, ho9⟩, hE9⟩; obtain ⟨b9, o9, n9, c9, b8, o8, n8, c8, rfl, hn9, d9, hn8, d8⟩ := SS.head ho9.sl ha hb1))
            all_goals
              go_wp2
              go_roundw
              case rel => exact ⟨k + 1, by omega, by go_num, by rw [HF2.out], by rw [HF2.out], Ext.tr hE3 (by assumption)⟩
              case measure => simp [intOf]; omega
        · obtain rfl : k = xs.length := by omega
          by_cases h4 : (fTo xs ss xs.length).1 < 0
          · have HQ := hid (firR_d HS.out H2.out HB.out h4)
            go_wp2
            go_ret3
            exact ⟨by rw [HQ.out]; rfl, hE3⟩
          · have HQ := hid (firR_e HS.out H2.out HB.out h4)
            go_wp2
            go_ret3
            exact ⟨by rw [HQ.out]; rfl, hE3⟩
end Go.Proofs.Ytopjccbjdcoanaa
/- What the first alarm is: the plain law. No program in sight. -/
namespace Go.Proofs.Ytopjccbjdcoanaa
set_option linter.unusedVariables false
open Go.RowKit
def FInv (xs : List Sensor) (ss : List (List Int)) (n : Nat) (p : Int × Int) : Prop :=
  (p = (-1, 0) ∧ ∀ j, j < n → fAl xs ss j = []) ∨ ∃ k : Nat, p.1 = k ∧ k < n ∧ fAl xs ss k ≠ [] ∧ fst_ (fAl xs ss k) = p.2 ∧ ∀ j, j < n → fAl xs ss j ≠ [] → p.2 ≤ fst_ (fAl xs ss j)
theorem fInv (xs : List Sensor) (ss : List (List Int)) : ∀ n, FInv xs ss n (fTo xs ss n)
  | 0 => .inl ⟨rfl, fun j h => by omega⟩
  | n + 1 => by
    have ih := fInv xs ss n
    show FInv xs ss (n + 1) (fStep (fTo xs ss n) n (fAl xs ss n))
    generalize fTo xs ss n = p at *
    by_cases h : fAl xs ss n = []
    · rw [fStep_nil h]
      rcases ih with ⟨h0, h1⟩ | ⟨k, h1, h2, h3, h4, h5⟩
      · exact .inl ⟨h0, fun j hj => by
          rcases Nat.lt_succ_iff_lt_or_eq.1 hj with h2 | rfl
          · exact h1 j h2
          · exact h⟩
      · exact .inr ⟨k, h1, by omega, h3, h4, fun j hj hn => by
          rcases Nat.lt_succ_iff_lt_or_eq.1 hj with h6 | rfl
          · exact h5 j h6 hn
          · exact absurd h hn⟩
    · by_cases h6 : p.1 < 0 ∨ fst_ (fAl xs ss n) < p.2
      · rw [fStep_set h h6]
        refine .inr ⟨n, rfl, by omega, h, rfl, fun j hj hn => ?_⟩
        rcases Nat.lt_succ_iff_lt_or_eq.1 hj with h2 | rfl
        · rcases ih with ⟨_, h1⟩ | ⟨k, h1, _, _, _, h5⟩
          · exact absurd (h1 j h2) hn
          · have := h5 j h2 hn
            simp only
            rcases h6 with h6 | h6 <;> omega
        · exact Int.le_refl _
      · rw [fStep_keep h h6]
        rcases ih with ⟨h0, _⟩ | ⟨k, h1, h2, h3, h4, h5⟩
        · exact absurd (.inl (by rw [h0]; decide)) h6
        · exact .inr ⟨k, h1, by omega, h3, h4, fun j hj hn => by
            rcases Nat.lt_succ_iff_lt_or_eq.1 hj with h7 | rfl
            · exact h5 j h7 hn
            · omega⟩
theorem fAl_at {xs : List Sensor} {ss : List (List Int)} {k : Nat} (h1 : k < xs.length) (h2 : k < ss.length) : fAl xs ss k = alarms xs[k] ss[k] := by
  unfold fAl; rw [List.getElem?_eq_getElem h1, List.getElem?_eq_getElem h2]
/-- where it has one: the index, the minute, and that no other is sooner -/
theorem firR_hit {xs : List Sensor} {ss : List (List Int)} (h : (firR xs ss).2.2 = 0) : sensorsB xs = true ∧ ss.length = xs.length ∧ badS ss = false ∧ ∃ k : Nat, (firR xs ss).1 = k ∧ k < xs.length ∧ fAl xs ss k ≠ [] ∧ fst_ (fAl xs ss k) = (firR xs ss).2.1 ∧ ∀ j, j < xs.length → fAl xs ss j ≠ [] → (firR xs ss).2.1 ≤ fst_ (fAl xs ss j) := by
  cases h1 : sensorsB xs
  · rw [firR_a h1] at h; cases h
  by_cases h2 : ss.length = xs.length
  · cases h3 : badS ss
    · by_cases h4 : (fTo xs ss xs.length).1 < 0
      · rw [firR_d h1 h2 h3 h4] at h; cases h
      · rw [firR_e h1 h2 h3 h4]
        refine ⟨rfl, h2, rfl, ?_⟩
        rcases fInv xs ss xs.length with ⟨h0, _⟩ | ⟨k, a⟩
        · rw [h0] at h4; exact absurd (by decide) h4
        · exact ⟨k, a⟩
    · rw [firR_c h1 h3] at h; cases h
  · rw [firR_b h1 h2] at h; cases h
theorem firR_miss {xs : List Sensor} {ss : List (List Int)} (h : ¬ (firR xs ss).2.2 = 0) : (firR xs ss).1 = 0 ∧ (firR xs ss).2.1 = 0 := by
  cases h1 : sensorsB xs
  · rw [firR_a h1]; exact ⟨rfl, rfl⟩
  by_cases h2 : ss.length = xs.length
  · cases h3 : badS ss
    · by_cases h4 : (fTo xs ss xs.length).1 < 0
      · rw [firR_d h1 h2 h3 h4]; exact ⟨rfl, rfl⟩
      · rw [firR_e h1 h2 h3 h4] at h; exact absurd rfl h
    · rw [firR_c h1 h3]; exact ⟨rfl, rfl⟩
  · rw [firR_b h1 h2]; exact ⟨rfl, rfl⟩
end Go.Proofs.Ytopjccbjdcoanaa
/- The contract of the program's FirstAlarm. -/
namespace Go.Proofs.Ytopjccbjdcoanaa
set_option linter.unusedVariables false
open Go.RowKit
theorem cell_lt {w : World} {a : Addr} {v : Value} (h : w.cell? a = some v) : a.block < w.heap.size := by
  unfold World.cell? at h
  split at h
  · rename_i he
    exact (Array.getElem?_eq_some_iff.1 he).1
  · cases h
theorem badCl (s : List Int) (lo hi : Nat) (v : Value) (w : World) (hv : Sl lo hi w 1 v s.length (flat encI s)) (hn : s.length ≤ 1048576) :
    Calls Try.prog 66 #[v] w fun e w' => e = .returned (.bool (!seriesB s)) ∧ Ext w w' := by
  go_enter Try.func66, Try.ntmps66
  go_wp2_with (go_at_call 67; refine (seriesOk s lo hi _ _ hv hn).mono ?_; rintro e w2 ⟨rfl, hE2⟩)
  go_ret
  exact ⟨rfl, hE2⟩
set_option maxRecDepth 100000 in
theorem idxBad (ss : List (List Int)) (lo hi : Nat) (v : Value) (w : World) (hv : SlSS lo hi w v ss) (hn2 : totN nSS ss + ss.length ≤ 1048576) :
    Calls Try.prog 89 #[v, .func (.func 66) #[] #[]] w fun e w' => idxP (badS ss) e ∧ Ext w w' := by
  obtain ⟨ys, hys, ⟨hhi, _, A, c, rfl, hnc, hcm, hcell⟩, hin⟩ := hv.opn
  have HY := hid hys
  have HT := hid (fun k (hk : k < ss.length) => (show ss[k].length ≤ totN nSS ss from totN_mem nSS ss k hk))
  clear hys hv
  go_enter Try.func89, Try.ntmps89
  go_wp2
  go_loopw [8] (fun i wr => ∃ k : Nat, k ≤ ss.length ∧ i = .int .i64 k ∧ Hid (∀ j (h : j < ss.length), j < k → seriesB ss[j] = true) ∧ Ext w wr) (fun i _ => ss.length - (intOf i).toNat)
  case atStart => exact ⟨0, Nat.zero_le _, rfl, hid (fun j h hj => absurd hj (by omega)), Below.refl _ _⟩
  case round =>
    obtain ⟨k, hk, rfl, hall, hE⟩ := hrel
    by_cases hlt : k < ss.length
    · obtain ⟨b, off, rfl, hb1, hb2, hc⟩ := hcell (by omega)
      obtain ⟨Au, cu, c0, hu⟩ := SS.at_ HY.out hin hc hE (by omega) k hlt
      have hq := HT.out k hlt
      clear hc hcell
      cases hp : seriesB ss[k]
      · have HQ := hid (badS_yes k hlt hp)
        have hp2 : (!seriesB ss[k]) = true := by rw [hp]; rfl
        go_wp2_with (go_at_call 66; refine (cv (badCl ss[k] _ _ _ _ hu (by omega)) (vb hp2)).mono ?_; rintro e w2 ⟨rfl, hE2⟩)
        go_ret
        exact ⟨idxP_yes k HQ.out, Ext.tr hE hE2⟩
      · have hp2 : (!seriesB ss[k]) = false := by rw [hp]; rfl
        go_wp2_with (go_at_call 66; refine (cv (badCl ss[k] _ _ _ _ hu (by omega)) (vb hp2)).mono ?_; rintro e w2 ⟨rfl, hE2⟩)
        go_roundw
        case rel => exact ⟨k + 1, by omega, by go_num, hid (fun j h hj => by rcases Nat.lt_succ_iff_lt_or_eq.1 hj with h1 | rfl; exact hall.out j h h1; exact hp), Ext.tr hE hE2⟩
        case measure => simp [intOf]; omega
    · obtain rfl : k = ss.length := by omega
      go_wp2
      go_ret
      exact ⟨idxP_no (badS_no fun j h => hall.out j h h), hE⟩
theorem anyBad (ss : List (List Int)) (lo hi : Nat) (v : Value) (w : World) (hv : SlSS lo hi w v ss) (hn2 : totN nSS ss + ss.length ≤ 1048576) :
    Calls Try.prog 51 #[v, .func (.func 66) #[] #[]] w fun e w' => e = .returned (.bool (badS ss)) ∧ Ext w w' := by
  go_enter Try.func51, Try.ntmps51
  go_wp2_with (go_at_call 89; refine (idxBad ss lo hi v _ hv hn2).mono ?_; rintro e w' ⟨⟨r, rfl, hr⟩, hE⟩)
  all_goals
    go_ret
    refine ⟨ret_bool ?_, hE⟩
    go_tidy
    cases hA : badS ss <;> rw [hA] at hr <;> simp at hr ⊢ <;> omega
set_option maxRecDepth 100000 in
set_option maxHeartbeats 2000000 in
theorem implFirstAlarm (xs : List Sensor) (ss : List (List Int)) (lo hi lo2 hi2 : Nat) (v v2 : Value) (w : World) (hv : Sl lo hi w 5 v xs.length (flat Sensor.enc xs)) (hs : ∀ x ∈ xs, x.id.size ≤ maxLen) (hn : xs.length ≤ 1048576) (hv2 : SlSS lo2 hi2 w v2 ss) (hn2 : totN nSS ss + ss.length ≤ 1048576) :
    Calls Try.prog 16 #[v, v2] w fun e w' => e = .returned (.tuple #[.int .i64 (firR xs ss).1, .int .i64 (firR xs ss).2.1, .int .i64 (firR xs ss).2.2]) ∧ Ext w w' := by
  have hv0 := hv
  obtain ⟨hhi, _, A, c, rfl, hnc, hcm, hcell⟩ := hv0
  have hv20 := hv2
  obtain ⟨ys, hys, ⟨hhi2, _, A2, c2, rfl, hnc2, hcm2, hcell2⟩, hin⟩ := hv20.opn
  have HY := hid hys
  have HV2 := hid hv2
  clear hys hv20
  cases h1 : sensorsB xs
  · have HQ := hid (firR_a (ss := ss) h1)
    go_enter Try.func16, Try.ntmps16
    go_wp2_with (go_at_call 65; refine (cv (sensorsI xs lo hi _ _ hv hs hn) (vb h1)).mono ?_; rintro e w1 ⟨rfl, hE⟩)
    go_ret3
    exact ⟨by rw [HQ.out]; rfl, hE⟩
  have h16 := sensors_len h1
  by_cases h2 : ss.length = xs.length
  case neg =>
    have HQ := hid (firR_b h1 h2)
    have h2' : ¬ (ss.length : Int) = xs.length := by omega
    go_enter Try.func16, Try.ntmps16
    go_wp2_with (go_at_call 65; refine (cv (sensorsI xs lo hi _ _ hv hs hn) (vb h1)).mono ?_; rintro e w1 ⟨rfl, hE⟩)
    go_ret3
    exact ⟨by rw [HQ.out]; rfl, hE⟩
  have HS := hid h1
  have H2 := hid h2
  rw [h2] at hv2 ⊢
  clear h2
  cases hB : badS ss
  case true =>
    have HQ := hid (firR_c HS.out hB)
    go_enter Try.func16, Try.ntmps16
    go_wp2_with (first | (go_at_call 65; refine (cv (sensorsI xs lo hi _ _ hv hs hn) (vb h1)).mono ?_; rintro e w1 ⟨rfl, hE⟩) | (go_at_call 51; refine (cv (anyBad ss lo2 hi2 _ _ (SlN.ext hv2 hE) hn2) (vb hB)).mono ?_; rintro e w2 ⟨rfl, hE2⟩))
    go_ret3
    exact ⟨by rw [HQ.out]; rfl, Ext.tr hE hE2⟩
  have HB := hid hB
  go_enter Try.func16, Try.ntmps16
  go_wp2_with (first | (go_at_call 65; refine (cv (sensorsI xs lo hi _ _ hv hs hn) (vb h1)).mono ?_; rintro e w1 ⟨rfl, hE⟩) | (go_at_call 51; refine (cv (anyBad ss lo2 hi2 _ _ (SlN.ext hv2 hE) hn2) (vb hB)).mono ?_; rintro e w2 ⟨rfl, hE2⟩))
  replace hE := Ext.tr hE hE2
  go_loopw [7, 8, 28] (fun p q i wr => ∃ k : Nat, k ≤ xs.length ∧ i = .int .i64 k ∧ p = .int .i64 (fTo xs ss k).1 ∧ q = .int .i64 (fTo xs ss k).2 ∧ Ext w wr) (fun _ _ i _ => xs.length - (intOf i).toNat)
  case atStart => exact ⟨0, Nat.zero_le _, rfl, rfl, rfl, hE⟩
  case round =>
    obtain ⟨k, hk, rfl, rfl, rfl, hE3⟩ := hrel
    by_cases hlt : k < xs.length
    · have hlt2 : k < ss.length := by have := H2.out; omega
      have hki : (k : Int) < xs.length := by omega
      obtain ⟨b, off, rfl, hb1, hb2, hc⟩ := hcell (by omega)
      obtain ⟨b2, off2, rfl, hb3, hb4, hc2⟩ := hcell2 (by omega)
      have hbw : b < w.heap.size := by omega
      have hb2w : b2 < w.heap.size := by omega
      obtain ⟨c0, c1, c2', c3, c4⟩ := Sensor.at_of hc hE3 hbw k hlt
      have hsr := badS_at HB.out k hlt2
      have hx := sensors_at HS.out k hlt
      have hxx := sensorB_le hx
      have hah := alarms_hd xs[k] ss[k] hxx.2.2.2.1 hxx.2.2.1
      have HF := hid (fTo_succ xs ss k hlt hlt2)
      have HX := hid hx
      have HR := hid hsr
      clear hxx hx hsr
      generalize fTo xs ss k = p at *
      go_wp2_with fail
      generalize hA : wr.alloc _ = B
      have hEB : Ext wr B := by rw [← hA]; exact Ext.new _ _
      have hBz : wr.heap.size < B.heap.size := by rw [← hA]; simp
      have x0 : ∀ W, Ext B W → W.cell? ⟨wr.heap.size, 0, none⟩ = some (.string xs[k].id) := fun W hW => (hW.cell (p := ⟨wr.heap.size, 0, none⟩) hBz).trans (by rw [← hA]; simp)
      have x1 : ∀ W, Ext B W → W.cell? ⟨wr.heap.size, 1, none⟩ = some (.int .i64 xs[k].junction) := fun W hW => (hW.cell (p := ⟨wr.heap.size, 1, none⟩) hBz).trans (by rw [← hA]; simp)
      have x2 : ∀ W, Ext B W → W.cell? ⟨wr.heap.size, 2, none⟩ = some (.int .i64 xs[k].limit) := fun W hW => (hW.cell (p := ⟨wr.heap.size, 2, none⟩) hBz).trans (by rw [← hA]; simp)
      have x3 : ∀ W, Ext B W → W.cell? ⟨wr.heap.size, 3, none⟩ = some (.int .i64 xs[k].delay) := fun W hW => (hW.cell (p := ⟨wr.heap.size, 3, none⟩) hBz).trans (by rw [← hA]; simp)
      have x4 : ∀ W, Ext B W → W.cell? ⟨wr.heap.size, 4, none⟩ = some (.int .i64 xs[k].release) := fun W hW => (hW.cell (p := ⟨wr.heap.size, 4, none⟩) hBz).trans (by rw [← hA]; simp)
      clear hA c0 c1 c2' c3 c4
      have hE4 := Ext.tr hE3 hEB
      obtain ⟨Au, cu, c0, hu⟩ := SS.at_ HY.out hin hc2 hE4 hb2w k hlt2
      have hz4 := hE4.size
      have HU : ∀ W, Ext B W → Sl lo2 hi2 W 1 (.slice Au ss[k].length cu) ss[k].length (flat encI ss[k]) := fun W hW => hu.ext hW
      have y0 : ∀ W, Ext B W → W.cell? ⟨b2, off2 + k, none⟩ = some (.slice Au ss[k].length cu) := fun W hW => ((bcell hW).1 b2 (off2 + k) (by omega)).trans c0
      clear hc hc2 hcell hcell2 c0 hu
      by_cases ha : alarms xs[k] ss[k] = []
      · have HF2 := hid (HF.out.trans (fStep_nil ha))
        go_region_held3 (fun W => Ext B W) (first | assumption | exact Ext.drewN _ 1 | exact Ext.tr (by assumption) hE9) (first | (go_at_call 68; refine (implAlarms xs[k] ss[k] _ _ _ _ HX.out (HU _ (by assumption)) HR.out).mono ?_; rintro e w9 ⟨⟨v9, rfl, ho9⟩, hE9⟩; obtain ⟨A9, c9, rfl⟩ := SS.nil ho9.sl ha))
        all_goals
          go_wp2
          go_roundw
          case rel => exact ⟨k + 1, by omega, by go_num, by rw [HF2.out], by rw [HF2.out], Ext.tr hE4 (by assumption)⟩
          case measure => simp [intOf]; omega
      have hb9 := hah ha
      by_cases hp : p.1 < 0
      · have HF2 := hid (HF.out.trans (fStep_set ha (.inl hp)))
        go_region_held3 (fun W => Ext B W) (first | assumption | exact Ext.drewN _ 1 | exact Ext.tr (by assumption) hE9) (first | (go_at_call 68; refine (implAlarms xs[k] ss[k] _ _ _ _ HX.out (HU _ (by assumption)) HR.out).mono ?_; rintro e w9 ⟨⟨v9, rfl, ho9⟩, hE9⟩; obtain ⟨b9, o9, n9, c9, b8, o8, n8, c8, rfl, hn9, d9, hn8, d8⟩ := SS.head ho9.sl ha hb9))
        all_goals
          have hS9 : Ext B w9 := by assumption
          have hz9 := ho9.1
          have g9 : ∀ W, Ext w9 W → W.cell? ⟨b9, o9, none⟩ = some (.slice (some ⟨b8, o8, none⟩) n8 c8) := fun W hW => (hW.cell (p := ⟨b9, o9, none⟩) (cell_lt d9)).trans d9
          have g8 : ∀ W, Ext w9 W → W.cell? ⟨b8, o8, none⟩ = some (.int .i64 (fst_ (alarms xs[k] ss[k]))) := fun W hW => (hW.cell (p := ⟨b8, o8, none⟩) (cell_lt d8)).trans d8
          go_wp2_with fail
          go_region_held3 (fun W => Ext w9 W) (first | assumption | exact Ext.drewN _ 1) (fail)
          all_goals
            go_wp2
            go_roundw
            case rel => exact ⟨k + 1, by omega, by go_num, by rw [HF2.out], by rw [HF2.out], Ext.tr hE4 (Ext.tr hS9 (by assumption))⟩
            case measure => simp [intOf]; omega
      by_cases hq : fst_ (alarms xs[k] ss[k]) < p.2
      · have HF2 := hid (HF.out.trans (fStep_set ha (.inr hq)))
        go_region_held3 (fun W => Ext B W) (first | assumption | exact Ext.drewN _ 1 | exact Ext.tr (by assumption) hE9) (first | (go_at_call 68; refine (implAlarms xs[k] ss[k] _ _ _ _ HX.out (HU _ (by assumption)) HR.out).mono ?_; rintro e w9 ⟨⟨v9, rfl, ho9⟩, hE9⟩; obtain ⟨b9, o9, n9, c9, b8, o8, n8, c8, rfl, hn9, d9, hn8, d8⟩ := SS.head ho9.sl ha hb9))
        all_goals
          have hS9 : Ext B w9 := by assumption
          have hz9 := ho9.1
          have g9 : ∀ W, Ext w9 W → W.cell? ⟨b9, o9, none⟩ = some (.slice (some ⟨b8, o8, none⟩) n8 c8) := fun W hW => (hW.cell (p := ⟨b9, o9, none⟩) (cell_lt d9)).trans d9
          have g8 : ∀ W, Ext w9 W → W.cell? ⟨b8, o8, none⟩ = some (.int .i64 (fst_ (alarms xs[k] ss[k]))) := fun W hW => (hW.cell (p := ⟨b8, o8, none⟩) (cell_lt d8)).trans d8
          go_wp2_with fail
          go_region_held3 (fun W => Ext w9 W) (first | assumption | exact Ext.drewN _ 1) (fail)
          all_goals
            go_wp2
            go_roundw
            case rel => exact ⟨k + 1, by omega, by go_num, by rw [HF2.out], by rw [HF2.out], Ext.tr hE4 (Ext.tr hS9 (by assumption))⟩
            case measure => simp [intOf]; omega
      · have HF2 := hid (HF.out.trans (fStep_keep ha (fun h => h.elim hp hq)))
        go_region_held3 (fun W => Ext B W) (first | assumption | exact Ext.drewN _ 1 | exact Ext.tr (by assumption) hE9) (first | (go_at_call 68; refine (implAlarms xs[k] ss[k] _ _ _ _ HX.out (HU _ (by assumption)) HR.out).mono ?_; rintro e w9 ⟨⟨v9, rfl, ho9⟩, hE9⟩; obtain ⟨b9, o9, n9, c9, b8, o8, n8, c8, rfl, hn9, d9, hn8, d8⟩ := SS.head ho9.sl ha hb9))
        all_goals
          go_wp2
          go_roundw
          case rel => exact ⟨k + 1, by omega, by go_num, by rw [HF2.out], by rw [HF2.out], Ext.tr hE4 (by assumption)⟩
          case measure => simp [intOf]; omega
    · obtain rfl : k = xs.length := by omega
      by_cases h4 : (fTo xs ss xs.length).1 < 0
      · have HQ := hid (firR_d HS.out H2.out HB.out h4)
        go_wp2
        go_ret3
        exact ⟨by rw [HQ.out]; rfl, hE3⟩
      · have HQ := hid (firR_e HS.out H2.out HB.out h4)
        go_wp2
        go_ret3
        exact ⟨by rw [HQ.out]; rfl, hE3⟩
end Go.Proofs.Ytopjccbjdcoanaa
/- The program's search: it goes through all sets. -/
namespace Go.Proofs.Ytopjccbjdcoanaa
set_option linter.unusedVariables false
open Go.RowKit
def StI (lv rv sv : Value) (budget : Int) : Array Value := #[lv, rv, .int .i64 budget, sv]
section
variable {w w' : World} {g t : Nat} {lv rv sv : Value} {budget : Int}
theorem StI.cells (h : Blk w g t (StI lv rv sv budget)) : w.cell? ⟨g, 0, none⟩ = some lv ∧ w.cell? ⟨g, 1, none⟩ = some rv ∧ w.cell? ⟨g, 2, none⟩ = some (.int .i64 budget) ∧ w.cell? ⟨g, 3, none⟩ = some sv := ⟨h.cell 0, h.cell 1, h.cell 2, h.cell 3⟩
theorem StI.set1 (h : Blk w g t (StI lv rv sv budget)) (u : Value) : Blk (w.setCell ⟨g, 1, none⟩ u) g t (StI lv u sv budget) := h.set_ 1 _
theorem StI.set2 (h : Blk w g t (StI lv rv sv budget)) (n : Int) : Blk (w.setCell ⟨g, 2, none⟩ (.int .i64 n)) g t (StI lv rv sv n) := h.set_ 2 _
theorem StI.set3 (h : Blk w g t (StI lv rv sv budget)) (u : Value) : Blk (w.setCell ⟨g, 3, none⟩ u) g t (StI lv rv u budget) := h.set_ 3 _
end
/-- what the program's search leaves -/
def PostI (sb : Nat) (lv rv : Value) (set : List Int) (r : SR) (w w' : World) : Prop :=
  ∃ sv', Blk w' sb 78 (StI lv rv sv' r.2.2) ∧ w'.ownsRow (sb + 1) 2 1 sv' (if r.1 then r.2.1 else set).length (flat encI (if r.1 then r.2.1 else set)) ∧ Below sb w w'
theorem postI_no {sb : Nat} {lv rv sv' : Value} {b' : Int} {set st : List Int} {r : SR} {w w' : World} (hr : r = (false, st, b')) (hB : Blk w' sb 78 (StI lv rv sv' b')) (hO : w'.ownsRow (sb + 1) 2 1 sv' set.length (flat encI set)) (hb : Below sb w w') : PostI sb lv rv set r w w' := by
  subst hr; exact ⟨sv', hB, hO, hb⟩
theorem postI_yes {sb : Nat} {lv rv sv' : Value} {b' : Int} {set st : List Int} {r : SR} {w w' : World} (hr : r = (true, st, b')) (hB : Blk w' sb 78 (StI lv rv sv' b')) (hO : w'.ownsRow (sb + 1) 2 1 sv' st.length (flat encI st)) (hb : Below sb w w') : PostI sb lv rv set r w w' := by
  subst hr; exact ⟨sv', hB, hO, hb⟩
theorem postI_open {sb : Nat} {lv rv : Value} {b' : Int} {set st : List Int} {w w' : World} (h : PostI sb lv rv set (false, st, b') w w') :
    ∃ sv', Blk w' sb 78 (StI lv rv sv' b') ∧ w'.ownsRow (sb + 1) 2 1 sv' set.length (flat encI set) ∧ Below sb w w' := h
theorem postI_open1 {sb : Nat} {lv rv : Value} {b' : Int} {set st : List Int} {w w' : World} (h : PostI sb lv rv set (true, st, b') w w') :
    ∃ sv', Blk w' sb 78 (StI lv rv sv' b') ∧ w'.ownsRow (sb + 1) 2 1 sv' st.length (flat encI st) ∧ Below sb w w' := h
/-- the closure answers for a set in every world that keeps what lies below the search -/
def ClOk (R : List Int → Bool) (P sb : Nat) (c1 c2 : Value) (w0 : World) : Prop :=
  ∀ (W : World) (set : List Int) (sv : Value) (lo hi : Nat), Below sb w0 W → Sl lo hi W 1 sv set.length (flat encI set) → Plc P set → set.length ≤ 16 →
    Calls Try.prog 53 #[sv, c1, c2] W fun e w' => e = .returned (.bool (R set)) ∧ Ext W w'
set_option maxRecDepth 100000 in
set_option maxHeartbeats 1000000 in
theorem extI0 (R : List Int → Bool) (P : Nat) (c1 c2 : Value) (sb : Nat) (w0 : World) (hR : ClOk R P sb c1 c2 w0) (frm b : Int) (set : List Int) (lv sv : Value) (w : World) (hw : Below sb w0 w) (hp : Plc P set) (hset : set.length ≤ 16)
    (hB : Blk w sb 78 (StI lv (.func (.func 53) #[] #[c1, c2]) sv b)) (hO : w.ownsRow (sb + 1) 2 1 sv set.length (flat encI set)) (hb : 0 ≤ b ∧ b ≤ 20000) :
    Calls Try.prog 90 #[.pointer (some ⟨sb, 0, none⟩), .int .i64 frm, .int .i64 0] w fun e w' => e = .returned (.bool (ext R P 0 frm.toNat set b).1) ∧ PostI sb lv (.func (.func 53) #[] #[c1, c2]) set (ext R P 0 frm.toNat set b) w w' := by
  obtain ⟨hb0, hb1⟩ := hb
  obtain ⟨A, c, rfl⟩ := own_slice hO
  have HR := hid hR
  have HB1 := hid (StI.set2 hB (b - 1))
  have HO1 := hid (ownsRow_setCell_below hO (a := ⟨sb, 2, none⟩) (Nat.lt_succ_self sb) (.int .i64 (b - 1)))
  have HW : Hid (Below sb w (w.setCell ⟨sb, 2, none⟩ (.int .i64 (b - 1)))) := hid (Below.setCell (Below.refl _ _) (p := ⟨sb, 2, none⟩) (Nat.le_refl _) _)
  have HW0 := hid (hw.trans HW.out)
  have hlt := hB.lt
  obtain ⟨q0, q1, q2, q3⟩ := StI.cells hB
  have f2 := hB.frozen 2
  clear hB hO hw hR
  go_enter Try.func90, Try.ntmps90
  go_wp2
  generalize w.setCell ⟨sb, 2, none⟩ (.int .i64 (b - 1)) = w1 at *
  clear q0 q1 q2 q3 f2
  have HX := hid (show ext R P 0 frm.toNat set b = if 0 ≤ b - 1 ∧ R set = true then (true, set, b - 1) else (false, [], b - 1) from rfl)
  dsimp only [Hid] at HX
  generalize b - 1 = b1 at *
  replace HX := hid HX
  obtain ⟨q0, q1, q2, q3⟩ := StI.cells HB1.out
  by_cases h1 : 0 ≤ b1
  · have hd : decide (0 ≤ b1) = true := by simpa using h1
    go_still_tail 14, (by kernel_rfl)
    change wpList _ _ _ _ _ w1.drew
    have hE1 : Ext w1 w1.drew := Ext.drewN _ 1
    have HC := hid (HR.out w1.drew set _ _ _ (HW0.out.trans (hE1.mono (Nat.le_trans (Nat.le_of_lt hlt) HW.out.size))) (Sl.of_own (ownE HO1.out hE1) (by unfold maxLen; omega)) hp hset)
    have HB2 := hid (HB1.out.ext hE1)
    have HO2 := hid (ownE HO1.out hE1)
    have HW2 := hid (HW.out.trans (hE1.mono (Nat.le_trans (Nat.le_of_lt hlt) HW.out.size)))
    generalize w1.drew = w2 at *
    clear q0 q1 q2 q3
    cases hp2 : R set
    · have HQ := hid (HX.out.trans (if_neg (fun h => by rw [hp2] at h; cases h.2)))
      go_wp2_with (go_at_call 53; refine (cv HC.out (vb hp2)).mono ?_; rintro e w3 ⟨rfl, hE⟩)
      go_ret
      exact ⟨by rw [HQ.out]; rfl, postI_no HQ.out (HB2.out.ext hE) (ownE HO2.out hE) (HW2.out.trans (hE.mono (Nat.le_trans (Nat.le_of_lt hlt) HW2.out.size)))⟩
    · have HQ := hid (HX.out.trans (if_pos ⟨h1, hp2⟩))
      go_wp2_with (go_at_call 53; refine (cv HC.out (vb hp2)).mono ?_; rintro e w3 ⟨rfl, hE⟩)
      go_ret
      exact ⟨by rw [HQ.out]; rfl, postI_yes HQ.out (HB2.out.ext hE) (ownE HO2.out hE) (HW2.out.trans (hE.mono (Nat.le_trans (Nat.le_of_lt hlt) HW2.out.size)))⟩
  · have hd : decide (0 ≤ b1) = false := by simpa using h1
    have HQ := hid (HX.out.trans (if_neg (fun h => h1 h.1)))
    go_quiet (fail)
    go_wp2
    go_ret
    exact ⟨by rw [HQ.out]; rfl, postI_no HQ.out (HB1.out.ext (Ext.drewN _ _)) (ownE HO1.out (Ext.drewN _ _)) (HW.out.trans ((Ext.drewN _ _).mono (Nat.le_trans (Nat.le_of_lt hlt) HW.out.size)))⟩
end Go.Proofs.Ytopjccbjdcoanaa
/- The program's search: all sets, one after the other. -/
namespace Go.Proofs.Ytopjccbjdcoanaa
set_option linter.unusedVariables false
open Go.RowKit
def iota (P : Nat) : List Int := (List.range P).map Int.ofNat
theorem iota_len (P : Nat) : (iota P).length = P := by unfold iota; simp
theorem iota_at (P k : Nat) (h : k < P) : tAt (iota P) k = (k : Int) := by
  rw [← tAt_of (by rw [iota_len]; exact h)]; unfold iota; simp
theorem ext_succ (R : List Int → Bool) (P m frm : Nat) (set : List Int) (b : Int) : ext R P (m + 1) frm set b = lp (fun i b => ext R P m (i + 1) (set ++ [(i : Int)]) b) (P - m - frm) frm b := rfl
set_option maxRecDepth 100000 in
set_option maxHeartbeats 4000000 in
theorem extI (R : List Int → Bool) (P : Nat) (c1 c2 lv : Value) (llo lhi sb : Nat) (w0 : World) (hR : ClOk R P sb c1 c2 w0) (hlv : Sl llo lhi w0 1 lv P (flat encI (iota P))) (hlh : lhi ≤ sb) (hP : P ≤ 16) :
    ∀ (m frm : Nat) (fi mi b : Int) (set : List Int) (sv : Value) (w : World), fi = frm → mi = m → frm ≤ P → set.length + m ≤ 16 → Below sb w0 w → Plc P set →
    Blk w sb 78 (StI lv (.func (.func 53) #[] #[c1, c2]) sv b) → w.ownsRow (sb + 1) 2 1 sv set.length (flat encI set) → 0 ≤ b ∧ b ≤ 20000 →
    Calls Try.prog 90 #[.pointer (some ⟨sb, 0, none⟩), .int .i64 fi, .int .i64 mi] w fun e w' => e = .returned (.bool (ext R P m frm set b).1) ∧ PostI sb lv (.func (.func 53) #[] #[c1, c2]) set (ext R P m frm set b) w w' := by
  obtain ⟨hl1, hl2, Al, cl, rfl, hlc, hcm, _⟩ := id hlv
  clear hl2
  have HLV := hid hlv
  have HR := hid hR
  clear hlv hR
  intro m
  induction m with
  | zero =>
    intro frm fi mi b set sv w hfi hmi hfP hset hw hp hB hO hb
    subst hmi
    exact extI0 R P c1 c2 sb w0 HR.out fi b set _ sv w hw hp (by omega) hB hO hb
  | succ m ih =>
    intro frm fi mi b set sv w hfi hmi hfP hset hw hp hB hO hb
    subst hfi
    obtain ⟨hb0, hb1⟩ := hb
    have hlt := hB.lt
    have HO := hid hO
    have HB := hid hB
    have HW0 := hid hw
    have HIH := hid ih
    have hm15 : m ≤ 15 := by omega
    have HM := hid hmi
    have hmi0 : mi = (m : Int) + 1 := by omega
    have hset' : set.length ≤ 15 := by omega
    clear hO hB hw ih hmi
    subst hmi0
    have e0 : ((m : Int) + 1 == 0) = false := by simp; omega
    have HQ := hid (ext_succ R P m frm set b)
    go_enter Try.func90, Try.ntmps90
    go_wp2
    go_loopw [7] (fun i wr => ∃ (k : Nat) (b' : Int) (sv' : Value), frm ≤ k ∧ k ≤ P ∧ i = .int .i64 k ∧ (0 ≤ b' ∧ b' ≤ b) ∧ Hid (lp (fun i b => ext R P m (i + 1) (set ++ [(i : Int)]) b) (P - m - frm) frm b = lp (fun i b => ext R P m (i + 1) (set ++ [(i : Int)]) b) (P - m - k) k b') ∧ Hid (Blk wr sb 78 (StI (.slice Al P cl) (.func (.func 53) #[] #[c1, c2]) sv' b')) ∧ Hid (wr.ownsRow (sb + 1) 2 1 sv' set.length (flat encI set)) ∧ Hid (Below sb w wr)) (fun i _ => P - (intOf i).toNat)
    case atStart => exact ⟨frm, b, _, Nat.le_refl _, hfP, rfl, ⟨hb0, Int.le_refl _⟩, hid rfl, HB, HO, hid (Below.refl _ _)⟩
    case round =>
      obtain ⟨k, b', sv', hk1, hk2, rfl, ⟨hb'1, hb'2⟩, HL, HB2, HO2, HW⟩ := hrel
      obtain ⟨q0, q1, q2, q3⟩ := StI.cells HB2.out
      by_cases hkP : k + (m + 1) ≤ P
      · have hki : (k : Int) < P := by omega
        have hz := HW.out.size
        have hz2 := HW0.out.size
        obtain ⟨A2, c2', rfl⟩ := own_slice HO2.out
        obtain ⟨bl, ol, cl2, he, hbl, c0⟩ := t_cell (Sl.below HLV.out (HW0.out.trans HW.out) hlh (Nat.le_trans hz2 hz)) k (by rw [iota_len]; omega) (iota_len P)
        rw [iota_at P k (by omega)] at c0
        simp only [Value.slice.injEq, true_and] at he
        obtain ⟨rfl, rfl⟩ := he
        go_wp2
        have hsb : sb < wr.heap.size := by omega
        have hblw : bl < wr.heap.size := by omega
        have HOa : Hid (((wr.alloc (.cells #[.int .i64 k] 2)).drew).ownsRow (sb + 1) 2 1 (.slice A2 set.length c2') set.length (flat encI set)) := hid (ownD (HO2.out.alloc _) 1)
        have hza : sb + 1 ≤ ((wr.alloc (.cells #[.int .i64 k] 2)).drew).heap.size := by show sb + 1 ≤ (wr.alloc (.cells #[.int .i64 k] 2)).heap.size; simp; omega
        have HZA := hid hza
        clear hza
        go_region_law (refine step_append_one _ rfl (.tmp 49) (.tmp 57) _ rfl (sb + 1) 2 8 _ Try.underlying27 infoInt rfl (by omega) _ set.length _ HOa.out rfl _ rfl wr.heap.size rfl ((Blk.new wr _ _).cell 0) (by omega) HZA.out ?_; intro v6 w6 ho6 hb6; obtain ⟨g3, c3, _, rfl, hg3, _, _, hgc3⟩ := row_open ho6 0 (by omega); have hb7 := (keepA (Below.refl (sb + 1) wr) (by omega) _).drew.trans hb6; have f3' := (HB2.out.belowB hb7 (Nat.lt_succ_self sb)).frozen 3; have q3' : w6.cell? ⟨sb, 3, none⟩ = some (Value.slice A2 set.length c2') := (HB2.out.belowB hb7 (Nat.lt_succ_self sb)).cell 3)
        all_goals
          have HP : Hid (w6.ownsRow (sb + 1) 2 1 (.slice (some ⟨g3, 0, none⟩) (set.length + 1) c3) (set ++ [(k : Int)]).length (flat encI (set ++ [(k : Int)]))) := hid (by rw [flat_snoc, List.length_append]; exact ho6)
          have HWb := hid (Below.setCell (HW.out.trans (hb7.mono (Nat.le_succ sb))) (p := ⟨sb, 3, none⟩) (Nat.le_refl _) (.slice (some ⟨g3, 0, none⟩) (set.length + 1) c3))
          have HB3 := hid (StI.set3 (HB2.out.belowB hb7 (Nat.lt_succ_self sb)) (.slice (some ⟨g3, 0, none⟩) (set.length + 1) c3))
          have HO3 := hid (ownsRow_setCell_below HP.out (a := ⟨sb, 3, none⟩) (Nat.lt_succ_self sb) (.slice (some ⟨g3, 0, none⟩) (set.length + 1) c3))
          clear HP ho6 hb7 hb6 q3' f3' q0 q1 q2 q3 c0 HOa HZA
          generalize w6.setCell ⟨sb, 3, none⟩ (.slice (some ⟨g3, 0, none⟩) (set.length + 1) c3) = wa at *
          have HC := hid (HIH.out (k + 1) ((k : Int) + 1) m b' (set ++ [(k : Int)]) (.slice (some ⟨g3, 0, none⟩) (set.length + 1) c3) wa rfl rfl (by omega) (by simp; omega) (HW0.out.trans HWb.out) (plc_snoc hp (by omega)) HB3.out HO3.out ⟨by omega, by omega⟩)
          have hrd := ext_budget R P m (k + 1) (set ++ [(k : Int)]) b' (by omega)
          have HR2 := hid (HQ.out.trans (HL.out.trans ((congrArg (fun z => lp (fun i b => ext R P m (i + 1) (set ++ [(i : Int)]) b) z k b') (show P - m - k = (P - m - (k + 1)) + 1 by omega)).trans (lp_succ _ (P - m - (k + 1)) k b'))))
          dsimp only [Hid] at HR2
          generalize ext R P m (k + 1) (set ++ [(k : Int)]) b' = r at *
          obtain ⟨ok, st, b2⟩ := r
          replace HR2 := hid HR2
          cases ok
          · have E1 := hid (show (set ++ [(k : Int)]).length = set.length + 1 by simp)
            by_cases hb2 : b2 < 0
            · have HQ2 := hid (HR2.out.trans ((if_neg (by simp)).trans (if_pos hb2)))
              go_wp2_with (go_at_call 90; refine HC.out.mono ?_; rintro e w2 ⟨rfl, hPS⟩; obtain ⟨sv4, hB4, hO4, hb4⟩ := postI_open hPS; rw [E1.out] at hO4; obtain ⟨g4, c4, _, rfl, hg4, _, _, hgc4⟩ := row_open hO4 0 (by omega); have f4 := hB4.frozen 3; have q4 : w2.cell? ⟨sb, 3, none⟩ = some (.slice (some ⟨g4, 0, none⟩) (set.length + 1) c4) := hB4.cell 3; have q2 : w2.cell? ⟨sb, 2, none⟩ = some (.int .i64 b2) := hB4.cell 2; have HB4 := hid hB4; have HO4 := hid hO4; have HW4 := hid (HWb.out.trans hb4); clear hB4 hO4 hb4)
              go_region
              have HO5 := hid (row_untake HO4.out)
              go_wp2
              go_ret
              exact ⟨by rw [HQ2.out]; rfl, postI_no HQ2.out ((StI.set3 HB4.out (.slice (some ⟨g4, 0, none⟩) set.length c4)).ext (Ext.drewN _ 1)) (ownE (ownsRow_setCell_below HO5.out (a := ⟨sb, 3, none⟩) (Nat.lt_succ_self sb) _) (Ext.drewN _ 1)) (Below.trans (HW4.out.setCell (p := ⟨sb, 3, none⟩) (Nat.le_refl _) _) ((Ext.drewN _ 1).mono (Nat.le_trans (Nat.le_of_lt hlt) (HW4.out.setCell (p := ⟨sb, 3, none⟩) (Nat.le_refl _) _).size)))⟩
            · have HQ2 := hid (HR2.out.trans ((if_neg (by simp)).trans (if_neg hb2)))
              go_wp2_with (go_at_call 90; refine HC.out.mono ?_; rintro e w2 ⟨rfl, hPS⟩; obtain ⟨sv4, hB4, hO4, hb4⟩ := postI_open hPS; rw [E1.out] at hO4; obtain ⟨g4, c4, _, rfl, hg4, _, _, hgc4⟩ := row_open hO4 0 (by omega); have f4 := hB4.frozen 3; have q4 : w2.cell? ⟨sb, 3, none⟩ = some (.slice (some ⟨g4, 0, none⟩) (set.length + 1) c4) := hB4.cell 3; have q2 : w2.cell? ⟨sb, 2, none⟩ = some (.int .i64 b2) := hB4.cell 2; have HB4 := hid hB4; have HO4 := hid hO4; have HW4 := hid (HWb.out.trans hb4); clear hB4 hO4 hb4)
              go_region
              have HO5 := hid (row_untake HO4.out)
              go_wp2
              go_roundw
              case rel => exact ⟨k + 1, b2, _, by omega, by omega, by go_num, ⟨by omega, by omega⟩, hid (HQ.out.symm.trans HQ2.out), hid ((StI.set3 HB4.out (.slice (some ⟨g4, 0, none⟩) set.length c4)).ext (Ext.drewN _ 1)), hid (ownE (ownsRow_setCell_below HO5.out (a := ⟨sb, 3, none⟩) (Nat.lt_succ_self sb) _) (Ext.drewN _ 1)), hid (Below.trans (HW4.out.setCell (p := ⟨sb, 3, none⟩) (Nat.le_refl _) _) ((Ext.drewN _ 1).mono (Nat.le_trans (Nat.le_of_lt hlt) (HW4.out.setCell (p := ⟨sb, 3, none⟩) (Nat.le_refl _) _).size)))⟩
              case measure => simp [intOf]; omega
          · have HQ2 := hid (HR2.out.trans (if_pos rfl))
            go_wp2_with (go_at_call 90; refine HC.out.mono ?_; rintro e w2 ⟨rfl, hPS⟩)
            go_ret
            obtain ⟨sv4, hB4, hO4, hb4⟩ := postI_open1 hPS
            exact ⟨by rw [HQ2.out]; rfl, postI_yes HQ2.out hB4 hO4 (HWb.out.trans hb4)⟩
      · have HQ2 := hid (HQ.out.trans (HL.out.trans (show lp _ (P - m - k) k b' = (false, [], b') by rw [show P - m - k = 0 by omega]; rfl)))
        go_wp2
        go_ret
        exact ⟨by rw [HQ2.out]; rfl, postI_no HQ2.out HB2.out HO2.out HW.out⟩
end Go.Proofs.Ytopjccbjdcoanaa
/- The program's FewestSensors. -/
namespace Go.Proofs.Ytopjccbjdcoanaa
set_option linter.unusedVariables false
open Go.RowKit
set_option maxRecDepth 100000 in
set_option maxHeartbeats 1000000 in
theorem firstI (times : List (List Int)) (limit budget : Int) (c1 c2 lv : Value) (llo lhi sb : Nat) (w : World) (hF : fewOk times limit budget = true) (hR : ClOk (rightB times limit) (headLen times) sb c1 c2 w) (hlv : Sl llo lhi w 1 lv (headLen times) (flat encI (iota (headLen times)))) (hlh : lhi ≤ sb) (hP : headLen times ≤ 16)
    (hB : Blk w sb 78 (StI lv (.func (.func 53) #[] #[c1, c2]) (.slice none 0 0) budget)) (hb : 0 ≤ budget ∧ budget ≤ 20000) :
    Calls Try.prog 56 #[.pointer (some ⟨sb, 0, none⟩)] w fun e w' => (∃ v', e = .returned (.tuple #[v', .int .i64 (fewR times limit budget).2]) ∧ w'.ownsRow (sb + 1) 2 1 v' (fewR times limit budget).1.length (flat encI (fewR times limit budget).1)) ∧ Below sb w w' := by
  obtain ⟨hb0, hb1⟩ := hb
  obtain ⟨_, _, Al, cl, rfl, hlc, hcm, _⟩ := id hlv
  have HLV := hid hlv
  have HR := hid hR
  have HF := hid hF
  have HB := hid hB
  have hlt := hB.lt
  obtain ⟨q0, q1, q2, q3⟩ := StI.cells hB
  clear hlv hR hF hB
  go_enter Try.func56, Try.ntmps56
  go_wp2
  clear q0 q1 q2 q3
  go_loopw [11] (fun i W => ∃ (n : Nat) (b : Int) (sv : Value), i = .int .i64 n ∧ n ≤ headLen times + 1 ∧ (0 ≤ b ∧ b ≤ budget) ∧ Hid (firstG (rightB times limit) (headLen times) (headLen times + 1) 0 budget = firstG (rightB times limit) (headLen times) (headLen times + 1 - n) n b) ∧ Hid (Blk W sb 78 (StI (.slice Al (headLen times) cl) (.func (.func 53) #[] #[c1, c2]) sv b)) ∧ Hid (W.ownsRow (sb + 1) 2 1 sv 0 []) ∧ Hid (Below sb w W)) (fun i _ => headLen times + 1 - (intOf i).toNat)
  case atStart => exact ⟨0, budget, _, rfl, Nat.zero_le _, ⟨hb0, Int.le_refl _⟩, hid rfl, HB, hid ⟨rfl, .inl ⟨rfl, rfl⟩⟩, hid (Below.refl _ _)⟩
  case round =>
    obtain ⟨n, b, sv, rfl, hn1, ⟨hb0', hb1'⟩, HF2, HB2, HO2, HW⟩ := hrel
    obtain ⟨A2, c2', rfl⟩ := own_slice HO2.out
    by_cases hnP : n ≤ headLen times
    · have HC := hid (extI (rightB times limit) (headLen times) c1 c2 _ llo lhi sb w HR.out HLV.out hlh hP n 0 0 n b [] _ wr rfl rfl (Nat.zero_le _) (by simp; omega) HW.out (fun j h => absurd h (by simp)) HB2.out HO2.out ⟨hb0', by omega⟩)
      have hbd := ext_budget (rightB times limit) (headLen times) n 0 [] b hb0'
      have HF3 := hid (HF2.out.trans ((congrArg (fun z => firstG (rightB times limit) (headLen times) z n b) (show headLen times + 1 - n = (headLen times - n) + 1 by omega)).trans (show firstG (rightB times limit) (headLen times) ((headLen times - n) + 1) n b = if (ext (rightB times limit) (headLen times) n 0 [] b).1 then (some (ext (rightB times limit) (headLen times) n 0 [] b).2.1, false) else if (ext (rightB times limit) (headLen times) n 0 [] b).2.2 < 0 then (none, true) else firstG (rightB times limit) (headLen times) (headLen times - n) (n + 1) (ext (rightB times limit) (headLen times) n 0 [] b).2.2 from rfl)))
      dsimp only [Hid] at HF3
      generalize ext (rightB times limit) (headLen times) n 0 [] b = r at *
      obtain ⟨ok, st, b2⟩ := r
      replace HF3 := hid HF3
      cases ok
      · by_cases hb2 : b2 < 0
        · have HQ := hid (fewR_n HF.out (HF3.out.trans ((if_neg (by simp)).trans (if_pos hb2))))
          go_wp2_with (go_at_call 90; refine HC.out.mono ?_; rintro e w2 ⟨rfl, hPS⟩; obtain ⟨sv4, hB4, hO4, hb4⟩ := postI_open hPS; have q2 : w2.cell? ⟨sb, 2, none⟩ = some (.int .i64 b2) := hB4.cell 2; have HW4 := hid (HW.out.trans hb4); clear hB4 hO4 hb4)
          go_ret2
          exact ⟨⟨_, by rw [HQ.out]; rfl, by rw [HQ.out]; exact ⟨rfl, .inl ⟨rfl, rfl⟩⟩⟩, HW4.out⟩
        · have HF4 := hid (HF3.out.trans ((if_neg (by simp)).trans (if_neg hb2)))
          go_wp2_with (go_at_call 90; refine HC.out.mono ?_; rintro e w2 ⟨rfl, hPS⟩; obtain ⟨sv4, hB4, hO4, hb4⟩ := postI_open hPS; have q2 : w2.cell? ⟨sb, 2, none⟩ = some (.int .i64 b2) := hB4.cell 2; have HB4 := hid hB4; have HO4 := hid hO4; have HW4 := hid (HW.out.trans hb4); clear hB4 hO4 hb4)
          go_roundw
          case rel => exact ⟨n + 1, b2, sv4, by go_num, by omega, ⟨by omega, by omega⟩, hid (HF4.out.trans (congrArg (fun z => firstG (rightB times limit) (headLen times) z (n + 1) b2) (by omega))), HB4, HO4, HW4⟩
          case measure => simp [intOf]; omega
      · have HQ := hid (fewR_s HF.out (HF3.out.trans (if_pos rfl)))
        go_wp2_with (go_at_call 90; refine HC.out.mono ?_; rintro e w2 ⟨rfl, hPS⟩; obtain ⟨sv4, hB4, hO4, hb4⟩ := postI_open1 hPS; obtain ⟨A4, c4, rfl⟩ := own_slice hO4; have q3 : w2.cell? ⟨sb, 3, none⟩ = some (.slice A4 st.length c4) := hB4.cell 3; have HO4 := hid hO4; have HW4 := hid (HW.out.trans hb4); clear hB4 hO4 hb4)
        go_ret2
        exact ⟨⟨_, by rw [HQ.out]; rfl, by rw [HQ.out]; exact HO4.out⟩, HW4.out⟩
    · obtain rfl : n = headLen times + 1 := by omega
      have HQ := hid (fewR_n (f := false) HF.out (HF2.out.trans (by rw [Nat.sub_self]; rfl)))
      go_wp2
      go_ret2
      exact ⟨⟨_, by rw [HQ.out]; rfl, by rw [HQ.out]; exact ⟨rfl, .inl ⟨rfl, rfl⟩⟩⟩, HW.out⟩
end Go.Proofs.Ytopjccbjdcoanaa
/- The program's FewestSensors, whole. -/
namespace Go.Proofs.Ytopjccbjdcoanaa
set_option linter.unusedVariables false
open Go.RowKit
theorem iota_snoc (k : Nat) : iota (k + 1) = iota k ++ [(k : Int)] := by unfold iota; rw [List.range_succ]; simp
theorem rows_any {times : List (List Int)} : (times.any fun ts => !(timesB ts && decide (ts.length = headLen times))) = !rowsB times := by
  unfold rowsB; rw [List.any_eq_not_all_not]; simp
theorem budgetValid (b : Int) (w : World) : Calls Try.prog 52 #[.int .i64 b] w fun e w' => e = .returned (.bool (inB b 1 20000)) ∧ w = w' := by
  go_enter Try.func52, Try.ntmps52
  go_wp2_with (go_at_call 83; refine (within _ _ _ _).mono ?_; rintro e w' ⟨rfl, rfl⟩)
  go_ret
  exact ⟨rfl, rfl⟩
theorem firstG_len (R : List Int → Bool) (P : Nat) (s : List Int) : ∀ (k n : Nat) (b : Int), 0 ≤ b → (firstG R P k n b).1 = some s → s.length < n + k
  | 0, n, b, _, h => by cases h
  | k + 1, n, b, hb, h => by
    have hl := extS_len R P n 0 [] b
    rw [firstG_succ R P k n b hb] at h
    split at h
    · rename_i h1
      have := hl h1
      simp only [Option.some.injEq] at h
      rw [← h, this]; simp
    · split at h
      · cases h
      · rename_i h2
        have := firstG_len R P s k (n + 1) _ (by simpa using h2) h
        omega
theorem fewR_len (times : List (List Int)) (limit budget : Int) (hP : headLen times ≤ 16) (hb : 0 ≤ budget) : (fewR times limit budget).1.length ≤ 17 := by
  unfold fewR
  split
  · split
    · rename_i h
      obtain ⟨s, hs⟩ := Option.isSome_iff_exists.1 h
      rw [hs]
      have := firstG_len _ _ s _ _ _ hb hs
      show s.length ≤ 17
      omega
    · split <;> simp
  · simp
theorem firstAt (times : List (List Int)) (limit budget : Int) (lo hi gt gl llo lhi : Nat) (tv lv : Value) (w wr : World) (hE : Ext w wr) (hv : SlSS lo hi w tv times) (hF : fewOk times limit budget = true) (hnt : times.length ≤ 16) (hrows : rowsB times = true) (hb : 0 ≤ budget ∧ budget ≤ 20000) (hlv : Sl llo lhi wr 1 lv (headLen times) (flat encI (iota (headLen times)))) (d3 : wr.cell? ⟨gt, 0, none⟩ = some tv) (d4 : wr.cell? ⟨gl, 0, none⟩ = some (.int .i64 limit)) (l3 : gt < wr.heap.size) (l4 : gl < wr.heap.size) :
    Calls Try.prog 56 #[.pointer (some ⟨wr.heap.size, 0, none⟩)] (wr.alloc (.cells #[lv, .func (.func 53) #[] #[.pointer (some ⟨gt, 0, none⟩), .pointer (some ⟨gl, 0, none⟩)], .int .i64 budget, .slice none 0 0] 78)) fun e w' => (∃ v', e = .returned (.tuple #[v', .int .i64 (fewR times limit budget).2]) ∧ Own w.heap.size w'.heap.size w' 2 1 v' (fewR times limit budget).1.length (flat encI (fewR times limit budget).1)) ∧ Ext w w' := by
  have hP := head_le hrows
  have hX := Ext.new wr (.cells #[lv, .func (.func 53) #[] #[.pointer (some ⟨gt, 0, none⟩), .pointer (some ⟨gl, 0, none⟩)], .int .i64 budget, .slice none 0 0] 78)
  have hvr : SlSS lo hi wr tv times := SlN.ext hv hE
  have hhi : hi ≤ wr.heap.size := by
    obtain ⟨_, _, ⟨h, _⟩, _⟩ := SlSS.opn hvr; exact h
  have hz := hE.size
  refine (firstI times limit budget _ _ lv llo lhi wr.heap.size _ hF ?_ (hlv.ext hX) hlv.1 hP (Blk.new wr _ _) hb).mono ?_
  · intro W set sv lo2 hi2 hB hs hp hset
    have hB2 := Below.trans hX hB
    exact rightC times set limit tv sv (headLen times) gt gl lo hi lo2 hi2 W (SlSS.below hvr hB2 hhi) (fun k h => (rows_at hrows k h).2) hnt hP hs ((hB2.cell (p := ⟨gt, 0, none⟩) l3).trans d3) ((hB2.cell (p := ⟨gl, 0, none⟩) l4).trans d4) (Nat.lt_of_lt_of_le l3 hB2.size) (Nat.lt_of_lt_of_le l4 hB2.size) hp hset
  · rintro e w' ⟨⟨v', he, ho⟩, hB⟩
    have hl := fewR_len times limit budget hP hb.1
    exact ⟨⟨v', he, Own.of (row_base ho (by omega)) (by omega)⟩, Ext.tr hE (Below.trans hX hB)⟩
def wrongP (times : List (List Int)) (ts : List Int) : Bool := !(timesB ts && decide (ts.length = headLen times))
set_option maxRecDepth 100000 in
set_option maxHeartbeats 1000000 in
theorem implFewestSensors (times : List (List Int)) (limit budget : Int) (lo hi : Nat) (v : Value) (w : World) (hv : SlSS lo hi w v times) (hn : totN nSS times + times.length ≤ 1048576) :
    Calls Try.prog 12 #[v, .int .i64 limit, .int .i64 budget] w fun e w' => (∃ v', e = .returned (.tuple #[v', .int .i64 (fewR times limit budget).2]) ∧ Own w.heap.size w'.heap.size w' 2 1 v' (fewR times limit budget).1.length (flat encI (fewR times limit budget).1)) ∧ Ext w w' := by
  obtain ⟨At, ct, rfl, hnct, hcct⟩ := SlSS.slice hv
  have HV := hid hv
  clear hv
  have HX : Hid (Ext w ((w.alloc (.cells #[.slice At times.length ct] 24)).alloc (.cells #[.int .i64 limit] 2))) := hid (Ext.tr (Ext.new _ _) (Ext.new _ _))
  have HB1 : Hid (Blk ((w.alloc (.cells #[.slice At times.length ct] 24)).alloc (.cells #[.int .i64 limit] 2)) w.heap.size 24 #[.slice At times.length ct]) := hid ((Blk.new _ _ _).ext (Ext.new _ _))
  have HB2 : Hid (Blk ((w.alloc (.cells #[.slice At times.length ct] 24)).alloc (.cells #[.int .i64 limit] 2)) (w.heap.size + 1) 2 #[.int .i64 limit]) := hid (by have := Blk.new (w.alloc (.cells #[.slice At times.length ct] 24)) 2 #[.int .i64 limit]; simpa using this)
  by_cases h1 : times.length ≤ 16
  case neg =>
    have HQ := hid (fewR_a (limit := limit) (budget := budget) (show fewOk times limit budget = false by unfold fewOk; simp [h1]))
    have h1' : (16 : Int) < times.length := by omega
    go_enter Try.func12, Try.ntmps12
    go_wp2
    go_ret2
    exact ⟨⟨_, by rw [HQ.out]; rfl, by rw [HQ.out]; exact Own.nil _ _ HX.out⟩, HX.out⟩
  have hgz : w.heap.size + 1 < ((w.alloc (.cells #[.slice At times.length ct] 24)).alloc (.cells #[.int .i64 limit] 2)).heap.size := HB2.out.lt
  have HGZ := hid hgz
  clear hgz
  have HC := hid (anyWrong times (wrongP times) (.pointer (some ⟨w.heap.size, 0, none⟩)) lo hi _ _ (SlN.ext HV.out HX.out) (by omega) (fun k hk A c W hE hu => wrongC times times[k] _ w.heap.size lo hi A c W hu ((HB1.out.ext hE).cell 0) (HB1.out.ext hE).lt (SlN.ext HV.out (Ext.tr HX.out hE)) (by omega) h1 (by have := totN_mem nSS times k hk; show nSS.n times[k] ≤ _; omega)))
  have HA := hid (show times.any (wrongP times) = !rowsB times from rows_any)
  cases h4 : rowsB times
  · have HQ := hid (fewR_a (show fewOk times limit budget = false by unfold fewOk; rw [h4]; simp))
    go_enter Try.func12, Try.ntmps12
    go_wp2_with (go_at_call 51; refine (cv HC.out (vb (HA.out.trans (show (!rowsB times) = true by rw [h4]; rfl)))).mono ?_; rintro e w2 ⟨rfl, hE2⟩)
    go_ret2
    exact ⟨⟨_, by rw [HQ.out]; rfl, by rw [HQ.out]; exact Own.nil _ _ (Ext.tr HX.out hE2)⟩, Ext.tr HX.out hE2⟩
  by_cases h2 : 0 ≤ limit
  case neg =>
    have HQ := hid (fewR_a (budget := budget) (show fewOk times limit budget = false by unfold fewOk; simp [h2]))
    go_enter Try.func12, Try.ntmps12
    go_wp2_with (go_at_call 51; refine (cv HC.out (vb (HA.out.trans (show (!rowsB times) = false by rw [h4]; rfl)))).mono ?_; rintro e w2 ⟨rfl, hE2⟩; have d3 : w2.cell? ⟨w.heap.size, 0, none⟩ = some (.slice At times.length ct) := (HB1.out.ext hE2).cell 0; have d4 : w2.cell? ⟨w.heap.size + 1, 0, none⟩ = some (.int .i64 limit) := (HB2.out.ext hE2).cell 0)
    go_ret2
    exact ⟨⟨_, by rw [HQ.out]; rfl, by rw [HQ.out]; exact Own.nil _ _ (Ext.tr HX.out hE2)⟩, Ext.tr HX.out hE2⟩
  cases h3 : inB budget 1 20000
  · have HQ := hid (fewR_a (limit := limit) (show fewOk times limit budget = false by unfold fewOk; rw [h3]; simp))
    go_enter Try.func12, Try.ntmps12
    go_wp2_with (first | (go_at_call 51; refine (cv HC.out (vb (HA.out.trans (show (!rowsB times) = false by rw [h4]; rfl)))).mono ?_; rintro e w2 ⟨rfl, hE2⟩; have d3 : w2.cell? ⟨w.heap.size, 0, none⟩ = some (.slice At times.length ct) := (HB1.out.ext hE2).cell 0; have d4 : w2.cell? ⟨w.heap.size + 1, 0, none⟩ = some (.int .i64 limit) := (HB2.out.ext hE2).cell 0) | (go_at_call 52; refine (cv (budgetValid _ _) (vb h3)).mono ?_; rintro e w3 ⟨rfl, rfl⟩))
    go_ret2
    exact ⟨⟨_, by rw [HQ.out]; rfl, by rw [HQ.out]; exact Own.nil _ _ (Ext.tr HX.out hE2)⟩, Ext.tr HX.out hE2⟩
  have HF := hid (show fewOk times limit budget = true by unfold fewOk; rw [h4, h3]; simp [h1, h2])
  have hbu : 1 ≤ budget ∧ budget ≤ 20000 := by unfold inB at h3; simpa using h3
  have hP := head_le h4
  have HRW := hid h4
  clear h4 h3
  have h3 : inB budget 1 20000 = true := by unfold inB; simp; omega
  by_cases h0 : times.length = 0
  · have hh0 : headLen times = 0 := by rw [List.length_eq_zero_iff.1 h0]; rfl
    have HN0 : ∀ W, Sl 0 0 W 1 (.slice none 0 0) (headLen times) (flat encI (iota (headLen times))) := fun W => by rw [hh0]; exact ⟨Nat.zero_le _, rfl, none, 0, rfl, Nat.le_refl _, Nat.zero_le _, fun h => absurd h (by omega)⟩
    have HN := hid HN0
    clear HN0 hh0
    have hl0 : ¬ (0 : Int) < times.length := by omega
    have hl0' : ¬ 0 < times.length := by omega
    have H0 := hid h0
    clear h0
    go_enter Try.func12, Try.ntmps12
    go_wp2_with (first | (go_at_call 51; refine (cv HC.out (vb (HA.out.trans (show (!rowsB times) = false by rw [HRW.out]; rfl)))).mono ?_; rintro e w2 ⟨rfl, hE2⟩; have d3 : w2.cell? ⟨w.heap.size, 0, none⟩ = some (.slice At times.length ct) := (HB1.out.ext hE2).cell 0; have d4 : w2.cell? ⟨w.heap.size + 1, 0, none⟩ = some (.int .i64 limit) := (HB2.out.ext hE2).cell 0) | (go_at_call 52; refine (cv (budgetValid _ _) (vb h3)).mono ?_; rintro e w3 ⟨rfl, rfl⟩) | (go_at_call 56; refine (firstAt times limit budget lo hi w.heap.size (w.heap.size + 1) 0 0 _ _ w w2 (Ext.tr HX.out hE2) HV.out HF.out h1 HRW.out ⟨by omega, by omega⟩ (HN.out w2) d3 d4 (HB1.out.ext hE2).lt (HB2.out.ext hE2).lt).mono ?_; rintro e w4 ⟨⟨v4, rfl, ho4⟩, hE4⟩))
    go_ret2
    exact ⟨⟨_, rfl, ho4⟩, hE4⟩
  · have hl0 : (0 : Int) < times.length := by omega
    have hl0' : 0 < times.length := by omega
    clear h0
    have hhw : hi ≤ w.heap.size := by
      obtain ⟨_, _, ⟨h, _⟩, _⟩ := SlSS.opn HV.out; exact h
    obtain ⟨ys, hys, ⟨_, _, A', c', he, _, _, hcell⟩, hin⟩ := SlSS.opn HV.out
    simp only [Value.slice.injEq, true_and] at he
    obtain ⟨rfl, rfl⟩ := he
    obtain ⟨bt, ot, rfl, _, hbt, hc⟩ := hcell hl0'
    have hbtw : bt < w.heap.size := by omega
    have HROW : Hid (∀ W, Ext w W → ∃ A0 c0, W.cell? ⟨bt, ot, none⟩ = some (.slice A0 (headLen times) c0)) := hid (fun W hW => by
      obtain ⟨A0, c0, h, _⟩ := SS.at_ hys hin hc hW hbtw 0 hl0'
      exact ⟨A0, c0, by rw [head_at hl0']; exact h⟩)
    clear hys hin hcell hc
    go_enter Try.func12, Try.ntmps12
    go_wp2_with (first | (go_at_call 51; refine (cv HC.out (vb (HA.out.trans (show (!rowsB times) = false by rw [HRW.out]; rfl)))).mono ?_; rintro e w2 ⟨rfl, hE2⟩; have d3 : w2.cell? ⟨w.heap.size, 0, none⟩ = some (.slice (some ⟨bt, ot, none⟩) times.length ct) := (HB1.out.ext hE2).cell 0; have d4 : w2.cell? ⟨w.heap.size + 1, 0, none⟩ = some (.int .i64 limit) := (HB2.out.ext hE2).cell 0; obtain ⟨A0, c0, d0⟩ := HROW.out w2 (Ext.tr HX.out hE2); have HE2 := hid hE2; clear hE2) | (go_at_call 52; refine (cv (budgetValid _ _) (vb h3)).mono ?_; rintro e w3 ⟨rfl, rfl⟩))
    have HD3 := hid d3
    have HD4 := hid d4
    have l3 := (HB1.out.ext HE2.out).lt
    have l4 := (HB2.out.ext HE2.out).lt
    clear d3 d4 d0
    go_loopw [9, 37] (fun v9 i W => ∃ (k : Nat), i = .int .i64 k ∧ k ≤ headLen times ∧ Hid (W.ownsRow w2.heap.size 2 1 v9 k (flat encI (iota k))) ∧ Hid (Ext w2 W)) (fun _ i _ => headLen times - (intOf i).toNat)
    case atStart => exact ⟨0, rfl, Nat.zero_le _, hid ⟨rfl, .inl ⟨rfl, rfl⟩⟩, hid (Below.refl _ _)⟩
    case round =>
      obtain ⟨k, rfl, hk, HO, HE3⟩ := hrel
      by_cases hkl : k < headLen times
      · have hz3 := HE3.out.size
        go_wp2_with (at_builtin; refine wp_append1 wr rfl (.tmp 40) (.tmp 42) _ rfl w2.heap.size 2 1 8 _ Try.underlying27 infoInt rfl (by omega) (by omega) _ _ _ HO.out rfl [.int .i64 k] rfl (by simp [Value.oneCell']) _ rfl rfl (by omega) hz3 ?_; intro v' w' ho' hb')
        go_roundw
        case rel => exact ⟨k + 1, by go_num, by omega, hid (by rw [iota_snoc, flat_snoc]; exact ho'), hid (HE3.out.trans hb')⟩
        case measure => simp [intOf]; omega
      · obtain rfl : k = headLen times := by omega
        have hS := Sl.of_own HO.out (by unfold maxLen; omega)
        have HS := hid hS
        have e3 := (HE3.out.cell (p := ⟨w.heap.size, 0, none⟩) l3).trans HD3.out
        have e4 := (HE3.out.cell (p := ⟨w.heap.size + 1, 0, none⟩) l4).trans HD4.out
        have l3' := Nat.lt_of_lt_of_le l3 HE3.out.size
        have l4' := Nat.lt_of_lt_of_le l4 HE3.out.size
        clear hS
        obtain ⟨A9, c9, rfl⟩ := own_slice HO.out
        go_wp2_with (go_at_call 56; refine (firstAt times limit budget lo hi w.heap.size (w.heap.size + 1) _ _ _ _ w wr (Ext.tr (Ext.tr HX.out HE2.out) HE3.out) HV.out HF.out h1 HRW.out ⟨by omega, by omega⟩ HS.out e3 e4 l3' l4').mono ?_; rintro e w4 ⟨⟨v4, rfl, ho4⟩, hE4⟩)
        go_ret2
        exact ⟨⟨_, rfl, ho4⟩, hE4⟩
end Go.Proofs.Ytopjccbjdcoanaa
