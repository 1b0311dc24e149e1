/- slices.BinarySearchFunc on drills, with the program's comparison. -/
import Derived.Test.YtibmcailjodpkaaAdd1
import Derived.Test.YtibmcailjodpkaaAppN
namespace Go.Proofs.Ytibmcailjodpkaa
set_option linter.unusedVariables false
open Go.RowKit
theorem vi {k : IntKind} {a b : Int} (h : a = b) : Value.int k a = Value.int k b := by rw [h]
set_option maxRecDepth 100000 in
set_option maxHeartbeats 1000000 in
theorem binD (xs : List Drill) (x : Drill) (lo hi : Nat) (v : Value) (w : World) (hv : Sl lo hi w 5 v xs.length (flat Drill.enc xs)) (hB : drillsB xs = true) :
    Calls Try.prog 68 #[v, .agg #[.int .i64 x.day, .string x.crew, .int .i64 x.persons, .int .i64 x.seconds, .int .i64 x.missing], .func (.func 45) #[] #[]] w fun e w' => e = .returned (.tuple #[.int .i64 (posD xs x), .bool (hasD xs x)]) ∧ Ext w w' := by
  obtain ⟨hhi, _, A, c, rfl, hnc, hcm, hcell⟩ := hv
  have hl32 : xs.length ≤ 32 := by unfold drillsB at hB; simp at hB; exact hB.1
  go_enter Try.func68, Try.ntmps68
  go_wp2_with fail
  generalize hG : World.alloc _ _ = wz
  have hE1 : Ext w wz := by rw [← hG]; exact Ext.new _ _
  have HX : Hid (Blk wz w.heap.size 52 #[.int .i64 x.day, .string x.crew, .int .i64 x.persons, .int .i64 x.seconds, .int .i64 x.missing]) := by refine hid ?_; rw [← hG]; exact Blk.new _ _ _
  clear hG
  have x0 : ∀ d : Later wz, d.w.cell? ⟨w.heap.size, 0, none⟩ = some (.int .i64 x.day) := fun d => (HX.out.ext d.h).cell 0
  have x1 : ∀ d : Later wz, d.w.cell? ⟨w.heap.size, 1, none⟩ = some (.string x.crew) := fun d => (HX.out.ext d.h).cell 1
  have x2 : ∀ d : Later wz, d.w.cell? ⟨w.heap.size, 2, none⟩ = some (.int .i64 x.persons) := fun d => (HX.out.ext d.h).cell 2
  have x3 : ∀ d : Later wz, d.w.cell? ⟨w.heap.size, 3, none⟩ = some (.int .i64 x.seconds) := fun d => (HX.out.ext d.h).cell 3
  have x4 : ∀ d : Later wz, d.w.cell? ⟨w.heap.size, 4, none⟩ = some (.int .i64 x.missing) := fun d => (HX.out.ext d.h).cell 4
  go_wp2
  go_loopw [9, 10] (fun a b wr => ∃ i j : Nat, i ≤ j ∧ j ≤ xs.length ∧ a = .int .i64 i ∧ b = .int .i64 j ∧ Hid (Half xs x i j) ∧ Ext wz wr) (fun a b _ => (intOf b - intOf a).toNat)
  case atStart => exact ⟨0, xs.length, Nat.zero_le _, Nat.le_refl _, rfl, rfl, hid (Half.zero xs x), Below.refl _ _⟩
  case round =>
    obtain ⟨i, j, hij, hjn, rfl, rfl, hH, hE⟩ := hrel
    by_cases hlt : i < j
    · have hij' : (i : Int) < j := by omega
      obtain ⟨m, hm⟩ : ∃ m, m = (i + j) / 2 := ⟨_, rfl⟩
      have hmn : m < xs.length := by omega
      have him : i ≤ m := by omega
      have hmj : m < j := by omega
      obtain ⟨b, off, rfl, hb1, hb2, hc⟩ := hcell (by omega)
      have hbw : b < w.heap.size := by omega
      have HC := hid hc
      have AT : Hid (∀ W, Ext wz W → DrillAt W b (off + m * 5) xs[m]) := hid (fun W hW => by
        obtain ⟨c0, c1, c2, c3, c4⟩ := Drill.cells HC.out m hmn
        have hh := (bcell (Ext.tr hE1 hW)).1
        exact ⟨(hh _ _ hbw).trans c0, (hh _ _ hbw).trans c1, (hh _ _ hbw).trans c2, (hh _ _ hbw).trans c3, (hh _ _ hbw).trans c4⟩)
      clear hc
      have y0 : ∀ d : Later wz, d.w.cell? ⟨b, off + m * 5, none⟩ = some (.int .i64 xs[m].day) := fun d => (AT.out _ d.h).1
      have y1 : ∀ d : Later wz, d.w.cell? ⟨b, off + m * 5 + 1, none⟩ = some (.string xs[m].crew) := fun d => (AT.out _ d.h).2.1
      have y2 : ∀ d : Later wz, d.w.cell? ⟨b, off + m * 5 + 2, none⟩ = some (.int .i64 xs[m].persons) := fun d => (AT.out _ d.h).2.2.1
      have y3 : ∀ d : Later wz, d.w.cell? ⟨b, off + m * 5 + 3, none⟩ = some (.int .i64 xs[m].seconds) := fun d => (AT.out _ d.h).2.2.2.1
      have y4 : ∀ d : Later wz, d.w.cell? ⟨b, off + m * 5 + 4, none⟩ = some (.int .i64 xs[m].missing) := fun d => (AT.out _ d.h).2.2.2.2
      have hmi : ((i : Int) + j) / 2 = (m : Int) := by omega
      have hmn' : (m : Int) < xs.length := by omega
      clear hm
      cases hl : drillLt xs[m] x
      · have hcmp : decide (cmpDrill xs[m] x < 0) = false := by have := cmpDrill_ge _ _ hl; simp; omega
        have hcmp' : ¬ cmpDrill xs[m] x < 0 := by have := cmpDrill_ge _ _ hl; omega
        go_wp2_with fail
        refine wp_region_later wz (by kernel_rfl) (by kernel_rfl) hE ?_
        repeat (go_big_quiet_step ((first | (go_at_call 45; exact ql (compareDrills xs[m] x _) rfl))))
        refine wpQuiet_nil ?_
        rintro _ ⟨d, rfl⟩
        go_wp2
        go_roundw
        case rel => exact ⟨i, m, him, by omega, rfl, rfl, hid (hH.out.down hB hmn hl), d.h⟩
        case measure => simp [intOf]; omega
      · have hcmp : decide (cmpDrill xs[m] x < 0) = true := by have := cmpDrill_lt _ _ hl; simp; omega
        have hcmp' : cmpDrill xs[m] x < 0 := cmpDrill_lt _ _ hl
        go_wp2_with fail
        refine wp_region_later wz (by kernel_rfl) (by kernel_rfl) hE ?_
        repeat (go_big_quiet_step ((first | (go_at_call 45; exact ql (compareDrills xs[m] x _) rfl))))
        refine wpQuiet_nil ?_
        rintro _ ⟨d, rfl⟩
        go_wp2
        go_roundw
        case rel => exact ⟨m + 1, j, by omega, hjn, by go_num, rfl, hid (hH.out.up hB hmn hl), d.h⟩
        case measure => simp [intOf]; omega
    · obtain rfl : i = j := by omega
      have hP := hid (hH.out.end_ hjn)
      by_cases hin : i < xs.length
      rotate_left
      · have HQ := hid (hasD_end hP.out hin)
        have hin' : decide ((i : Int) < xs.length) = false := by simp only [decide_eq_false_iff_not]; omega
        have hin'' : ¬ (i : Int) < xs.length := by omega
        go_wp2_with fail
        refine wp_region_later wz (by kernel_rfl) (by kernel_rfl) hE ?_
        repeat (go_big_quiet_step ((fail)))
        refine wpQuiet_nil ?_
        rintro _ ⟨d, rfl⟩
        go_wp2
        go_ret2
        exact ⟨by rw [HQ.out, hP.out]; rfl, Ext.tr hE1 d.h⟩
      obtain ⟨b, off, rfl, hb1, hb2, hc⟩ := hcell (by omega)
      have hbw : b < w.heap.size := by omega
      have HC := hid hc
      have AT : Hid (∀ W, Ext wz W → DrillAt W b (off + i * 5) xs[i]) := hid (fun W hW => by
        obtain ⟨c0, c1, c2, c3, c4⟩ := Drill.cells HC.out i hin
        have hh := (bcell (Ext.tr hE1 hW)).1
        exact ⟨(hh _ _ hbw).trans c0, (hh _ _ hbw).trans c1, (hh _ _ hbw).trans c2, (hh _ _ hbw).trans c3, (hh _ _ hbw).trans c4⟩)
      clear hc
      have y0 : ∀ d : Later wz, d.w.cell? ⟨b, off + i * 5, none⟩ = some (.int .i64 xs[i].day) := fun d => (AT.out _ d.h).1
      have y1 : ∀ d : Later wz, d.w.cell? ⟨b, off + i * 5 + 1, none⟩ = some (.string xs[i].crew) := fun d => (AT.out _ d.h).2.1
      have y2 : ∀ d : Later wz, d.w.cell? ⟨b, off + i * 5 + 2, none⟩ = some (.int .i64 xs[i].persons) := fun d => (AT.out _ d.h).2.2.1
      have y3 : ∀ d : Later wz, d.w.cell? ⟨b, off + i * 5 + 3, none⟩ = some (.int .i64 xs[i].seconds) := fun d => (AT.out _ d.h).2.2.2.1
      have y4 : ∀ d : Later wz, d.w.cell? ⟨b, off + i * 5 + 4, none⟩ = some (.int .i64 xs[i].missing) := fun d => (AT.out _ d.h).2.2.2.2
      have hin' : (i : Int) < xs.length := by omega
      have hlo := hH.out.2 i hin (Nat.le_refl _)
      have hz := cmpDrill_zero _ _ hlo
      have HQ := hid (hasD_at hP.out hin)
      cases hg : drillLt x xs[i]
      · have hcmp : (cmpDrill xs[i] x == 0) = true := by rw [beq_iff_eq]; exact hz.2 hg
        clear hz
        go_wp2_with fail
        refine wp_region_later wz (by kernel_rfl) (by kernel_rfl) hE ?_
        repeat (go_big_quiet_step ((first | (go_at_call 45; exact ql (compareDrills xs[i] x _) rfl))))
        refine wpQuiet_nil ?_
        rintro _ ⟨d, rfl⟩
        go_wp2
        go_ret2
        exact ⟨by rw [HQ.out, hP.out, hg]; rfl, Ext.tr hE1 d.h⟩
      · have hcmp : (cmpDrill xs[i] x == 0) = false := by rw [beq_eq_false_iff_ne]; intro h; rw [hz.1 h] at hg; cases hg
        clear hz
        go_wp2_with fail
        refine wp_region_later wz (by kernel_rfl) (by kernel_rfl) hE ?_
        repeat (go_big_quiet_step ((first | (go_at_call 45; exact ql (compareDrills xs[i] x _) rfl))))
        refine wpQuiet_nil ?_
        rintro _ ⟨d, rfl⟩
        go_wp2
        go_ret2
        exact ⟨by rw [HQ.out, hP.out, hg]; rfl, Ext.tr hE1 d.h⟩
end Go.Proofs.Ytibmcailjodpkaa
