/- Numbers that rise: the contracts of l00Rises and increasing, and a plain law that joins them. -/
import Derived.Test.YtojmfjdbggpllaaWithin
namespace Go.Proofs.Ytojmfjdbggpllaa
set_option linter.unusedVariables false
open Go.RowKit
def ltI (a b : Int) : Bool := decide (a < b)
def risesB (xs : List Int) (a b : Int) : Bool := allOk xs (fun n => inB n a b) ltI
def incB (xs : List Int) : Bool := allOk xs (fun _ => true) ltI
theorem okAt_and {α : Type} {xs : List α} {p : α → Bool} {lt : α → α → Bool} (i : Nat) (h : i < xs.length) : okAt xs p lt i = (okAt xs (fun _ => true) lt i && p xs[i]) := by
  unfold okAt; rw [dif_pos h, dif_pos h]; cases p xs[i] <;> simp
theorem rises_eq (xs : List Int) (a b : Int) : risesB xs a b = (incB xs && allIn xs a b) := by
  rw [Bool.eq_iff_iff]
  unfold risesB incB allIn allOk
  simp only [Bool.and_eq_true, List.all_eq_true, List.mem_range]
  constructor
  · intro h
    refine ⟨fun i hi => ?_, fun x hx => ?_⟩
    · have := h i hi; rw [okAt_and i hi] at this; simp at this; exact this.1
    · obtain ⟨i, hi, rfl⟩ := List.getElem_of_mem hx
      have := h i hi; rw [okAt_and i hi] at this; simp at this; exact this.2
  · rintro ⟨h1, h2⟩ i hi
    rw [okAt_and i hi, h1 i hi, h2 _ (List.getElem_mem hi)]; rfl
theorem rises_in {xs : List Int} {a b : Int} (h : risesB xs a b = true) (k : Nat) (hk : k < xs.length) : a ≤ xs[k] ∧ xs[k] ≤ b := by
  have := allOk_p h k hk; unfold inB at this; simpa using this
set_option maxRecDepth 100000 in
set_option maxHeartbeats 1000000 in
theorem l00Rises (xs : List Int) (a b : Int) (lo hi : Nat) (v : Value) (w : World) (hv : Sl lo hi w 1 v xs.length (flat encI xs)) (hn : xs.length ≤ 1048576) :
    Calls Try.prog 82 #[v, .int .i64 a, .int .i64 b] w fun e w' => e = .returned (.bool (risesB xs a b)) ∧ Ext w w' := by
  obtain ⟨hhi, _, A, c, rfl, hnc, hcm, hcell⟩ := hv
  go_enter Try.func82, Try.ntmps82
  go_wp2
  go_loopw [7] (fun i wr => ∃ k : Nat, k ≤ xs.length ∧ i = .int .i64 k ∧ Hid (OkTo xs (fun n => inB n a b) ltI k) ∧ Ext w wr) (fun i _ => xs.length - (intOf i).toNat)
  case atStart => exact ⟨0, by omega, rfl, hid OkTo.zero, Below.refl _ _⟩
  case round =>
    obtain ⟨k, hk, rfl, hok, hE⟩ := hrel
    by_cases hlt : k < xs.length
    · obtain ⟨b0, off, rfl, hb1, hb2, hc⟩ := hcell (by omega)
      have hbw : b0 < w.heap.size := by omega
      have hki : (k : Int) < xs.length := by omega
      have y0 : ∀ d : Later wr, d.w.cell? ⟨b0, off + k, none⟩ = some (.int .i64 xs[k]) := fun d => ((bcell (Ext.tr hE d.h)).1 _ _ hbw).trans (cellsI hc k hlt)
      have y9 := y0 ⟨wr, Below.refl _ _⟩
      cases h0 : inB xs[k] a b
      · have hcc := (bcell hE).1
        go_wp2
        refine wp_region_later wr (by kernel_rfl) (by kernel_rfl) (Below.refl _ _) ?_
        repeat (go_big_quiet_step ((first | (go_at_call 79; exact qls (l00In _ _ _ _) (vb h0)))))
        refine wpQuiet_nil ?_
        rintro _ ⟨d, rfl⟩
        go_wp2
        go_ret
        exact ⟨ret_bool (by unfold risesB; rw [allOk_noP hlt h0]), Ext.tr hE d.h⟩
      · by_cases hz : 0 < k
        · have hz' : (0 : Int) < k := by omega
          have y1 : ∀ d : Later wr, d.w.cell? ⟨b0, off + (k - 1), none⟩ = some (.int .i64 (xs[k - 1]'(by omega))) := fun d => ((bcell (Ext.tr hE d.h)).1 _ _ hbw).trans (cellsI hc (k - 1) (by omega))
          cases hl : ltI (xs[k - 1]'(by omega)) xs[k]
          · have hq : decide (xs[k] ≤ (xs[k - 1]'(by omega))) = true := by unfold ltI at hl; simp at hl ⊢; omega
            go_wp2
            refine wp_region_later wr (by kernel_rfl) (by kernel_rfl) (Below.refl _ _) ?_
            repeat (go_big_quiet_step ((first | (go_at_call 79; exact qls (l00In _ _ _ _) (vb h0)))))
            refine wpQuiet_nil ?_
            rintro _ ⟨d, rfl⟩
            go_wp2
            go_ret
            exact ⟨ret_bool (by unfold risesB; rw [allOk_noL hlt hz hl]), Ext.tr hE d.h⟩
          · have hq : decide (xs[k] ≤ (xs[k - 1]'(by omega))) = false := by unfold ltI at hl; simp at hl ⊢; omega
            go_wp2
            refine wp_region_later wr (by kernel_rfl) (by kernel_rfl) (Below.refl _ _) ?_
            repeat (go_big_quiet_step ((first | (go_at_call 79; exact qls (l00In _ _ _ _) (vb h0)))))
            refine wpQuiet_nil ?_
            rintro _ ⟨d, rfl⟩
            go_wp2
            go_roundw
            case rel => exact ⟨k + 1, by omega, by go_num, hid (hok.out.succ hlt h0 (fun _ => hl)), Ext.tr hE d.h⟩
            case measure => simp [intOf]; omega
        · have hz' : ¬ (0 : Int) < k := by omega
          go_wp2
          refine wp_region_later wr (by kernel_rfl) (by kernel_rfl) (Below.refl _ _) ?_
          repeat (go_big_quiet_step ((first | (go_at_call 79; exact qls (l00In _ _ _ _) (vb h0)))))
          refine wpQuiet_nil ?_
          rintro _ ⟨d, rfl⟩
          go_wp2
          go_roundw
          case rel => exact ⟨k + 1, by omega, by go_num, hid (hok.out.succ hlt h0 (fun h => absurd h hz)), Ext.tr hE d.h⟩
          case measure => simp [intOf]; omega
    · obtain rfl : k = xs.length := by omega
      go_wp2
      go_ret
      exact ⟨ret_bool (by unfold risesB; rw [hok.out.end_]), hE⟩
theorem okTo_one {xs : List Int} : OkTo xs (fun _ => true) ltI 1 := by
  intro i hi
  obtain rfl : i = 0 := by omega
  unfold okAt; split <;> simp
theorem increasing (xs : List Int) (lo hi : Nat) (v : Value) (w : World) (hv : Sl lo hi w 1 v xs.length (flat encI xs)) (hn : xs.length ≤ 1048576) :
    Calls Try.prog 111 #[v] w fun e w' => e = .returned (.bool (incB xs)) ∧ Ext w w' := by
  obtain ⟨hhi, _, A, c, rfl, hnc, hcm, hcell⟩ := hv
  go_enter Try.func111, Try.ntmps111
  go_wp2
  go_loopw [3] (fun i wr => ∃ k : Nat, 1 ≤ k ∧ k ≤ xs.length + 1 ∧ i = .int .i64 k ∧ Hid (OkTo xs (fun _ => true) ltI k) ∧ Ext w wr) (fun i _ => xs.length + 1 - (intOf i).toNat)
  case atStart => exact ⟨1, by omega, by omega, rfl, hid okTo_one, Below.refl _ _⟩
  case round =>
    obtain ⟨k, hk1, hk, rfl, hok, hE⟩ := hrel
    by_cases hlt : k < xs.length
    · obtain ⟨b0, off, rfl, hb1, hb2, hc⟩ := hcell (by omega)
      have hbw : b0 < w.heap.size := by omega
      have hki : (k : Int) < xs.length := by omega
      have c0 := cellsI hc k hlt
      have c1 := cellsI hc (k - 1) (by omega)
      clear hc
      have hcc := (bcell hE).1
      cases hl : ltI (xs[k - 1]'(by omega)) xs[k]
      · have hq : decide (xs[k] ≤ (xs[k - 1]'(by omega))) = true := by unfold ltI at hl; simp at hl ⊢; omega
        go_wp2
        go_quiet (fail)
        go_wp2
        go_ret
        exact ⟨ret_bool (by unfold incB; rw [allOk_noL hlt (by omega) hl]), Ext.tr hE (Ext.drewN _ _)⟩
      · have hq : decide (xs[k] ≤ (xs[k - 1]'(by omega))) = false := by unfold ltI at hl; simp at hl ⊢; omega
        go_wp2
        go_quiet (fail)
        go_wp2
        go_roundw
        case rel => exact ⟨k + 1, by omega, by omega, by go_num, hid (hok.out.succ hlt rfl (fun _ => hl)), Ext.tr hE (Ext.drewN _ _)⟩
        case measure => simp [intOf]; omega
    · have hki : ¬ (k : Int) < xs.length := by omega
      go_wp2
      go_ret
      exact ⟨ret_bool (by unfold incB; rw [OkTo.end_ (fun i hi => hok.out i (by omega))]), hE⟩
end Go.Proofs.Ytojmfjdbggpllaa
