/- Mine: the contracts of the laws' functions that measure, copy and compare mines. -/
import Derived.Test.YtlilmopcikogpaaXAirway
namespace Go.Proofs.Ytlilmopcikogpaa
set_option linter.unusedVariables false
open Go.RowKit
theorem szMine (j : Int) (xs : List Airway) (lo hi : Nat) (v : Value) (l : Int) (w : World) (hv : Sl lo hi w 7 v xs.length (flat Airway.enc xs)) (hs : ∀ x ∈ xs, x.id.size ≤ maxLen) (hl : 0 ≤ l ∧ l ≤ 1048576) :
    Calls Try.prog 9 #[.agg #[.int .i64 j, v], .int .i64 l] w fun e w' => (∃ r, e = .returned (.int .i64 r) ∧ (0 ≤ r → r ≤ 1048576 ∧ xs.length ≤ 1048576 ∧ ∀ x ∈ xs, x.id.size ≤ 1048576)) ∧ Ext w w' := by
  go_enter Try.func9, Try.ntmps9
  go_wp2_with (go_at_call 35; refine (szAirwayS xs lo hi v l _ (hv.ext (by go_tidy; go_grown)) hs hl).mono ?_; rintro e w1 ⟨⟨r, rfl, hr⟩, hE⟩)
  all_goals
    go_ret
    exact ⟨⟨_, rfl, by first | exact hr | (intro; omega)⟩, Ext.tr (by go_tidy; go_grown) hE⟩
theorem toMine (j : Int) (xs : List Airway) (lo hi : Nat) (v : Value) (w : World) (hv : Sl lo hi w 7 v xs.length (flat Airway.enc xs)) (hn : xs.length ≤ 1048576) :
    Calls Try.prog 11 #[.agg #[.int .i64 j, v]] w fun e w' => (∃ v', e = .returned (.agg #[.int .i64 j, v']) ∧ Own w.heap.size w'.heap.size w' 76 7 v' xs.length (flat Airway.enc xs)) ∧ Ext w w' := by
  go_enter Try.func11, Try.ntmps11
  go_wp2_with fail
  generalize hG : World.alloc _ _ = wz
  have hEz : Ext w wz := by rw [← hG]; exact Ext.tr (Ext.new _ _) (Ext.tr (Ext.new _ _) (Ext.new _ _))
  have hzz : w.heap.size + 2 < wz.heap.size := by rw [← hG]; simp
  have g0 : wz.cell? ⟨w.heap.size + 1 + 1, 0, none⟩ = some (.int .i64 j) := by subst hG; go_simp
  have g1 : wz.cell? ⟨w.heap.size + 1 + 1, 1, none⟩ = some (.slice none 0 0) := by subst hG; go_simp
  have f0 : ∀ i, wz.frozen? ⟨w.heap.size + 1 + 1, i, none⟩ = false := fun i => by subst hG; go_simp
  have r0 : wz.cell? ⟨w.heap.size + 1, 0, none⟩ = some (.int .i64 0) := by subst hG; go_simp
  have r1 : wz.cell? ⟨w.heap.size + 1, 1, none⟩ = some (.slice none 0 0) := by subst hG; go_simp
  have rf : ∀ i, wz.frozen? ⟨w.heap.size + 1, i, none⟩ = false := fun i => by subst hG; go_simp
  have B0 : Blk wz (w.heap.size + 1) 31 #[.int .i64 0, .slice none 0 0] := by
    rw [← hG]
    have h1 := (Blk.new (w.alloc (.cells #[.int .i64 j, v] 24)) 31 #[.int .i64 0, .slice none 0 0]).ext (Ext.new _ (.cells #[.int .i64 j, .slice none 0 0] 31))
    rwa [show (w.alloc (.cells #[.int .i64 j, v] 24)).heap.size = w.heap.size + 1 by simp] at h1
  clear hG
  refine (toAirwayS xs lo hi v _ (hv.ext hEz) hn).mono ?_
  rintro e w1 ⟨⟨v', rfl, hO⟩, hE⟩
  have hl := hO.sl
  obtain ⟨_, _, A1, c1, rfl, _, _, _⟩ := hl
  obtain ⟨hc, hf⟩ := bcell hE
  have hz : wz.heap.size ≤ w1.heap.size := hE.size
  have g0' := (hc _ 0 hzz).trans g0
  have g1' := (hc _ 1 hzz).trans g1
  have f0' := fun i => (hf _ i hzz).trans (f0 i)
  have r0' := (hc (w.heap.size + 1) 0 (by omega)).trans r0
  have r1' := (hc (w.heap.size + 1) 1 (by omega)).trans r1
  have rf' := fun i => (hf (w.heap.size + 1) i (by omega)).trans (rf i)
  clear hc hf g0 g1 f0 r0 r1 rf
  have K2 : KeepI (w.heap.size + 1 + 1) wz.heap.size w1 (w1.setCell ⟨w.heap.size + 1 + 1, 1, none⟩ (.slice A1 xs.length c1)) := (KeepI.refl _ _ _).set_ (Nat.le_refl _) hzz _
  have B3 := (((B0.ext hE).keep K2 (.inl (by omega))).set_ 0 (.int .i64 j)).set_ 1 (.slice A1 xs.length c1)
  have k0 := B3.cell 0
  have k1 := B3.cell 1
  simp at k0 k1
  have HB := hid B0
  clear B3 B0
  go_wp2
  have hl2 := (((hO.keep K2 (.inr (by omega))).keep ((KeepI.refl (w.heap.size) wz.heap.size _).set_ (g := w.heap.size + 1) (m := 0) (by omega) (by omega) (.int .i64 j)) (.inr (by omega))).keep ((KeepI.refl (w.heap.size) wz.heap.size _).set_ (g := w.heap.size + 1) (m := 1) (by omega) (by omega) (.slice A1 xs.length c1)) (.inr (by omega)))
  have hEE : Ext w (((w1.setCell ⟨w.heap.size + 1 + 1, 1, none⟩ (.slice A1 xs.length c1)).setCell ⟨w.heap.size + 1, 0, none⟩ (.int .i64 j)).setCell ⟨w.heap.size + 1, 1, none⟩ (.slice A1 xs.length c1)) := by
    have := ((((KeepI.refl w.heap.size w1.heap.size w1).set_ (g := w.heap.size + 1 + 1) (m := 1) (by omega) (by omega) (.slice A1 xs.length c1)).set_ (g := w.heap.size + 1) (m := 0) (by omega) (by omega) (.int .i64 j)).set_ (g := w.heap.size + 1) (m := 1) (by omega) (by omega) (.slice A1 xs.length c1))
    exact this.ext (Ext.tr hEz hE) (Nat.le_refl _)
  refine bodyPost_ret (v := .agg #[.int .i64 j, .slice A1 xs.length c1]) (by simp [results, Try.results11, go_sem, k0, k1]) rfl ⟨⟨_, rfl, ?_⟩, hEE⟩
  exact hl2.more (by omega) (by simp [World.setCell]) (Nat.le_refl _)
theorem eqMine (j : Int) (xs : List Airway) (lo hi lo' hi' : Nat) (v v' : Value) (w : World) (hv : Sl lo hi w 7 v xs.length (flat Airway.enc xs)) (hv' : Sl lo' hi' w 7 v' xs.length (flat Airway.enc xs)) (hn : xs.length ≤ 2097152) :
    Calls Try.prog 14 #[.agg #[.int .i64 j, v], .agg #[.int .i64 j, v']] w fun e w' => e = .returned (.bool true) ∧ Ext w w' := by
  go_enter Try.func14, Try.ntmps14
  go_wp2_with (go_at_call 42; refine (eqAirwayS xs lo hi lo' hi' v v' _ (hv.ext (by go_tidy; go_grown)) (hv'.ext (by go_tidy; go_grown)) hn).mono ?_; rintro e w1 ⟨rfl, hE⟩)
  go_ret
  exact ⟨rfl, Ext.tr (by go_tidy; go_grown) hE⟩
end Go.Proofs.Ytlilmopcikogpaa
