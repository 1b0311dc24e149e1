/- Contracts of DrillsDue: the program's function. -/
import Derived.Test.YtibmcailjodpkaaO29
namespace Go.Proofs.Ytibmcailjodpkaa
set_option linter.unusedVariables false
open Go.RowKit
theorem row_base {w : World} {base base' e K n : Nat} {v : Value} {xs : List Value} (h : w.ownsRow base e K v n xs) (hb : base' ≤ base) : w.ownsRow base' e K v n xs := by
  refine ⟨h.1, ?_⟩
  rcases h.2 with h0 | ⟨g, cap, cur, e1, e2, e3⟩
  · exact .inl h0
  · exact .inr ⟨g, cap, cur, e1, Nat.le_trans hb e2, e3⟩
set_option maxRecDepth 100000 in
set_option maxHeartbeats 4000000 in
theorem implDrillsDue (xs : List Drill) (cs : List ByteArray) (f iv : Int) (lo hi lo2 hi2 : Nat) (v v2 : Value) (w : World) (hv : Sl lo hi w 5 v xs.length (flat Drill.enc xs)) (hs : ∀ x ∈ xs, x.crew.size ≤ maxLen) (hn : xs.length ≤ 1048576) (hv2 : Sl lo2 hi2 w 1 v2 cs.length (flat encT cs)) (hsh2 : Shape v2 cs.length) (hs2 : ∀ x ∈ cs, x.size ≤ maxLen) (hn2 : cs.length ≤ 1048576) :
    Calls Try.prog 29 #[v, v2, .int .i64 f, .int .i64 iv] w fun e w' => (∃ v', e = .returned (.tuple #[v', .int .i64 (dueR xs cs f iv).2]) ∧ Own w.heap.size w'.heap.size w' 9 1 v' (dueR xs cs f iv).1.length (flat encT (dueR xs cs f iv).1)) ∧ Ext w w' := by
  have hv0 := hv
  obtain ⟨hhi, _, A, c, rfl, hnc, hcm, hcell⟩ := hv0
  clear hcell
  have HSH := hid hsh2
  clear hsh2
  go_enter Try.func29, Try.ntmps29
  go_wp2_with fail
  generalize hG : ((w.alloc _).alloc _).alloc _ = wz
  have hEz : Ext w wz := by rw [← hG]; exact Ext.tr (Ext.new _ _) (Ext.tr (Ext.new _ _) (Ext.new _ _))
  have zz : w.heap.size + 3 ≤ wz.heap.size := by rw [← hG]; simp
  have B1 : Blk wz w.heap.size 25 #[.slice A xs.length c] := by
    rw [← hG]; exact ((Blk.new _ _ _).ext (Ext.new _ _)).ext (Ext.new _ _)
  have B2 : Blk wz (w.heap.size + 1) 2 #[.int .i64 f] := by
    rw [← hG]
    have h1 := (Blk.new (w.alloc (.cells #[.slice A xs.length c] 25)) 2 #[.int .i64 f]).ext (Ext.new _ (.cells #[.int .i64 iv] 2))
    simpa using h1
  have B3 : Blk wz (w.heap.size + 2) 2 #[.int .i64 iv] := by
    rw [← hG]
    have h1 := Blk.new ((w.alloc (.cells #[.slice A xs.length c] 25)).alloc (.cells #[.int .i64 f] 2)) 2 #[.int .i64 iv]
    simpa using h1
  clear hG
  cases h1 : drillsB xs
  · have HQ := hid (dueR_no cs f iv h1)
    refine (cv (implValidDrills xs lo hi _ _ (hv.ext hEz) hs hn) (vb h1)).mono ?_
    rintro e w1 ⟨rfl, hE1⟩
    go_wp2
    go_ret2
    exact ⟨⟨_, by rw [HQ.out]; rfl, by rw [HQ.out]; exact Own.nil _ _ (Ext.tr hEz hE1)⟩, Ext.tr hEz hE1⟩
  refine (cv (implValidDrills xs lo hi _ _ (hv.ext hEz) hs hn) (vb h1)).mono ?_
  rintro e w1 ⟨rfl, hE1⟩
  have hE := Ext.tr hEz hE1
  replace B1 := B1.ext hE1
  replace B2 := B2.ext hE1
  replace B3 := B3.ext hE1
  have hz1 := hE1.size
  clear hE1 hEz
  have q1 : w1.cell? ⟨w.heap.size, 0, none⟩ = some (.slice A xs.length c) := B1.cell 0
  have q2 : w1.cell? ⟨w.heap.size + 1, 0, none⟩ = some (.int .i64 f) := B2.cell 0
  have q3 : w1.cell? ⟨w.heap.size + 2, 0, none⟩ = some (.int .i64 iv) := B3.cell 0
  cases h2 : namesB cs
  · have HQ := hid (dueR_range h1 (show argsB cs f iv = false by unfold argsB; rw [h2]; rfl))
    go_wp2_with (go_at_call 56; refine (cv (crewNames cs lo2 hi2 _ _ (hv2.ext hE) hs2 hn2) (vb h2)).mono ?_; rintro e w' ⟨rfl, rfl⟩)
    go_ret2
    exact ⟨⟨_, by rw [HQ.out]; rfl, by rw [HQ.out]; exact Own.nil _ _ hE⟩, hE⟩
  cases h3 : inB f 0 100000
  · have HQ := hid (dueR_range h1 (show argsB cs f iv = false by unfold argsB; rw [h2, h3]; rfl))
    go_wp2_with (first | (go_at_call 56; refine (cv (crewNames cs lo2 hi2 _ _ (hv2.ext hE) hs2 hn2) (vb h2)).mono ?_; rintro e w' ⟨rfl, rfl⟩) | (go_at_call 51; refine (within _ _ _ _).mono ?_; rintro e w' ⟨rfl, rfl⟩; rw [h3]))
    go_ret2
    exact ⟨⟨_, by rw [HQ.out]; rfl, by rw [HQ.out]; exact Own.nil _ _ hE⟩, hE⟩
  cases h4 : inB iv 1 1000
  · have HQ := hid (dueR_range h1 (show argsB cs f iv = false by unfold argsB; rw [h2, h3, h4]; rfl))
    go_wp2_with (first | (go_at_call 56; refine (cv (crewNames cs lo2 hi2 _ _ (hv2.ext hE) hs2 hn2) (vb h2)).mono ?_; rintro e w' ⟨rfl, rfl⟩) | (go_at_call 51; refine (within _ _ _ _).mono ?_; rintro e w' ⟨rfl, rfl⟩; first | rw [h3] | rw [h4]))
    go_ret2
    exact ⟨⟨_, by rw [HQ.out]; rfl, by rw [HQ.out]; exact Own.nil _ _ hE⟩, hE⟩
  have hargs : argsB cs f iv = true := by unfold argsB; rw [h2, h3, h4]; rfl
  have HF := hid (show 0 ≤ f ∧ f ≤ 100000 by unfold inB at h3; simp only [Bool.and_eq_true, decide_eq_true_eq] at h3; exact h3)
  have HI := hid (show 1 ≤ iv ∧ iv ≤ 1000 by unfold inB at h4; simp only [Bool.and_eq_true, decide_eq_true_eq] at h4; exact h4)
  have HQ := hid (dueR_ok h1 hargs)
  have hz : w.heap.size + 3 ≤ w1.heap.size := Nat.le_trans zz hz1
  go_wp2_with (first | (go_at_call 56; refine (cv (crewNames cs lo2 hi2 _ _ (hv2.ext hE) hs2 hn2) (vb h2)).mono ?_; rintro e w' ⟨rfl, rfl⟩) | (go_at_call 51; refine (within _ _ _ _).mono ?_; rintro e w' ⟨rfl, rfl⟩; first | rw [h3] | rw [h4]) | (go_at_call 58; refine (cloneStr cs lo2 hi2 _ _ (hv2.ext hE) HSH.out hn2).mono ?_; rintro e w2 ⟨⟨v', rfl, ho⟩, hE2⟩; have hz2 := hE2.size; have r1 : w2.cell? ⟨w.heap.size, 0, none⟩ = some (.slice A xs.length c) := (B1.ext hE2).cell 0; have r2 : w2.cell? ⟨w.heap.size + 1, 0, none⟩ = some (.int .i64 f) := (B2.ext hE2).cell 0; have r3 : w2.cell? ⟨w.heap.size + 2, 0, none⟩ = some (.int .i64 iv) := (B3.ext hE2).cell 0) | (go_at_call 57; refine (delDue w.heap.size (w.heap.size + 1) (w.heap.size + 2) xs f iv lo hi _ cs _ w1 _ r1 r2 r3 (by omega) (by omega) (by omega) HF.out HI.out (hv.ext (Ext.tr hE hE2)) hn (by omega) (by omega) (by omega) (by omega) hz2 ho hn2).mono ?_; rintro e w3 ⟨⟨v3, rfl, ho3⟩, hB3⟩))
  go_ret2
  refine ⟨⟨_, by rw [HQ.out]; rfl, ?_⟩, (Ext.tr hE hE2).trans (hB3.mono (by omega))⟩
  rw [HQ.out]
  exact Own.of (row_base ho3 (by omega)) (by have := List.length_filter_le (fun c => dueB xs c f iv) cs; show (dueL xs cs f iv).length ≤ _; unfold dueL; omega)
end Go.Proofs.Ytibmcailjodpkaa
