/- AddDrill of the program. -/
import Derived.Test.YtibmcailjodpkaaAddG
import Derived.Test.YtibmcailjodpkaaAddS
import Derived.Deep.RegionHeld3
namespace Go.Proofs.Ytibmcailjodpkaa
set_option linter.unusedVariables false
open Go.RowKit
theorem insertD (xs : List Drill) (x : Drill) (k base gx : Nat) (v : Value) (w : World) (hk : k ≤ xs.length) (hl : xs.length ≤ 32) (hbw : base ≤ w.heap.size) (hne : ∀ g, v.ownBlock = some g → gx ≠ g)
    (hown : w.ownsRow base 52 5 v xs.length (flat Drill.enc xs)) (hx : Blk w gx 52 #[.int .i64 x.day, .string x.crew, .int .i64 x.persons, .int .i64 x.seconds, .int .i64 x.missing]) :
    Calls Try.prog 69 #[v, .int .i64 k, .slice (some ⟨gx, 0, none⟩) 1 1] w fun e w' => (∃ v', e = .returned v' ∧ w'.ownsRow base 52 5 v' (insAt xs k x).length (flat Drill.enc (insAt xs k x))) ∧ Below base w w' := by
  by_cases hkn : k < xs.length
  · rcases hown.2 with ⟨rfl, h0⟩ | ⟨g, cap, cur, rfl, hbg, _, h1, h2, _⟩
    · omega
    · by_cases hr : xs.length + 1 ≤ cap
      · exact insShift xs x k base g cap gx w hkn hl hr h2 hbw hbg (hne g rfl) hown hx
      · exact insGrow xs x k base g cap gx w hkn hl h1 (by omega) hbw (hne g rfl) hown hx
  · obtain rfl : k = xs.length := by omega
    exact insEnd xs x base gx v w hl hbw hown hx
theorem insD_at (xs : List Drill) (x : Drill) : insD xs x = insAt xs (posD xs x) x := rfl
theorem Ext.sz {w w' : World} (h : Ext w w') : w.heap.size ≤ w'.heap.size := Below.size h
theorem row_lowD {w : World} {base b' e K n : Nat} {v : Value} {xs : List Value} (h : w.ownsRow base e K v n xs) (hb : b' ≤ base) : w.ownsRow b' e K v n xs := by
  refine ⟨h.1, ?_⟩
  rcases h.2 with h0 | ⟨g, cap, cur, e1, hbg, r⟩
  · exact .inl h0
  · exact .inr ⟨g, cap, cur, e1, Nat.le_trans hb hbg, r⟩
theorem blk5 {w w5 : World} {cs : Array Value} {t : TypeId} (h : Ext (w.alloc (.cells cs t)).drew w5) : Blk w5 w.heap.size t cs := Blk.ext (w := (w.alloc (.cells cs t)).drew) (Blk.new w t cs) h
theorem binT (xs : List Drill) (x : Drill) (lo hi : Nat) (v : Value) (w : World) (hv : Sl lo hi w 5 v xs.length (flat Drill.enc xs)) (hB : drillsB xs = true) {b : Bool} (hb : hasD xs x = b) :
    Calls Try.prog 68 #[v, .agg #[.int .i64 x.day, .string x.crew, .int .i64 x.persons, .int .i64 x.seconds, .int .i64 x.missing], .func (.func 45) #[] #[]] w fun e w' => e = .returned (.tuple #[.int .i64 (posD xs x), .bool b]) ∧ Ext w w' := by
  subst hb; exact binD xs x lo hi v w hv hB
set_option maxRecDepth 100000 in
set_option maxHeartbeats 2000000 in
theorem implAddDrill (xs : List Drill) (x : Drill) (lo hi : Nat) (v : Value) (w : World) (hv : Sl lo hi w 5 v xs.length (flat Drill.enc xs)) (hsh : Shape v xs.length) (hs : ∀ y ∈ xs, y.crew.size ≤ maxLen) (hn : xs.length ≤ 1048576) (hsx : x.crew.size ≤ maxLen) :
    Calls Try.prog 38 #[v, .agg #[.int .i64 x.day, .string x.crew, .int .i64 x.persons, .int .i64 x.seconds, .int .i64 x.missing]] w fun e w' => (∃ v', e = .returned (.tuple #[v', .int .i64 (addR xs x).2]) ∧ Own w.heap.size w'.heap.size w' 52 5 v' (addR xs x).1.length (flat Drill.enc (addR xs x).1)) ∧ Ext w w' := by
  have hv0 := hv
  obtain ⟨hhi, _, A, c, rfl, hnc, hcm, _⟩ := hv0
  go_enter Try.func38, Try.ntmps38
  go_wp2_with fail
  generalize hG : World.alloc _ _ = wz
  have hE1 : Ext w wz := by rw [← hG]; exact Ext.new _ _
  have HX : Hid (Blk wz w.heap.size 52 #[.int .i64 x.day, .string x.crew, .int .i64 x.persons, .int .i64 x.seconds, .int .i64 x.missing]) := by refine hid ?_; rw [← hG]; exact Blk.new _ _ _
  clear hG
  have HXC : Hid (∀ W, Ext wz W → W.cell? ⟨w.heap.size, 0, none⟩ = some (.int .i64 x.day) ∧ W.cell? ⟨w.heap.size, 1, none⟩ = some (.string x.crew) ∧ W.cell? ⟨w.heap.size, 2, none⟩ = some (.int .i64 x.persons) ∧ W.cell? ⟨w.heap.size, 3, none⟩ = some (.int .i64 x.seconds) ∧ W.cell? ⟨w.heap.size, 4, none⟩ = some (.int .i64 x.missing)) := hid (fun W hW => ⟨(HX.out.ext hW).cell 0, (HX.out.ext hW).cell 1, (HX.out.ext hW).cell 2, (HX.out.ext hW).cell 3, (HX.out.ext hW).cell 4⟩)
  have HOK := hid (implValidDrills xs _ _ _ _ (hv.ext hE1) hs hn)
  cases h1 : drillsB xs
  · have HQ := hid (addR_a x h1)
    go_wp2_with (first | (go_at_call 14; refine (cv HOK.out (vb h1)).mono ?_; rintro e w1 ⟨rfl, hE⟩))
    go_ret2
    exact ⟨⟨_, by rw [HQ.out]; rfl, by rw [HQ.out]; exact Own.nil _ _ (Ext.tr hE1 hE)⟩, Ext.tr hE1 hE⟩
  have hl32 : xs.length ≤ 32 := by unfold drillsB at h1; simp at h1; exact h1.1
  cases h2 : drillB x
  · have HQ := hid (addR_b h1 h2)
    go_wp2_with (first | (go_at_call 14; refine (cv HOK.out (vb h1)).mono ?_; rintro e w1 ⟨rfl, hE⟩; obtain ⟨a0, a1, a2, a3, a4⟩ := HXC.out _ hE; have HE := hid hE) | (go_at_call 68; refine (binT xs x _ _ _ _ (hv.ext (Ext.tr hE1 HE.out)) h1 rfl).mono ?_; rintro e w2 ⟨rfl, hE2⟩; clear a0 a1 a2 a3 a4; obtain ⟨a0, a1, a2, a3, a4⟩ := HXC.out _ (Ext.tr HE.out hE2); have HE2 := hid (Ext.tr HE.out hE2)) | (go_at_call 44; refine (cv (drillValid x _ hsx) (vb h2)).mono ?_; rintro e w3 ⟨rfl, hE3⟩; clear a0 a1 a2 a3 a4; have HE3 := hid (Ext.tr HE2.out hE3)))
    go_ret2
    exact ⟨⟨_, by rw [HQ.out]; rfl, by rw [HQ.out]; exact Own.nil _ _ (Ext.tr hE1 HE3.out)⟩, Ext.tr hE1 HE3.out⟩
  cases h3 : hasD xs x
  rotate_left
  · have HQ := hid (addR_c h1 h2 h3)
    go_wp2_with (first | (go_at_call 14; refine (cv HOK.out (vb h1)).mono ?_; rintro e w1 ⟨rfl, hE⟩; obtain ⟨a0, a1, a2, a3, a4⟩ := HXC.out _ hE; have HE := hid hE) | (go_at_call 68; refine (binT xs x _ _ _ _ (hv.ext (Ext.tr hE1 HE.out)) h1 h3).mono ?_; rintro e w2 ⟨rfl, hE2⟩; clear a0 a1 a2 a3 a4; obtain ⟨a0, a1, a2, a3, a4⟩ := HXC.out _ (Ext.tr HE.out hE2); have HE2 := hid (Ext.tr HE.out hE2)) | (go_at_call 44; refine (cv (drillValid x _ hsx) (vb h2)).mono ?_; rintro e w3 ⟨rfl, hE3⟩; clear a0 a1 a2 a3 a4; have HE3 := hid (Ext.tr HE2.out hE3)))
    go_ret2
    exact ⟨⟨_, by rw [HQ.out]; rfl, by rw [HQ.out]; exact Own.nil _ _ (Ext.tr hE1 HE3.out)⟩, Ext.tr hE1 HE3.out⟩
  by_cases h32 : xs.length = 32
  · have HQ := hid (addR_d h1 h2 h3 h32)
    have h32' : ((xs.length : Int) == 32) = true := by rw [h32]; rfl
    clear h32
    go_wp2_with (first | (go_at_call 14; refine (cv HOK.out (vb h1)).mono ?_; rintro e w1 ⟨rfl, hE⟩; obtain ⟨a0, a1, a2, a3, a4⟩ := HXC.out _ hE; have HE := hid hE) | (go_at_call 68; refine (binT xs x _ _ _ _ (hv.ext (Ext.tr hE1 HE.out)) h1 h3).mono ?_; rintro e w2 ⟨rfl, hE2⟩; clear a0 a1 a2 a3 a4; obtain ⟨a0, a1, a2, a3, a4⟩ := HXC.out _ (Ext.tr HE.out hE2); have HE2 := hid (Ext.tr HE.out hE2)) | (go_at_call 44; refine (cv (drillValid x _ hsx) (vb h2)).mono ?_; rintro e w3 ⟨rfl, hE3⟩; clear a0 a1 a2 a3 a4; have HE3 := hid (Ext.tr HE2.out hE3)))
    go_ret2
    exact ⟨⟨_, by rw [HQ.out]; rfl, by rw [HQ.out]; exact Own.nil _ _ (Ext.tr hE1 HE3.out)⟩, Ext.tr hE1 HE3.out⟩
  have HQ := hid (addR_e h1 h2 h3 h32)
  have h32' : ((xs.length : Int) == 32) = false := by rw [beq_eq_false_iff_ne]; omega
  clear h32
  go_wp2_with (first | (go_at_call 14; refine (cv HOK.out (vb h1)).mono ?_; rintro e w1 ⟨rfl, hE⟩; obtain ⟨a0, a1, a2, a3, a4⟩ := HXC.out _ hE; have HE := hid hE) | (go_at_call 68; refine (binT xs x _ _ _ _ (hv.ext (Ext.tr hE1 HE.out)) h1 h3).mono ?_; rintro e w2 ⟨rfl, hE2⟩; clear a0 a1 a2 a3 a4; obtain ⟨a0, a1, a2, a3, a4⟩ := HXC.out _ (Ext.tr HE.out hE2); have HE2 := hid (Ext.tr HE.out hE2)) | (go_at_call 44; refine (cv (drillValid x _ hsx) (vb h2)).mono ?_; rintro e w3 ⟨rfl, hE3⟩; clear a0 a1 a2 a3 a4; have HE3 := hid (Ext.tr HE2.out hE3)))
  have e0 : ∀ W, Ext w3 W → W.cell? ⟨w.heap.size, 0, none⟩ = some (.int .i64 x.day) := fun W hW => (HXC.out W (Ext.tr HE3.out hW)).1
  have e1 : ∀ W, Ext w3 W → W.cell? ⟨w.heap.size, 1, none⟩ = some (.string x.crew) := fun W hW => (HXC.out W (Ext.tr HE3.out hW)).2.1
  have e2 : ∀ W, Ext w3 W → W.cell? ⟨w.heap.size, 2, none⟩ = some (.int .i64 x.persons) := fun W hW => (HXC.out W (Ext.tr HE3.out hW)).2.2.1
  have e3 : ∀ W, Ext w3 W → W.cell? ⟨w.heap.size, 3, none⟩ = some (.int .i64 x.seconds) := fun W hW => (HXC.out W (Ext.tr HE3.out hW)).2.2.2.1
  have e4 : ∀ W, Ext w3 W → W.cell? ⟨w.heap.size, 4, none⟩ = some (.int .i64 x.missing) := fun W hW => (HXC.out W (Ext.tr HE3.out hW)).2.2.2.2
  go_region_held3 (fun W => Ext w3 W) (first | assumption | exact Ext.drewN _ 1 | exact Ext.tr (by assumption) (Ext.new _ _)) (first
    | (go_at_call 70; refine (cloneD xs _ _ _ _ (hv.ext (Ext.tr hE1 (Ext.tr HE3.out (by assumption)))) hsh hn).mono ?_; rintro e w5 ⟨⟨v5, rfl, ho5⟩, hE5⟩; have hS5 := Ext.tr (by assumption) hE5)
    | (go_at_call 69; with_reducible refine (insertD xs x (posD xs x) w3.heap.size w5.heap.size v5 (w5.alloc _) (posD_le _ _) hl32 (Ext.sz (by assumption)) (fun g hg => by have := (ho5.lt g hg).2; omega) (ho5.alloc _) (Blk.new w5 _ _)).mono ?_; rintro e w6 ⟨⟨v6, rfl, ho6⟩, hB6⟩; have hS6 : Ext w3 w6 := Below.trans (by assumption) hB6)
    | (go_at_call 69; with_reducible refine (insertD xs x (posD xs x) w3.heap.size w3.heap.size v5 w5 (posD_le _ _) hl32 (Ext.sz (by assumption)) (fun g hg => by have := (ho5.lt g hg).1; simp at this; omega) (row_lowD ho5 (by simp)) (blk5 hE5)).mono ?_; rintro e w6 ⟨⟨v6, rfl, ho6⟩, hB6⟩; have hS6 : Ext w3 w6 := Below.trans (by assumption) hB6))
  all_goals
    go_wp2
    go_ret2
    have hE6 : Ext w w6 := Ext.tr hE1 (Ext.tr HE3.out hS6)
    exact ⟨⟨_, by rw [HQ.out]; rfl, by rw [HQ.out]; exact Own.of (row_lowD (by rw [insD_at]; exact ho6) (Ext.sz (Ext.tr hE1 HE3.out))) (by rw [insD_len]; omega)⟩, hE6⟩
end Go.Proofs.Ytibmcailjodpkaa
