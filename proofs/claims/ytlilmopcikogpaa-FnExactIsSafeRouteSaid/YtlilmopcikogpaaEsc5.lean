/- The program's escapeOf. -/
import Derived.Test.YtlilmopcikogpaaEsc4
namespace Go.Proofs.Ytlilmopcikogpaa
set_option linter.unusedVariables false
open Go.RowKit
theorem store_ext {w W : World} {g a : Nat} (h : Ext w W) (hg : w.heap.size ≤ g) (v : Value) : Ext w (W.setCell ⟨g, a, none⟩ v) :=
  ((KeepI.refl w.heap.size (g + 1) W).set_ (g := g) (m := a) hg (by omega) v).ext h (Nat.le_refl _)
theorem increasingNil (w : World) : Calls Try.prog 105 #[.slice none 0 0] w fun e w' => e = .returned (.bool true) ∧ w = w' := by
  go_enter Try.func105, Try.ntmps105
  go_wp2
  go_loop [3] (fun i => i = .int .i64 1) (fun _ => 0)
  case atStart => rfl
  case round =>
    subst hrel
    go_wp2
    go_ret
    exact ⟨rfl, rfl⟩
theorem hasNil (j : Int) (v : Value) (w : World) : Calls Try.prog 94 #[.agg #[.int .i64 j, v], .slice none 0 0] w fun e w' => e = .returned (.bool true) ∧ Ext w w' := by
  have hs : ∀ W, Sl 0 0 W 1 (.slice none 0 0) ([] : List Int).length (flat encI []) := fun W => ⟨Nat.zero_le _, rfl, none, 0, rfl, Nat.le_refl _, by decide, fun h => absurd h (by simp)⟩
  go_enter Try.func94, Try.ntmps94
  go_wp2_with (first
    | (go_at_call 105; refine (increasingNil _).mono ?_; rintro e w' ⟨rfl, rfl⟩)
    | (go_at_call 57; refine (cv (allWithin [] _ _ 0 0 _ _ (hs _) (by simp)) (vb (rfl : allIn [] _ _ = true))).mono ?_; rintro e w2 ⟨rfl, hE⟩))
  go_ret
  exact ⟨rfl, Ext.tr (Ext.new _ _) hE⟩
set_option maxRecDepth 100000 in
set_option maxHeartbeats 1000000 in
theorem escapeI (j : Int) (ays : List Airway) (arr : List Int) (bl : Int) (xs : List Crew) (st : Int) (lo hi lo2 hi2 lo3 hi3 : Nat) (v v2 v3 : Value) (w : World) (hv : Sl lo hi w 7 v ays.length (flat Airway.enc ays)) (hsA : ∀ x ∈ ays, x.id.size ≤ maxLen) (hnA : ays.length ≤ 1048576) (hv2 : Sl lo2 hi2 w 1 v2 arr.length (flat encI arr)) (hn2 : arr.length ≤ 1048576) (hv3 : Sl lo3 hi3 w 3 v3 xs.length (flat Crew.enc xs)) (hs : ∀ x ∈ xs, x.id.size ≤ maxLen) (hn3 : xs.length ≤ 1048576) :
    Calls Try.prog 56 #[.agg #[.int .i64 j, v], v2, .int .i64 bl, v3, .int .i64 st, .slice none 0 0] w fun e w' => e = .returned (.tuple #[escV (askE (crewsB j xs) j ays arr bl st) j v v2 bl, .int .i64 (askE (crewsB j xs) j ays arr bl st)]) ∧ Ext w w' := by
  have hv0 := hv
  obtain ⟨_, _, A0, c0, rfl, _, _, _⟩ := hv0
  have hv20 := hv2
  obtain ⟨_, _, A2, c2, rfl, _, _, _⟩ := hv20
  go_enter Try.func56, Try.ntmps56
  go_wp2_with fail
  generalize hG : World.alloc _ _ = wz
  have hE1 : Ext w wz := by rw [← hG]; exact Ext.tr (Ext.new _ _) (Ext.new _ _)
  have hm : MineAt wz w.heap.size 0 j (.slice A0 ays.length c0) := by subst hG; exact ⟨by go_simp, by go_simp⟩
  have HB : Hid (Blk wz (w.heap.size + 1) 91 #[.int .i64 0, .slice none 0 0, .slice none 0 0, .int .i64 0]) := by
    refine hid ?_; rw [← hG]; have := Blk.new (w.alloc (.cells #[.int .i64 j, .slice A0 ays.length c0] 31)) 91 #[.int .i64 0, .slice none 0 0, .slice none 0 0, .int .i64 0]; simpa using this
  clear hG
  obtain ⟨m0, m1⟩ := hm
  have HM := hid (show MineAt wz w.heap.size 0 j (.slice A0 ays.length c0) from ⟨m0, m1⟩)
  cases hM : (mineB j ays && crewsB j xs)
  · have HQ := hid (askE_a (arr := arr) (bl := bl) (st := st) hM)
    go_wp2_with (first | (go_at_call 22; refine (cv (crewsImpl j ays xs _ _ _ _ _ _ _ (hv.ext hE1) hsA hnA (hv3.ext hE1) hs hn3) (vb hM)).mono ?_; rintro e w1 ⟨rfl, hE⟩; have HE := hid hE; have hz1 := hE.size; have HB1 := HB.out.ext hE; obtain ⟨k0, k1⟩ := HM.out.ext hE; clear m0 m1; have e0 : w1.cell? ⟨w.heap.size + 1, 0, none⟩ = some (.int .i64 0) := HB1.cell 0; have e1 : w1.cell? ⟨w.heap.size + 1, 1, none⟩ = some (.slice none 0 0) := HB1.cell 1; have e2 : w1.cell? ⟨w.heap.size + 1, 2, none⟩ = some (.slice none 0 0) := HB1.cell 2; have e3 : w1.cell? ⟨w.heap.size + 1, 3, none⟩ = some (.int .i64 0) := HB1.cell 3; have f0 := HB1.frozen 0; have f1 := HB1.frozen 1; have f2 := HB1.frozen 2; have f3 := HB1.frozen 3; clear HB1))
    (try simp only [Exit.inBlock, Exit.then])
    refine bodyPost_ret (v := .tuple #[.agg #[.int .i64 0, .slice none 0 0, .slice none 0 0, .int .i64 0], .int .i64 1]) ?_ rfl ⟨by rw [HQ.out]; rfl, store_ext (store_ext (store_ext (store_ext (Ext.tr hE1 HE.out) (Nat.le_succ _) _) (Nat.le_succ _) _) (Nat.le_succ _) _) (Nat.le_succ _) _⟩
    rw [results_cell_tmp rfl]
    go_simp
  cases hB : inB bl (-1) ((ays.length : Int) - 1)
  · have HQ := hid (askE_b (arr := arr) (bl := bl) (st := st) hM (by rw [hB]; rfl))
    go_wp2_with (first | (go_at_call 22; refine (cv (crewsImpl j ays xs _ _ _ _ _ _ _ (hv.ext hE1) hsA hnA (hv3.ext hE1) hs hn3) (vb hM)).mono ?_; rintro e w1 ⟨rfl, hE⟩; have HE := hid hE; have hz1 := hE.size; have HB1 := HB.out.ext hE; obtain ⟨k0, k1⟩ := HM.out.ext hE; clear m0 m1; have e0 : w1.cell? ⟨w.heap.size + 1, 0, none⟩ = some (.int .i64 0) := HB1.cell 0; have e1 : w1.cell? ⟨w.heap.size + 1, 1, none⟩ = some (.slice none 0 0) := HB1.cell 1; have e2 : w1.cell? ⟨w.heap.size + 1, 2, none⟩ = some (.slice none 0 0) := HB1.cell 2; have e3 : w1.cell? ⟨w.heap.size + 1, 3, none⟩ = some (.int .i64 0) := HB1.cell 3; have f0 := HB1.frozen 0; have f1 := HB1.frozen 1; have f2 := HB1.frozen 2; have f3 := HB1.frozen 3; clear HB1) | (go_at_call 70; with_reducible refine (cv (within bl _ _ _) (vb hB)).mono ?_; rintro e w' ⟨rfl, rfl⟩))
    (try simp only [Exit.inBlock, Exit.then])
    refine bodyPost_ret (v := .tuple #[.agg #[.int .i64 0, .slice none 0 0, .slice none 0 0, .int .i64 0], .int .i64 2]) ?_ rfl ⟨by rw [HQ.out]; rfl, store_ext (store_ext (store_ext (store_ext (Ext.tr hE1 HE.out) (Nat.le_succ _) _) (Nat.le_succ _) _) (Nat.le_succ _) _) (Nat.le_succ _) _⟩
    rw [results_cell_tmp rfl]
    go_simp
  cases hT : inB st 0 36000
  · have HQ := hid (askE_b (arr := arr) (bl := bl) (st := st) hM (by rw [hB, hT]; rfl))
    go_wp2_with (first | (go_at_call 22; refine (cv (crewsImpl j ays xs _ _ _ _ _ _ _ (hv.ext hE1) hsA hnA (hv3.ext hE1) hs hn3) (vb hM)).mono ?_; rintro e w1 ⟨rfl, hE⟩; have HE := hid hE; have hz1 := hE.size; have HB1 := HB.out.ext hE; obtain ⟨k0, k1⟩ := HM.out.ext hE; clear m0 m1; have e0 : w1.cell? ⟨w.heap.size + 1, 0, none⟩ = some (.int .i64 0) := HB1.cell 0; have e1 : w1.cell? ⟨w.heap.size + 1, 1, none⟩ = some (.slice none 0 0) := HB1.cell 1; have e2 : w1.cell? ⟨w.heap.size + 1, 2, none⟩ = some (.slice none 0 0) := HB1.cell 2; have e3 : w1.cell? ⟨w.heap.size + 1, 3, none⟩ = some (.int .i64 0) := HB1.cell 3; have f0 := HB1.frozen 0; have f1 := HB1.frozen 1; have f2 := HB1.frozen 2; have f3 := HB1.frozen 3; clear HB1) | (go_at_call 70; with_reducible refine (cv (within bl _ _ _) (vb hB)).mono ?_; rintro e w' ⟨rfl, rfl⟩) | (go_at_call 70; with_reducible refine (cv (within st _ _ _) (vb hT)).mono ?_; rintro e w' ⟨rfl, rfl⟩))
    (try simp only [Exit.inBlock, Exit.then])
    refine bodyPost_ret (v := .tuple #[.agg #[.int .i64 0, .slice none 0 0, .slice none 0 0, .int .i64 0], .int .i64 2]) ?_ rfl ⟨by rw [HQ.out]; rfl, store_ext (store_ext (store_ext (store_ext (Ext.tr hE1 HE.out) (Nat.le_succ _) _) (Nat.le_succ _) _) (Nat.le_succ _) _) (Nat.le_succ _) _⟩
    rw [results_cell_tmp rfl]
    go_simp
  cases hJ : ((arr.length : Int) != j)
  rotate_left
  · have HQ := hid (askE_c (arr := arr) (bl := bl) (st := st) hM (by rw [hB, hT]; rfl) (by unfold arrB; simp at hJ; simp [hJ]))
    go_wp2_with (first | (go_at_call 22; refine (cv (crewsImpl j ays xs _ _ _ _ _ _ _ (hv.ext hE1) hsA hnA (hv3.ext hE1) hs hn3) (vb hM)).mono ?_; rintro e w1 ⟨rfl, hE⟩; have HE := hid hE; have hz1 := hE.size; have HB1 := HB.out.ext hE; obtain ⟨k0, k1⟩ := HM.out.ext hE; clear m0 m1; have e0 : w1.cell? ⟨w.heap.size + 1, 0, none⟩ = some (.int .i64 0) := HB1.cell 0; have e1 : w1.cell? ⟨w.heap.size + 1, 1, none⟩ = some (.slice none 0 0) := HB1.cell 1; have e2 : w1.cell? ⟨w.heap.size + 1, 2, none⟩ = some (.slice none 0 0) := HB1.cell 2; have e3 : w1.cell? ⟨w.heap.size + 1, 3, none⟩ = some (.int .i64 0) := HB1.cell 3; have f0 := HB1.frozen 0; have f1 := HB1.frozen 1; have f2 := HB1.frozen 2; have f3 := HB1.frozen 3; clear HB1) | (go_at_call 70; with_reducible refine (cv (within bl _ _ _) (vb hB)).mono ?_; rintro e w' ⟨rfl, rfl⟩) | (go_at_call 70; with_reducible refine (cv (within st _ _ _) (vb hT)).mono ?_; rintro e w' ⟨rfl, rfl⟩))
    (try simp only [Exit.inBlock, Exit.then])
    refine bodyPost_ret (v := .tuple #[.agg #[.int .i64 0, .slice none 0 0, .slice none 0 0, .int .i64 0], .int .i64 7]) ?_ rfl ⟨by rw [HQ.out]; rfl, store_ext (store_ext (store_ext (store_ext (Ext.tr hE1 HE.out) (Nat.le_succ _) _) (Nat.le_succ _) _) (Nat.le_succ _) _) (Nat.le_succ _) _⟩
    rw [results_cell_tmp rfl]
    go_simp
  have HJ : Hid ((arr.length : Int) = j) := hid (by simpa using hJ)
  cases hR : allIn arr (-1) 1000000000000
  · have HQ := hid (askE_c (arr := arr) (bl := bl) (st := st) hM (by rw [hB, hT]; rfl) (arr_no hR))
    go_wp2_with (first | (go_at_call 22; refine (cv (crewsImpl j ays xs _ _ _ _ _ _ _ (hv.ext hE1) hsA hnA (hv3.ext hE1) hs hn3) (vb hM)).mono ?_; rintro e w1 ⟨rfl, hE⟩; have HE := hid hE; have hz1 := hE.size; have HB1 := HB.out.ext hE; obtain ⟨k0, k1⟩ := HM.out.ext hE; clear m0 m1; have e0 : w1.cell? ⟨w.heap.size + 1, 0, none⟩ = some (.int .i64 0) := HB1.cell 0; have e1 : w1.cell? ⟨w.heap.size + 1, 1, none⟩ = some (.slice none 0 0) := HB1.cell 1; have e2 : w1.cell? ⟨w.heap.size + 1, 2, none⟩ = some (.slice none 0 0) := HB1.cell 2; have e3 : w1.cell? ⟨w.heap.size + 1, 3, none⟩ = some (.int .i64 0) := HB1.cell 3; have f0 := HB1.frozen 0; have f1 := HB1.frozen 1; have f2 := HB1.frozen 2; have f3 := HB1.frozen 3; clear HB1) | (go_at_call 70; with_reducible refine (cv (within bl _ _ _) (vb hB)).mono ?_; rintro e w' ⟨rfl, rfl⟩) | (go_at_call 70; with_reducible refine (cv (within st _ _ _) (vb hT)).mono ?_; rintro e w' ⟨rfl, rfl⟩) | (go_at_call 57; refine (cv (allWithin arr _ _ _ _ _ _ (hv2.ext (Ext.tr hE1 HE.out)) hn2) (vb hR)).mono ?_; rintro e w2 ⟨rfl, hE2⟩; have HB2 := HB.out.ext (Ext.tr HE.out hE2); obtain ⟨l0, l1⟩ := HM.out.ext (Ext.tr HE.out hE2); clear k0 k1 e0 e1 e2 e3 f0 f1 f2 f3; have e0 : w2.cell? ⟨w.heap.size + 1, 0, none⟩ = some (.int .i64 0) := HB2.cell 0; have e1 : w2.cell? ⟨w.heap.size + 1, 1, none⟩ = some (.slice none 0 0) := HB2.cell 1; have e2 : w2.cell? ⟨w.heap.size + 1, 2, none⟩ = some (.slice none 0 0) := HB2.cell 2; have e3 : w2.cell? ⟨w.heap.size + 1, 3, none⟩ = some (.int .i64 0) := HB2.cell 3; have f0 := HB2.frozen 0; have f1 := HB2.frozen 1; have f2 := HB2.frozen 2; have f3 := HB2.frozen 3; clear HB2))
    (try simp only [Exit.inBlock, Exit.then])
    refine bodyPost_ret (v := .tuple #[.agg #[.int .i64 0, .slice none 0 0, .slice none 0 0, .int .i64 0], .int .i64 7]) ?_ rfl ⟨by rw [HQ.out]; rfl, store_ext (store_ext (store_ext (store_ext (Ext.tr hE1 (Ext.tr HE.out hE2)) (Nat.le_succ _) _) (Nat.le_succ _) _) (Nat.le_succ _) _) (Nat.le_succ _) _⟩
    rw [results_cell_tmp rfl]
    go_simp
  · have HQ := hid (askE_d (arr := arr) (bl := bl) (st := st) hM (by rw [hB, hT]; rfl) (by rw [arr_all hR]; simpa using HJ.out))
    go_wp2_with (first | (go_at_call 22; refine (cv (crewsImpl j ays xs _ _ _ _ _ _ _ (hv.ext hE1) hsA hnA (hv3.ext hE1) hs hn3) (vb hM)).mono ?_; rintro e w1 ⟨rfl, hE⟩; have HE := hid hE; have hz1 := hE.size; have HB1 := HB.out.ext hE; obtain ⟨k0, k1⟩ := HM.out.ext hE; clear m0 m1; have e0 : w1.cell? ⟨w.heap.size + 1, 0, none⟩ = some (.int .i64 0) := HB1.cell 0; have e1 : w1.cell? ⟨w.heap.size + 1, 1, none⟩ = some (.slice none 0 0) := HB1.cell 1; have e2 : w1.cell? ⟨w.heap.size + 1, 2, none⟩ = some (.slice none 0 0) := HB1.cell 2; have e3 : w1.cell? ⟨w.heap.size + 1, 3, none⟩ = some (.int .i64 0) := HB1.cell 3; have f0 := HB1.frozen 0; have f1 := HB1.frozen 1; have f2 := HB1.frozen 2; have f3 := HB1.frozen 3; clear HB1) | (go_at_call 70; with_reducible refine (cv (within bl _ _ _) (vb hB)).mono ?_; rintro e w' ⟨rfl, rfl⟩) | (go_at_call 70; with_reducible refine (cv (within st _ _ _) (vb hT)).mono ?_; rintro e w' ⟨rfl, rfl⟩) | (go_at_call 57; refine (cv (allWithin arr _ _ _ _ _ _ (hv2.ext (Ext.tr hE1 HE.out)) hn2) (vb hR)).mono ?_; rintro e w2 ⟨rfl, hE2⟩; have HB2 := HB.out.ext (Ext.tr HE.out hE2); obtain ⟨l0, l1⟩ := HM.out.ext (Ext.tr HE.out hE2); clear k0 k1 e0 e1 e2 e3 f0 f1 f2 f3; have e0 : w2.cell? ⟨w.heap.size + 1, 0, none⟩ = some (.int .i64 0) := HB2.cell 0; have e1 : w2.cell? ⟨w.heap.size + 1, 1, none⟩ = some (.slice none 0 0) := HB2.cell 1; have e2 : w2.cell? ⟨w.heap.size + 1, 2, none⟩ = some (.slice none 0 0) := HB2.cell 2; have e3 : w2.cell? ⟨w.heap.size + 1, 3, none⟩ = some (.int .i64 0) := HB2.cell 3; have f0 := HB2.frozen 0; have f1 := HB2.frozen 1; have f2 := HB2.frozen 2; have f3 := HB2.frozen 3; clear HB2) | (go_at_call 94; refine (hasNil j _ _).mono ?_; rintro e w3 ⟨rfl, hE3⟩; have HB3 := HB.out.ext (Ext.tr HE.out (Ext.tr hE2 hE3)); obtain ⟨p0, p1⟩ := HM.out.ext (Ext.tr HE.out (Ext.tr hE2 hE3)); clear l0 l1 e0 e1 e2 e3 f0 f1 f2 f3; have e0 : w3.cell? ⟨w.heap.size + 1, 0, none⟩ = some (.int .i64 0) := HB3.cell 0; have e1 : w3.cell? ⟨w.heap.size + 1, 1, none⟩ = some (.slice none 0 0) := HB3.cell 1; have e2 : w3.cell? ⟨w.heap.size + 1, 2, none⟩ = some (.slice none 0 0) := HB3.cell 2; have e3 : w3.cell? ⟨w.heap.size + 1, 3, none⟩ = some (.int .i64 0) := HB3.cell 3; have f0 := HB3.frozen 0; have f1 := HB3.frozen 1; have f2 := HB3.frozen 2; have f3 := HB3.frozen 3; clear HB3))
    (try simp only [Exit.inBlock, Exit.then])
    refine bodyPost_ret (v := .tuple #[.agg #[.int .i64 j, .slice A0 ays.length c0, .slice A2 arr.length c2, .int .i64 bl], .int .i64 0]) ?_ rfl ⟨by rw [HQ.out]; rfl, store_ext (store_ext (store_ext (store_ext (Ext.tr hE1 (Ext.tr HE.out (Ext.tr hE2 hE3))) (Nat.le_succ _) _) (Nat.le_succ _) _) (Nat.le_succ _) _) (Nat.le_succ _) _⟩
    rw [results_cell_tmp rfl]
    go_simp
end Go.Proofs.Ytlilmopcikogpaa
