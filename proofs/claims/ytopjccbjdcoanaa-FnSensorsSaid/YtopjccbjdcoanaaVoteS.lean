/- VoteOf in both packages. -/
import Derived.Test.YtopjccbjdcoanaaMedM
import Derived.Test.YtopjccbjdcoanaaSen
import Derived.Test.YtopjccbjdcoanaaAppR
namespace Go.Proofs.Ytopjccbjdcoanaa
set_option linter.unusedVariables false
open Go.RowKit
def vot (a b c : List Int) (k : Nat) : Int := mid [at0 a k, at0 b k, at0 c k]
def votes (a b c : List Int) (n : Nat) : List Int := (List.range n).map (vot a b c)
theorem votes_succ (a b c : List Int) (n : Nat) : votes a b c (n + 1) = votes a b c n ++ [vot a b c n] := by unfold votes; rw [List.range_succ, List.map_append]; rfl
theorem votes_len (a b c : List Int) (n : Nat) : (votes a b c n).length = n := by simp [votes]
def voteB (a b c : List Int) : Bool := seriesB a && seriesB b && seriesB c && decide (a.length = b.length) && decide (a.length = c.length)
def voteR (a b c : List Int) : List Int × Int := if voteB a b c then (votes a b c a.length, 0) else ([], 2)
theorem voteR_no {a b c : List Int} (h : voteB a b c = false) : voteR a b c = ([], 2) := by unfold voteR; rw [h]; rfl
theorem voteR_yes {a b c : List Int} (h : voteB a b c = true) : voteR a b c = (votes a b c a.length, 0) := by unfold voteR; rw [h]; rfl
theorem sl_cell0 {lo hi n : Nat} {w : World} {v : Value} {xs : List Int} (h : Sl lo hi w 1 v n (flat encI xs)) (k : Nat) (hk : k < xs.length) (hn : xs.length = n) : ∃ b off c, v = .slice (some ⟨b, off, none⟩) n c ∧ b < hi ∧ w.cell? ⟨b, off + k, none⟩ = some (.int .i64 (at0 xs k)) := by
  obtain ⟨h1, h2, A, c', rfl, h4, h5, h6⟩ := h
  obtain ⟨b, off, rfl, h7, h8, h9⟩ := h6 (by omega)
  exact ⟨b, off, c', rfl, h8, by rw [← at0_of hk]; exact cellsI h9 k hk⟩
theorem three_sl (w : World) (x y z : Int) : Sl 0 (w.alloc (.cells #[.int .i64 x, .int .i64 y, .int .i64 z] 2)).heap.size (w.alloc (.cells #[.int .i64 x, .int .i64 y, .int .i64 z] 2)) 1 (.slice (some ⟨w.heap.size, 0, none⟩) 3 3) 3 (flat encI [x, y, z]) := by
  refine ⟨Nat.le_refl _, rfl, _, 3, rfl, Nat.le_refl _, by decide, fun _ => ⟨w.heap.size, 0, rfl, Nat.zero_le _, by simp, fun j u hu => ?_⟩⟩
  rw [Nat.zero_add, (Blk.new w _ _).cell]
  simpa [flat, encI] using hu
theorem three_slD (w : World) (x y z : Int) : Sl 0 (w.alloc (.cells #[.int .i64 x, .int .i64 y, .int .i64 z] 2)).drew.heap.size (w.alloc (.cells #[.int .i64 x, .int .i64 y, .int .i64 z] 2)).drew 1 (.slice (some ⟨w.heap.size, 0, none⟩) 3 3) 3 (flat encI [x, y, z]) := three_sl w x y z
theorem votes_own {w : World} {base e k : Nat} {v : Value} {a b c : List Int} (h : w.ownsRow base e 1 v (k + 1) (flat encI (votes a b c k) ++ [.int .i64 (mid [at0 a k, at0 b k, at0 c k])])) : w.ownsRow base e 1 v (k + 1) (flat encI (votes a b c (k + 1))) := by
  rw [votes_succ, flat_snoc]; exact h
set_option maxRecDepth 100000 in
set_option maxHeartbeats 1000000 in
theorem specVoteOf (a b c : List Int) (lo hi lo2 hi2 lo3 hi3 : Nat) (v v2 v3 : Value) (w : World) (hv : Sl lo hi w 1 v a.length (flat encI a)) (hn : a.length ≤ 1048576) (hv2 : Sl lo2 hi2 w 1 v2 b.length (flat encI b)) (hn2 : b.length ≤ 1048576) (hv3 : Sl lo3 hi3 w 1 v3 c.length (flat encI c)) (hn3 : c.length ≤ 1048576) :
    Calls Try.prog 35 #[v, v2, v3] w fun e w' => (∃ v', e = .returned (.tuple #[v', .int .i64 (voteR a b c).2]) ∧ Own w.heap.size w'.heap.size w' 2 1 v' (voteR a b c).1.length (flat encI (voteR a b c).1)) ∧ Ext w w' := by
  have S1 := hid (l24Series a lo hi v w hv hn)
  have S2 := hid (l24Series b lo2 hi2 v2 w hv2 hn2)
  have S3 := hid (l24Series c lo3 hi3 v3 w hv3 hn3)
  have HV1 := hid hv
  have HV2 := hid hv2
  have HV3 := hid hv3
  obtain ⟨_, _, A1, c1, rfl, _, _, _⟩ := hv
  obtain ⟨_, _, A2, c2, rfl, _, _, _⟩ := hv2
  obtain ⟨_, _, A3, c3, rfl, _, _, _⟩ := hv3
  cases h1 : seriesB a
  · have HQ := hid (voteR_no (b := b) (c := c) (show voteB a b c = false by unfold voteB; simp [h1]))
    go_enter Try.func35, Try.ntmps35
    go_wp2_with (first | (go_at_call 77; with_reducible refine (cv S1.out (vb h1)).mono ?_; rintro e w1 ⟨rfl, rfl⟩))
    go_ret2
    exact ⟨⟨_, by rw [HQ.out]; rfl, by rw [HQ.out]; exact Own.nil _ _ (Below.refl _ _)⟩, Below.refl _ _⟩
  cases h2 : seriesB b
  · have HQ := hid (voteR_no (c := c) (show voteB a b c = false by unfold voteB; simp [h2]))
    go_enter Try.func35, Try.ntmps35
    go_wp2_with (first | (go_at_call 77; with_reducible refine (cv S1.out (vb h1)).mono ?_; rintro e w1 ⟨rfl, rfl⟩) | (go_at_call 77; with_reducible refine (cv S2.out (vb h2)).mono ?_; rintro e w1 ⟨rfl, rfl⟩))
    go_ret2
    exact ⟨⟨_, by rw [HQ.out]; rfl, by rw [HQ.out]; exact Own.nil _ _ (Below.refl _ _)⟩, Below.refl _ _⟩
  cases h3 : seriesB c
  · have HQ := hid (voteR_no (show voteB a b c = false by unfold voteB; simp [h3]))
    go_enter Try.func35, Try.ntmps35
    go_wp2_with (first | (go_at_call 77; with_reducible refine (cv S1.out (vb h1)).mono ?_; rintro e w1 ⟨rfl, rfl⟩) | (go_at_call 77; with_reducible refine (cv S2.out (vb h2)).mono ?_; rintro e w1 ⟨rfl, rfl⟩) | (go_at_call 77; with_reducible refine (cv S3.out (vb h3)).mono ?_; rintro e w1 ⟨rfl, rfl⟩))
    go_ret2
    exact ⟨⟨_, by rw [HQ.out]; rfl, by rw [HQ.out]; exact Own.nil _ _ (Below.refl _ _)⟩, Below.refl _ _⟩
  have hl1 := series_len h1
  cases e1 : ((a.length : Int) != (b.length : Int))
  rotate_left
  · have HQ := hid (voteR_no (a := a) (b := b) (c := c) (show voteB a b c = false by unfold voteB; simp at e1 ⊢; intro _ _ _ h; omega))
    go_enter Try.func35, Try.ntmps35
    go_wp2_with (first | (go_at_call 77; with_reducible refine (cv S1.out (vb h1)).mono ?_; rintro e w1 ⟨rfl, rfl⟩) | (go_at_call 77; with_reducible refine (cv S2.out (vb h2)).mono ?_; rintro e w1 ⟨rfl, rfl⟩) | (go_at_call 77; with_reducible refine (cv S3.out (vb h3)).mono ?_; rintro e w1 ⟨rfl, rfl⟩))
    go_ret2
    exact ⟨⟨_, by rw [HQ.out]; rfl, by rw [HQ.out]; exact Own.nil _ _ (Below.refl _ _)⟩, Below.refl _ _⟩
  cases e2 : ((a.length : Int) != (c.length : Int))
  rotate_left
  · have HQ := hid (voteR_no (a := a) (b := b) (c := c) (show voteB a b c = false by unfold voteB; simp at e2 ⊢; intro _ _ _ _ h; omega))
    go_enter Try.func35, Try.ntmps35
    go_wp2_with (first | (go_at_call 77; with_reducible refine (cv S1.out (vb h1)).mono ?_; rintro e w1 ⟨rfl, rfl⟩) | (go_at_call 77; with_reducible refine (cv S2.out (vb h2)).mono ?_; rintro e w1 ⟨rfl, rfl⟩) | (go_at_call 77; with_reducible refine (cv S3.out (vb h3)).mono ?_; rintro e w1 ⟨rfl, rfl⟩))
    go_ret2
    exact ⟨⟨_, by rw [HQ.out]; rfl, by rw [HQ.out]; exact Own.nil _ _ (Below.refl _ _)⟩, Below.refl _ _⟩
  have EQ1 : Hid (a.length = b.length) := by simp at e1; exact hid (by omega)
  have EQ2 : Hid (a.length = c.length) := by simp at e2; exact hid (by omega)
  have HQ := hid (voteR_yes (a := a) (b := b) (c := c) (show voteB a b c = true by unfold voteB; simp [h1, h2, h3, EQ1.out.symm, EQ2.out.symm]))
  go_enter Try.func35, Try.ntmps35
  go_wp2_with (first | (go_at_call 77; with_reducible refine (cv S1.out (vb h1)).mono ?_; rintro e w1 ⟨rfl, rfl⟩) | (go_at_call 77; with_reducible refine (cv S2.out (vb h2)).mono ?_; rintro e w1 ⟨rfl, rfl⟩) | (go_at_call 77; with_reducible refine (cv S3.out (vb h3)).mono ?_; rintro e w1 ⟨rfl, rfl⟩))
  clear e1 e2 h1 h2 h3
  go_loopw [8, 9] (fun u i wr => ∃ k : Nat, k ≤ a.length ∧ i = .int .i64 k ∧ wr.ownsRow w.heap.size 2 1 u k (flat encI (votes a b c k)) ∧ Ext w wr) (fun _ i _ => a.length - (intOf i).toNat)
  case atStart => exact ⟨0, Nat.zero_le _, rfl, own_empty w _ _ _ (Nat.le_refl _), Ext.new _ _⟩
  case round =>
    obtain ⟨k, hk, rfl, hown, hE⟩ := hrel
    by_cases hlt : k < a.length
    · obtain ⟨b1, o1, q1, he1, hb1, d1⟩ := sl_cell0 (HV1.out.ext hE) k hlt rfl
      replace hb1 := Nat.lt_of_lt_of_le hb1 HV1.out.1
      obtain ⟨b2, o2, q2, he2, hb2, d2⟩ := sl_cell0 (HV2.out.ext hE) k (by have := EQ1.out; omega) rfl
      replace hb2 := Nat.lt_of_lt_of_le hb2 HV2.out.1
      obtain ⟨b3, o3, q3, he3, hb3, d3⟩ := sl_cell0 (HV3.out.ext hE) k (by have := EQ2.out; omega) rfl
      replace hb3 := Nat.lt_of_lt_of_le hb3 HV3.out.1
      simp only [Value.slice.injEq, true_and] at he1 he2 he3
      obtain ⟨rfl, rfl⟩ := he1
      obtain ⟨rfl, rfl⟩ := he2
      obtain ⟨rfl, rfl⟩ := he3
      have hki : (k : Int) < a.length := by omega
      have hk2 : (k : Int) < b.length := by have := EQ1.out; omega
      have hk3 : (k : Int) < c.length := by have := EQ2.out; omega
      have HE := hid hE
      have hz := hE.size
      have B0 : Below w.heap.size wr wr := Below.refl _ _
      have l1 : b1 < w.heap.size := hb1
      have D1 : ∀ W, Below w.heap.size wr W → W.cell? ⟨b1, o1 + k, none⟩ = some (.int .i64 (at0 a k)) := fun W hW => (World.cell?_of_block (w := wr) (hW.block b1 hb1)).trans d1
      have D2 : ∀ W, Below w.heap.size wr W → W.cell? ⟨b2, o2 + k, none⟩ = some (.int .i64 (at0 b k)) := fun W hW => (World.cell?_of_block (w := wr) (hW.block b2 hb2)).trans d2
      have D3 : ∀ W, Below w.heap.size wr W → W.cell? ⟨b3, o3 + k, none⟩ = some (.int .i64 (at0 c k)) := fun W hW => (World.cell?_of_block (w := wr) (hW.block b3 hb3)).trans d3
      have HO := hid hown
      clear d1 d2 d3 hown hE
      go_wp2_with fail
      go_region_held3 (fun W => Below w.heap.size wr W) (first | assumption | exact Below.drew (by assumption) | exact keepA (by assumption) hz _) (first
        | (go_at_call 79; refine (l24Middle [at0 a k, at0 b k, at0 c k] _ _ _ _ (three_slD wr _ _ _) (by simp)).mono ?_; rintro e w5 ⟨rfl, hE5⟩; have hB5 := keepE (by assumption) hz hE5)
        | (refine step_append_one _ rfl (.tmp 44) (.tmp 59) _ rfl w.heap.size 2 8 _ Try.underlying27 infoInt rfl (by omega) _ k _ ((ownE ((HO.out.alloc _).drew) hE5).alloc _) rfl _ rfl w5.heap.size rfl ((Blk.new w5 _ _).cell 0) (by omega) (by have := hB5.size; simp; omega) ?_; intro v6 w6 ho6 hb6; have hB6 := Below.trans (keepA hB5 hz _) hb6))
      go_wp2
      go_roundw
      case rel => exact ⟨k + 1, by omega, by go_num, votes_own ho6, Below.trans HE.out hB6⟩
      case measure => simp [intOf]; omega
    · obtain rfl : k = a.length := by omega
      go_wp2
      go_ret2
      exact ⟨⟨_, by rw [HQ.out]; rfl, by rw [HQ.out, votes_len]; exact Own.of hown (by omega)⟩, hE⟩
end Go.Proofs.Ytopjccbjdcoanaa
