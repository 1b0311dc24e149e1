/- A history with a further version: the note's l27Add and CommitState. -/
import Derived.Test.YthffakaddohlnaaCmS
import Derived.Test.YthffakaddohlnaaApp4
import Derived.Test.YthffakaddohlnaaWLine
namespace Go.Proofs.Ythffakaddohlnaa
set_option linter.unusedVariables false
open Go.RowKit
def addV (xs : List Version) (parent : Int) (memo : ByteArray) (st : List Setting) : List Version := xs ++ [⟨(xs.length : Int) + 1, parent, memo, st⟩]
theorem GrowN.ahead {α : Type} {N : Nest α} {t t2 lo lo' hi' K' n' : Nat} {t' : TypeId} {w W : World} {v u : Value} {ys : List (α × Value)} {xs : List Value} (h : GrowN N t t2 lo w v ys) (hu : Own lo' hi' W t' K' u n' xs) (hl : hi' ≤ lo) : Apart v u ∧ ∀ q ∈ ys, Apart q.2 u :=
  ⟨fun g g1 g2 => by have := (h.2.1.lt g g1).1; have := hu.blk g g2; omega, fun q hq => (h.2.2.1 q hq).apart hu (.inr hl)⟩
theorem lenOf {ys : List (Version × Value)} {xs : List Version} (h : ys.map Prod.fst = xs) : ys.length = xs.length := by subst h; simp
theorem apS {w4 wq W : World} (h : Ext w4 wq) (h2 : Ext wq W) : w4.heap.size ≤ W.heap.size := Nat.le_trans (Below.size h) (Below.size h2)
theorem ltS {α : Type} {N : Nest α} {t t2 : TypeId} {W w5 wq : World} {v : Value} {ys : List (α × Value)} (h : GrowN N t t2 W.heap.size w5 v ys) (h2 : Ext wq W) : ∀ k, v.ownBlock = some k → wq.heap.size ≤ k := fun k hk => Nat.le_trans (Below.size h2) (h.2.1.lt k hk).1
theorem blk5 {w w5 : World} {cs : Array Value} {t : TypeId} (h : Ext (w.alloc (.cells cs t)).drew w5) : Blk w5 w.heap.size t cs := Blk.ext (w := (w.alloc (.cells cs t)).drew) (Blk.new w t cs) h
theorem Ext.sz {w w' : World} (h : Ext w w') : w.heap.size ≤ w'.heap.size := Below.size h
set_option maxRecDepth 100000 in
set_option maxHeartbeats 2000000 in
theorem l27Add (xs : List Version) (parent : Int) (memo : ByteArray) (st : List Setting) (lo hi lo2 hi2 : Nat) (v v2 : Value) (w : World) (hv : SlVS lo hi w v xs) (hn : totN nV xs + xs.length ≤ 1048576) (hl : ¬ xs.length = 32) (hl2 : xs.length ≤ 32) (hv2 : Sl lo2 hi2 w 2 v2 st.length (flat Setting.enc st)) (hsh : Shape v2 st.length) (hn2 : st.length ≤ 1048576) :
    Calls Try.prog 73 #[v, .int .i64 parent, .string memo, v2] w fun e w' => (∃ v' ys, e = .returned (.tuple #[v', .int .i64 0]) ∧ ys.map Prod.fst = addV xs parent memo st ∧ GrowN nV 69 61 w.heap.size w' v' ys) ∧ Ext w w' := by
  have hv0 := hv
  obtain ⟨ps, hps, ⟨hhi, _, A, c, rfl, hnc, hcm, _⟩, _, _⟩ := hv0
  have hl' : ((xs.length : Int) == 32) = false := by rw [beq_eq_false_iff_ne]; omega
  clear hps
  go_enter Try.func73, Try.ntmps73
  go_wp2_with (first
    | (at_builtin; refine wp_appendN (World.alloc _ _) rfl (.tmp 19) (.tmp 20) _ rfl w.heap.size 61 2 24 _ Try.underlying25 infoSetting rfl (by omega) (by omega) _ 0 [] (own_emptyB rfl (by simp)) rfl _ _ st.length _ _ (hv2.ext (Ext.new _ _)) hsh rfl (setting_one _) (by omega) (by simp; try omega) ?_; intro v4 w4 ho4 hb4; rw [Nat.zero_add, List.nil_append] at ho4; obtain ⟨A4, c4, rfl⟩ := row_slice ho4))
  generalize hG : World.alloc w4 _ = wq
  have HQ4 : Hid (Ext w4 wq) := by refine hid ?_; rw [← hG]; exact Ext.new _ _
  have HEq : Hid (Ext w wq) := hid (Ext.tr ((Ext.new w _).trans hb4) HQ4.out)
  have HB : Hid (Blk wq w4.heap.size 69 #[.int .i64 ((xs.length : Int) + 1), .int .i64 parent, .string memo, .slice A4 st.length c4]) := by refine hid ?_; rw [← hG]; exact Blk.new _ _ _
  have HO4 := hid (Own.of ho4 (by omega))
  clear hG
  have e0 : ∀ W, Ext wq W → W.cell? ⟨w4.heap.size, 0, none⟩ = some (.int .i64 ((xs.length : Int) + 1)) := fun W hW => (HB.out.ext hW).cell 0
  have e1 : ∀ W, Ext wq W → W.cell? ⟨w4.heap.size, 1, none⟩ = some (.int .i64 parent) := fun W hW => (HB.out.ext hW).cell 1
  have e2 : ∀ W, Ext wq W → W.cell? ⟨w4.heap.size, 2, none⟩ = some (.string memo) := fun W hW => (HB.out.ext hW).cell 2
  have e3 : ∀ W, Ext wq W → W.cell? ⟨w4.heap.size, 3, none⟩ = some (.slice A4 st.length c4) := fun W hW => (HB.out.ext hW).cell 3
  have hwq : w.heap.size ≤ wq.heap.size := HEq.out.size
  go_region_held3 (fun W => Ext wq W) (first | assumption | exact Ext.drewN _ 1 | exact Ext.tr (by assumption) (Ext.new _ _)) (first
    | (go_at_call 84; refine (l27Own xs _ _ _ _ (hv.ext (Ext.tr HEq.out (by assumption))) hn).mono ?_; rintro e w5 ⟨⟨v5, ys, rfl, hys, hG5⟩, hE5⟩; have hS5 := Ext.tr (by assumption) hE5; have hyl : ys.length = xs.length := lenOf hys; have HAP := GrowN.ahead hG5 HO4.out (apS HQ4.out (by assumption)); have HLT := ltS hG5 (by assumption); have HG5 := hid (hG5.low (Nat.le_trans hwq (Ext.sz (by assumption)))))
    | (refine step_grow (w5.alloc _) rfl (.tmp 24) (.tmp 26) _ rfl w.heap.size 69 56 _ Try.underlying33 infoVersion rfl (by decide) (by omega) 61 _ ys (HG5.out.ext (Ext.new _ _)) rfl (⟨(xs.length : Int) + 1, parent, memo, st⟩, .slice A4 st.length c4) rfl (one_ver _ rfl) w5.heap.size (Blk.new w5 _ _) rfl (by have := hyl; omega) ((HO4.out.ext (Ext.tr HQ4.out (Ext.tr hS5 (Ext.new w5 _)))).more (Nat.le_refl _) (Ext.sz (Ext.tr HQ4.out (Ext.tr hS5 (Ext.new w5 _)))) (Nat.le_refl _)) HAP.1 HAP.2 wq.heap.size (Ext.sz (Ext.tr hS5 (Ext.new w5 _))) HLT ?_; intro v6 w6 hG6 hb6; have hS6 : Ext wq w6 := Below.trans (Ext.tr hS5 (Ext.new w5 _)) hb6)
    | (refine step_grow w5 rfl (.tmp 24) (.tmp 26) _ rfl w.heap.size 69 56 _ Try.underlying33 infoVersion rfl (by decide) (by omega) 61 _ ys HG5.out rfl (⟨(xs.length : Int) + 1, parent, memo, st⟩, .slice A4 st.length c4) rfl (one_ver _ rfl) wq.heap.size (blk5 hE5) rfl (by have := hyl; omega) ((HO4.out.ext (Ext.tr HQ4.out hS5)).more (Nat.le_refl _) (Ext.sz (Ext.tr HQ4.out hS5)) (Nat.le_refl _)) HAP.1 HAP.2 wq.heap.size (Ext.sz hS5) HLT ?_; intro v6 w6 hG6 hb6; have hS6 : Ext wq w6 := Below.trans hS5 hb6))
  all_goals
    go_wp2
    go_ret2
    exact ⟨⟨_, _, rfl, by rw [List.map_append, hys]; rfl, hG6⟩, Ext.tr HEq.out hS6⟩
theorem l27AddFull (xs : List Version) (parent : Int) (memo : ByteArray) (st : List Setting) (lo hi : Nat) (v v2 : Value) (w : World) (hv : SlV lo hi w v xs) (hl : xs.length = 32) :
    Calls Try.prog 73 #[v, .int .i64 parent, .string memo, v2] w fun e w' => e = .returned (.tuple #[.slice none 0 0, .int .i64 5]) ∧ Ext w w' := by
  obtain ⟨ps, hps, ⟨hhi, _, A, c, rfl, hnc, hcm, _⟩, _⟩ := hv.opn
  have hl' : ((xs.length : Int) == 32) = true := by rw [hl]; rfl
  clear hl hps
  go_enter Try.func73, Try.ntmps73
  go_wp2
  go_ret2
  exact ⟨rfl, Below.refl _ _⟩
def commitR (xs : List Version) (parent : Int) (memo : ByteArray) (st : List Setting) : List Version × Int :=
  if histB xs && memoB memo && stateOkB st then (if inB parent 0 xs.length then (if xs.length = 32 then ([], 5) else (addV xs parent memo st, 0)) else ([], 3)) else ([], 1)
section
variable {xs : List Version} {parent : Int} {memo : ByteArray} {st : List Setting}
theorem commitR_a (h : (histB xs && memoB memo && stateOkB st) = false) : commitR xs parent memo st = ([], 1) := by unfold commitR; rw [h]; rfl
theorem commitR_b (h : (histB xs && memoB memo && stateOkB st) = true) (h2 : inB parent 0 xs.length = false) : commitR xs parent memo st = ([], 3) := by unfold commitR; rw [h, h2]; rfl
theorem commitR_c (h : (histB xs && memoB memo && stateOkB st) = true) (h2 : inB parent 0 xs.length = true) (h3 : xs.length = 32) : commitR xs parent memo st = ([], 5) := by unfold commitR; rw [h, h2]; simp [h3]
theorem commitR_d (h : (histB xs && memoB memo && stateOkB st) = true) (h2 : inB parent 0 xs.length = true) (h3 : ¬ xs.length = 32) : commitR xs parent memo st = (addV xs parent memo st, 0) := by unfold commitR; rw [h, h2]; simp [h3]
end
theorem addV_tot (xs : List Version) (parent : Int) (memo : ByteArray) (st : List Setting) : totN nV (addV xs parent memo st) = totN nV xs + st.length := by unfold totN addV; rw [List.map_append, List.sum_append]; simp [nV]
theorem addV_own {w w' : World} {v : Value} {ys : List (Version × Value)} {xs : List Version} {parent : Int} {memo : ByteArray} {st : List Setting} (h : GrowN nV 69 61 w.heap.size w' v ys) (hy : ys.map Prod.fst = addV xs parent memo st) (hn : totN nV xs + xs.length ≤ 1048576) (hn2 : st.length ≤ 1048576) (hl : xs.length ≤ 32) : OwnV w.heap.size w'.heap.size w' v (addV xs parent memo st) :=
  h.own hy (by unfold addV; simp; omega) (by rw [addV_tot]; omega)
set_option maxRecDepth 100000 in
set_option maxHeartbeats 2000000 in
theorem specCommitState (xs : List Version) (parent : Int) (memo : ByteArray) (st : List Setting) (lo hi lo2 hi2 : Nat) (v v2 : Value) (w : World) (hv : SlVS lo hi w v xs) (hs : ∀ x ∈ xs, okV x) (hn : totN nV xs + xs.length ≤ 1048576) (hsm : memo.size ≤ maxLen) (hv2 : Sl lo2 hi2 w 2 v2 st.length (flat Setting.enc st)) (hsh : Shape v2 st.length) (hst : ∀ x ∈ st, x.name.size ≤ maxLen) (hn2 : st.length ≤ 1048576) :
    Calls Try.prog 42 #[v, .int .i64 parent, .string memo, v2] w fun e w' => (∃ v', e = .returned (.tuple #[v', .int .i64 (commitR xs parent memo st).2]) ∧ OwnV w.heap.size w'.heap.size w' v' (commitR xs parent memo st).1) ∧ Ext w w' := by
  cases h1 : histB xs
  · have HQ := hid (commitR_a (parent := parent) (show (histB xs && memoB memo && stateOkB st) = false by rw [h1]; rfl))
    go_enter Try.func42, Try.ntmps42
    go_wp2_with (first | (go_at_call 57; refine (cv (l27Ok xs _ _ _ _ hv.sl hs hn) (vb h1)).mono ?_; rintro e w1 ⟨rfl, hE⟩))
    go_ret2
    exact ⟨⟨_, by rw [HQ.out]; rfl, by rw [HQ.out]; exact OwnN.nil _ _ _ (hE)⟩, hE⟩
  have hl32 := hist_len h1
  cases h2 : memoB memo
  · have HQ := hid (commitR_a (parent := parent) (show (histB xs && memoB memo && stateOkB st) = false by rw [h1, h2]; rfl))
    go_enter Try.func42, Try.ntmps42
    go_wp2_with (first | (go_at_call 57; refine (cv (l27Ok xs _ _ _ _ hv.sl hs hn) (vb h1)).mono ?_; rintro e w1 ⟨rfl, hE⟩) | (go_at_call 72; refine (cv (l27Memo memo _ hsm) (vb h2)).mono ?_; rintro e w2 ⟨rfl, hw2⟩; subst hw2))
    go_ret2
    exact ⟨⟨_, by rw [HQ.out]; rfl, by rw [HQ.out]; exact OwnN.nil _ _ _ (hE)⟩, hE⟩
  cases h3 : stateOkB st
  · have HQ := hid (commitR_a (parent := parent) (show (histB xs && memoB memo && stateOkB st) = false by rw [h1, h2, h3]; rfl))
    go_enter Try.func42, Try.ntmps42
    go_wp2_with (first | (go_at_call 57; refine (cv (l27Ok xs _ _ _ _ hv.sl hs hn) (vb h1)).mono ?_; rintro e w1 ⟨rfl, hE⟩) | (go_at_call 72; refine (cv (l27Memo memo _ hsm) (vb h2)).mono ?_; rintro e w2 ⟨rfl, hw2⟩; subst hw2) | (go_at_call 50; refine (cv (stateSpec st _ _ _ _ (hv2.ext hE) hst hn2) (vb h3)).mono ?_; rintro e w3 ⟨rfl, hE3⟩; have HE := hid (Ext.tr hE hE3)))
    go_ret2
    exact ⟨⟨_, by rw [HQ.out]; rfl, by rw [HQ.out]; exact OwnN.nil _ _ _ (HE.out)⟩, HE.out⟩
  have H0 := hid (show (histB xs && memoB memo && stateOkB st) = true by rw [h1, h2, h3]; rfl)
  by_cases hp0 : parent = 0
  · subst hp0
    have HP := hid (show inB 0 0 xs.length = true by unfold inB; simp)
    by_cases h32 : xs.length = 32
    · have HQ := hid (commitR_c H0.out HP.out h32)
      have H32 := hid h32
      go_enter Try.func42, Try.ntmps42
      go_wp2_with (first | (go_at_call 57; refine (cv (l27Ok xs _ _ _ _ hv.sl hs hn) (vb h1)).mono ?_; rintro e w1 ⟨rfl, hE⟩) | (go_at_call 72; refine (cv (l27Memo memo _ hsm) (vb h2)).mono ?_; rintro e w2 ⟨rfl, hw2⟩; subst hw2) | (go_at_call 50; refine (cv (stateSpec st _ _ _ _ (hv2.ext hE) hst hn2) (vb h3)).mono ?_; rintro e w3 ⟨rfl, hE3⟩; have HE := hid (Ext.tr hE hE3)) | (go_at_call 73; refine (l27AddFull xs 0 memo st _ _ v v2 _ (hv.sl.ext HE.out) H32.out).mono ?_; rintro e w5 ⟨rfl, hE5⟩))
      go_ret2
      exact ⟨⟨_, by rw [HQ.out]; rfl, by rw [HQ.out]; exact OwnN.nil _ _ _ (Ext.tr HE.out hE5)⟩, Ext.tr HE.out hE5⟩
    · have HQ := hid (commitR_d H0.out HP.out h32)
      go_enter Try.func42, Try.ntmps42
      go_wp2_with (first | (go_at_call 57; refine (cv (l27Ok xs _ _ _ _ hv.sl hs hn) (vb h1)).mono ?_; rintro e w1 ⟨rfl, hE⟩) | (go_at_call 72; refine (cv (l27Memo memo _ hsm) (vb h2)).mono ?_; rintro e w2 ⟨rfl, hw2⟩; subst hw2) | (go_at_call 50; refine (cv (stateSpec st _ _ _ _ (hv2.ext hE) hst hn2) (vb h3)).mono ?_; rintro e w3 ⟨rfl, hE3⟩; have HE := hid (Ext.tr hE hE3)) | (go_at_call 73; refine (l27Add xs 0 memo st _ _ _ _ v v2 _ (hv.ext HE.out) hn h32 hl32 (hv2.ext HE.out) hsh hn2).mono ?_; rintro e w5 ⟨⟨v5, ys, rfl, hys, hG5⟩, hE5⟩))
      go_ret2
      exact ⟨⟨_, by rw [HQ.out]; rfl, by rw [HQ.out]; exact addV_own (hG5.low (Below.size HE.out)) hys hn hn2 hl32⟩, Ext.tr HE.out hE5⟩
  · have hp0b : (parent != 0) = true := by simpa using hp0
    cases hN : numOk xs parent
    · have HP := hid (show inB parent 0 xs.length = false by unfold numOk at hN; unfold inB at hN ⊢; simp only [Bool.and_eq_false_iff, decide_eq_false_iff_not] at hN ⊢; omega)
      have HQ := hid (commitR_b H0.out HP.out)
      clear hp0
      go_enter Try.func42, Try.ntmps42
      go_wp2_with (first | (go_at_call 57; refine (cv (l27Ok xs _ _ _ _ hv.sl hs hn) (vb h1)).mono ?_; rintro e w1 ⟨rfl, hE⟩) | (go_at_call 72; refine (cv (l27Memo memo _ hsm) (vb h2)).mono ?_; rintro e w2 ⟨rfl, hw2⟩; subst hw2) | (go_at_call 50; refine (cv (stateSpec st _ _ _ _ (hv2.ext hE) hst hn2) (vb h3)).mono ?_; rintro e w3 ⟨rfl, hE3⟩; have HE := hid (Ext.tr hE hE3)) | (go_at_call 64; refine (cv (l27Number xs parent _ _ _ _ (hv.sl.ext HE.out) (by omega)) (vb hN)).mono ?_; rintro e w4 ⟨rfl, hw4⟩; subst hw4))
      go_ret2
      exact ⟨⟨_, by rw [HQ.out]; rfl, by rw [HQ.out]; exact OwnN.nil _ _ _ (HE.out)⟩, HE.out⟩
    · have HP := hid (show inB parent 0 xs.length = true by unfold numOk at hN; unfold inB at hN ⊢; simp only [Bool.and_eq_true, decide_eq_true_eq] at hN ⊢; omega)
      clear hp0
      by_cases h32 : xs.length = 32
      · have HQ := hid (commitR_c H0.out HP.out h32)
        have H32 := hid h32
        go_enter Try.func42, Try.ntmps42
        go_wp2_with (first | (go_at_call 57; refine (cv (l27Ok xs _ _ _ _ hv.sl hs hn) (vb h1)).mono ?_; rintro e w1 ⟨rfl, hE⟩) | (go_at_call 72; refine (cv (l27Memo memo _ hsm) (vb h2)).mono ?_; rintro e w2 ⟨rfl, hw2⟩; subst hw2) | (go_at_call 50; refine (cv (stateSpec st _ _ _ _ (hv2.ext hE) hst hn2) (vb h3)).mono ?_; rintro e w3 ⟨rfl, hE3⟩; have HE := hid (Ext.tr hE hE3)) | (go_at_call 64; refine (cv (l27Number xs parent _ _ _ _ (hv.sl.ext HE.out) (by omega)) (vb hN)).mono ?_; rintro e w4 ⟨rfl, hw4⟩; subst hw4) | (go_at_call 73; refine (l27AddFull xs parent memo st _ _ v v2 _ (hv.sl.ext HE.out) H32.out).mono ?_; rintro e w5 ⟨rfl, hE5⟩))
        go_ret2
        exact ⟨⟨_, by rw [HQ.out]; rfl, by rw [HQ.out]; exact OwnN.nil _ _ _ (Ext.tr HE.out hE5)⟩, Ext.tr HE.out hE5⟩
      · have HQ := hid (commitR_d H0.out HP.out h32)
        go_enter Try.func42, Try.ntmps42
        go_wp2_with (first | (go_at_call 57; refine (cv (l27Ok xs _ _ _ _ hv.sl hs hn) (vb h1)).mono ?_; rintro e w1 ⟨rfl, hE⟩) | (go_at_call 72; refine (cv (l27Memo memo _ hsm) (vb h2)).mono ?_; rintro e w2 ⟨rfl, hw2⟩; subst hw2) | (go_at_call 50; refine (cv (stateSpec st _ _ _ _ (hv2.ext hE) hst hn2) (vb h3)).mono ?_; rintro e w3 ⟨rfl, hE3⟩; have HE := hid (Ext.tr hE hE3)) | (go_at_call 64; refine (cv (l27Number xs parent _ _ _ _ (hv.sl.ext HE.out) (by omega)) (vb hN)).mono ?_; rintro e w4 ⟨rfl, hw4⟩; subst hw4) | (go_at_call 73; refine (l27Add xs parent memo st _ _ _ _ v v2 _ (hv.ext HE.out) hn h32 hl32 (hv2.ext HE.out) hsh hn2).mono ?_; rintro e w5 ⟨⟨v5, ys, rfl, hys, hG5⟩, hE5⟩))
        go_ret2
        exact ⟨⟨_, by rw [HQ.out]; rfl, by rw [HQ.out]; exact addV_own (hG5.low (Below.size HE.out)) hys hn hn2 hl32⟩, Ext.tr HE.out hE5⟩
end Go.Proofs.Ythffakaddohlnaa
