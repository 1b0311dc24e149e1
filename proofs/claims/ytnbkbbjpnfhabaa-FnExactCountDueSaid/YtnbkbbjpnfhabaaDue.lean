/- Contracts of DueDay and CountDue, in both packages, and the laws' walks. -/
import Derived.Test.YtnbkbbjpnfhabaaChk1
namespace Go.Proofs.Ytnbkbbjpnfhabaa
open Go.RowKit

def dueDay (id : ByteArray) (a p : Int) : Int × Int := if checkB id a p then (p + a, 0) else (0, 1)
theorem specDueDay (id : ByteArray) (a p : Int) (w : World) (hs : id.size ≤ maxLen) :
    Calls Try.prog 18 #[.agg #[.string id, .int .i64 a, .int .i64 p]] w fun e w' => e = .returned (.tuple #[.int .i64 (dueDay id a p).1, .int .i64 (dueDay id a p).2]) ∧ Ext w w' := by
  cases hj : checkB id a p
  · go_enter Try.func18, Try.ntmps18
    go_wp2_with (go_at_call 37; refine (l25One _ _ id a p _ hs (by go_simp) (by go_simp) (by go_simp)).mono ?_; rintro e w' ⟨rfl, rfl⟩)
    go_ret2
    exact ⟨by simp [dueDay, hj], by go_tidy; go_grown⟩
  · have hb := checkB_bd hj
    go_enter Try.func18, Try.ntmps18
    go_wp2_with (first | (go_at_call 37; refine (l25One _ _ id a p _ hs (by go_simp) (by go_simp) (by go_simp)).mono ?_; rintro e w' ⟨rfl, rfl⟩) | (go_at_call 38; refine (l25Due _ _ a p _ hb.1 hb.2 (by go_simp) (by go_simp)).mono ?_; rintro e w' ⟨rfl, n, rfl⟩))
    go_ret2
    exact ⟨by simp [dueDay, hj], Ext.tr (Ext.new _ _) (Ext.drewN _ _)⟩
theorem implDueDay (id : ByteArray) (a p : Int) (w : World) (hs : id.size ≤ maxLen) :
    Calls Try.prog 20 #[.agg #[.string id, .int .i64 a, .int .i64 p]] w fun e w' => e = .returned (.tuple #[.int .i64 (dueDay id a p).1, .int .i64 (dueDay id a p).2]) ∧ Ext w w' := by
  cases hj : checkB id a p
  · go_enter Try.func20, Try.ntmps20
    go_wp2_with (go_at_call 39; refine (checkValid id a p _ hs).mono ?_; rintro e w1 ⟨rfl, hE⟩)
    go_ret2
    exact ⟨by simp [dueDay, hj], Ext.tr (Ext.new _ _) hE⟩
  · have hb := checkB_bd hj
    go_enter Try.func20, Try.ntmps20
    go_wp2_with (first | (go_at_call 39; refine (checkValid id a p _ hs).mono ?_; rintro e w1 ⟨rfl, hE⟩; obtain ⟨hc, hf⟩ := bcell hE) | (go_at_call 40; refine (checkDue id a p _ hb.1 hb.2).mono ?_; rintro e w2 ⟨rfl, hE2⟩))
    go_ret2
    exact ⟨by simp [dueDay, hj], Ext.tr (Ext.tr (Ext.new _ _) hE) hE2⟩
theorem lawDueDay (id : ByteArray) (a p : Int) (w : World) (hs : id.size ≤ maxLen) :
    Calls Try.prog 6 #[.agg #[.string id, .int .i64 a, .int .i64 p]] w fun e w' => e = .returned (.bool true) ∧ Ext w w' := by
  by_cases hz : szF 1048576 id.size < 0
  · go_enter Try.func6, Try.ntmps6
    go_wp2_with (go_at_call 17; refine (szCheck id a p _ _ hs (by omega)).mono ?_; rintro e w1 ⟨rfl, hE⟩)
    go_ret
    exact ⟨rfl, Ext.tr (Ext.new _ _) hE⟩
  · go_enter Try.func6, Try.ntmps6
    go_wp2_with (first
      | (go_at_call 17; refine (szCheck id a p _ _ hs (by omega)).mono ?_; rintro e w1 ⟨rfl, hE⟩; obtain ⟨hc, hf⟩ := bcell hE)
      | (go_at_call 18; refine (specDueDay id a p _ hs).mono ?_; rintro e w2 ⟨rfl, hE2⟩; replace hE := Ext.tr hE hE2; clear hE2 hc hf; obtain ⟨hc, hf⟩ := bcell hE)
      | (go_at_call 20; refine (implDueDay id a p _ hs).mono ?_; rintro e w3 ⟨rfl, hE2⟩; replace hE := Ext.tr hE hE2; clear hE2 hc hf; obtain ⟨hc, hf⟩ := bcell hE)
      | (go_at_call 19; refine (toCheck id a p _).mono ?_; rintro e w4 ⟨rfl, hE2⟩; replace hE := Ext.tr hE hE2; clear hE2 hc hf; obtain ⟨hc, hf⟩ := bcell hE))
    go_ret
    exact ⟨rfl, Ext.tr (Ext.new _ _) hE⟩

/-! ### how often a check is due -/
def dueJ (f e u : Int) : Int := if f < u then (u - 1 - f) / e + 1 else 0
theorem dueJ_nonneg (f e u : Int) (he : 1 ≤ e) : 0 ≤ dueJ f e u := by
  unfold dueJ; split
  · have := Int.ediv_nonneg (a := u - 1 - f) (b := e) (by omega) (by omega); omega
  · omega
theorem dueJ_iff (f e u i : Int) (he : 1 ≤ e) (hi : 0 ≤ i) : i < dueJ f e u ↔ f + e * i < u := by
  unfold dueJ; split
  · rename_i h
    have := Int.le_ediv_iff_mul_le (a := i) (b := u - 1 - f) (c := e) (by omega)
    rw [Int.mul_comm e i]
    constructor
    · intro h1; have := this.1 (by omega); omega
    · intro h1; have := this.2 (by omega); omega
  · rename_i h
    have := Int.mul_nonneg (a := e) (b := i) (by omega) hi
    omega
theorem dueJ_mono (f e u v : Int) (he : 1 ≤ e) (h : u ≤ v) : dueJ f e u ≤ dueJ f e v := by
  have h0 := dueJ_nonneg f e u he
  have h1 := dueJ_nonneg f e v he
  by_cases hlt : dueJ f e v < dueJ f e u
  · have := (dueJ_iff f e u (dueJ f e v) he h1).1 hlt
    have h2 := (dueJ_iff f e v (dueJ f e v) he h1)
    omega
  · omega
def dueAt (f e : Int) (j : Nat) : Int := f + e * j
theorem dueAt_succ (f e : Int) (j : Nat) : dueAt f e (j + 1) = dueAt f e j + e := by
  unfold dueAt; rw [Int.natCast_add, Int.mul_add]; simp; omega
theorem dueAt_zero (f e : Int) : dueAt f e 0 = f := by unfold dueAt; simp
theorem dueAt_ge (f e : Int) (j : Nat) (he : 1 ≤ e) : f ≤ dueAt f e j := by
  unfold dueAt; have := Int.mul_nonneg (a := e) (b := j) (by omega) (by omega); omega
theorem dueAt_lt (f e u : Int) (j : Nat) (he : 1 ≤ e) : dueAt f e j < u ↔ (j : Int) < dueJ f e u := (dueJ_iff f e u j he (by omega)).symm
/-- how many of the first j days are not before 'from' -/
def dueN (m : Int) (j : Nat) : Int := if m ≤ j then j - m else 0

def countDue (id : ByteArray) (a p from_ until_ : Int) : Int × Int :=
  if checkB id a p then (if inB from_ 0 100000 && inB until_ from_ 100000 then (dueJ (p + a) a until_ - dueJ (p + a) a from_, 0) else (0, 2)) else (0, 1)
theorem countDue_no (id : ByteArray) (a p f u : Int) (h : checkB id a p = false) : countDue id a p f u = (0, 1) := by unfold countDue; simp [h]
theorem countDue_range (id : ByteArray) (a p f u : Int) (h : checkB id a p = true) (h2 : (inB f 0 100000 && inB u f 100000) = false) : countDue id a p f u = (0, 2) := by unfold countDue; rw [h2]; simp [h]
theorem countDue_ok (id : ByteArray) (a p f u : Int) (h : checkB id a p = true) (h2 : (inB f 0 100000 && inB u f 100000) = true) : countDue id a p f u = (dueJ (p + a) a u - dueJ (p + a) a f, 0) := by unfold countDue; rw [h2]; simp [h]
theorem tuple2 {x y x' y' : Int} (h : (x, y) = (x', y')) : Ending.returned (.tuple #[.int .i64 x', .int .i64 y']) = .returned (.tuple #[.int .i64 x, .int .i64 y]) := by
  injection h with h1 h2; rw [h1, h2]
theorem dueJ_pos (f e u : Int) (h : f < u) : dueJ f e u = (u - 1 - f) / e + 1 := by unfold dueJ; rw [if_pos h]
theorem dueJ_zero (f e u : Int) (h : u ≤ f) : dueJ f e u = 0 := by unfold dueJ; rw [if_neg (by omega)]
theorem div_bd (d e : Int) (hd : 0 ≤ d) (he : 1 ≤ e) (hd2 : d ≤ 200000) : 0 ≤ d / e ∧ d / e ≤ 200000 := by
  refine ⟨Int.ediv_nonneg hd (by omega), Int.le_trans (Int.ediv_le_self _ hd) hd2⟩
theorem dueJ_bd (f e u : Int) (he : 1 ≤ e) (h0 : 0 ≤ f) (h : u ≤ 100000) : dueJ f e u ≤ 200001 := by
  unfold dueJ; split
  · have := (div_bd (u - 1 - f) e (by omega) he (by omega)).2; omega
  · omega

set_option maxHeartbeats 1000000 in
theorem specCountDue (id : ByteArray) (a p f u : Int) (w : World) (hs : id.size ≤ maxLen) :
    Calls Try.prog 21 #[.agg #[.string id, .int .i64 a, .int .i64 p], .int .i64 f, .int .i64 u] w fun e w' => e = .returned (.tuple #[.int .i64 (countDue id a p f u).1, .int .i64 (countDue id a p f u).2]) ∧ Ext w w' := by
  cases hj : checkB id a p
  · have HQ := hid (countDue_no id a p f u hj)
    go_enter Try.func21, Try.ntmps21
    go_wp2_with (go_at_call 37; refine (l25One _ _ id a p _ hs (by go_simp) (by go_simp) (by go_simp)).mono ?_; rintro e w' ⟨rfl, rfl⟩)
    go_ret2
    exact ⟨by rw [HQ.out]; rfl, by go_tidy; go_grown⟩
  obtain ⟨⟨ha1, ha2⟩, hp1, hp2⟩ := checkB_bd hj
  cases hr : (inB f 0 100000 && inB u f 100000)
  · have HQ := hid (countDue_range id a p f u hj hr)
    have HR := hid hr
    clear hr
    go_enter Try.func21, Try.ntmps21
    go_wp2_with (first | (go_at_call 37; refine (l25One _ _ id a p _ hs (by go_simp) (by go_simp) (by go_simp)).mono ?_; rintro e w' ⟨rfl, rfl⟩) | (go_at_call 41; refine (l25Day _ _).mono ?_; rintro e w' ⟨rfl, rfl⟩) | (go_at_call 42; refine (l00In _ _ _ _).mono ?_; rintro e w' ⟨rfl, rfl⟩))
    all_goals first
      | (go_ret2; exact ⟨by rw [HQ.out]; rfl, by go_tidy; go_grown⟩)
      | (exfalso; have := HR.out; go_tidy; simp_all)
  · have HQ := hid (countDue_ok id a p f u hj hr)
    rw [Bool.and_eq_true] at hr
    obtain ⟨hr1, hr2⟩ := hr
    have hbf : 0 ≤ f ∧ f ≤ 100000 := by unfold inB at hr1; simp at hr1; omega
    have hbu : f ≤ u ∧ u ≤ 100000 := by unfold inB at hr2; simp at hr2; omega
    obtain ⟨hbf1, hbf2⟩ := hbf
    obtain ⟨hbu1, hbu2⟩ := hbu
    have hd1 : p + a < u → 0 ≤ (u - 1 - (p + a)) / a ∧ (u - 1 - (p + a)) / a ≤ 200000 := fun h => div_bd _ a (by omega) ha1 (by omega)
    have hd2 : p + a < f → 0 ≤ (f - 1 - (p + a)) / a ∧ (f - 1 - (p + a)) / a ≤ 200000 := fun h => div_bd _ a (by omega) ha1 (by omega)
    by_cases c1 : p + a < u
    · by_cases c2 : p + a < f
      · obtain ⟨x1, x2⟩ := hd1 c1
        obtain ⟨x3, x4⟩ := hd2 c2
        clear hd1 hd2
        go_enter Try.func21, Try.ntmps21
        go_wp2_with (first | (go_at_call 37; refine (l25One _ _ id a p _ hs (by go_simp) (by go_simp) (by go_simp)).mono ?_; rintro e w' ⟨rfl, rfl⟩) | (go_at_call 41; refine (l25Day _ _).mono ?_; rintro e w' ⟨rfl, rfl⟩) | (go_at_call 42; refine (l00In _ _ _ _).mono ?_; rintro e w' ⟨rfl, rfl⟩) | (go_at_call 38; refine (l25Due _ _ a p _ ⟨ha1, ha2⟩ ⟨hp1, hp2⟩ (by go_simp) (by go_simp)).mono ?_; rintro e w' ⟨rfl, n, rfl⟩))
        go_ret2
        exact ⟨ret2 (by rw [HQ.out, dueJ_pos _ _ _ c1, dueJ_pos _ _ _ c2]) (by rw [HQ.out]), Ext.tr (Ext.new _ _) (Ext.drewN _ _)⟩
      · clear hd2
        obtain ⟨x1, x2⟩ := hd1 c1
        clear hd1
        go_enter Try.func21, Try.ntmps21
        go_wp2_with (first | (go_at_call 37; refine (l25One _ _ id a p _ hs (by go_simp) (by go_simp) (by go_simp)).mono ?_; rintro e w' ⟨rfl, rfl⟩) | (go_at_call 41; refine (l25Day _ _).mono ?_; rintro e w' ⟨rfl, rfl⟩) | (go_at_call 42; refine (l00In _ _ _ _).mono ?_; rintro e w' ⟨rfl, rfl⟩) | (go_at_call 38; refine (l25Due _ _ a p _ ⟨ha1, ha2⟩ ⟨hp1, hp2⟩ (by go_simp) (by go_simp)).mono ?_; rintro e w' ⟨rfl, n, rfl⟩))
        go_ret2
        exact ⟨ret2 (by rw [HQ.out, dueJ_pos _ _ _ c1, dueJ_zero _ _ _ (by omega)]; omega) (by rw [HQ.out]), Ext.tr (Ext.new _ _) (Ext.drewN _ _)⟩
    · clear hd1 hd2
      go_enter Try.func21, Try.ntmps21
      go_wp2_with (first | (go_at_call 37; refine (l25One _ _ id a p _ hs (by go_simp) (by go_simp) (by go_simp)).mono ?_; rintro e w' ⟨rfl, rfl⟩) | (go_at_call 41; refine (l25Day _ _).mono ?_; rintro e w' ⟨rfl, rfl⟩) | (go_at_call 42; refine (l00In _ _ _ _).mono ?_; rintro e w' ⟨rfl, rfl⟩) | (go_at_call 38; refine (l25Due _ _ a p _ ⟨ha1, ha2⟩ ⟨hp1, hp2⟩ (by go_simp) (by go_simp)).mono ?_; rintro e w' ⟨rfl, n, rfl⟩))
      go_ret2
      exact ⟨ret2 (by rw [HQ.out, dueJ_zero _ _ _ (by omega), dueJ_zero _ _ _ (by omega)]; omega) (by rw [HQ.out]), Ext.tr (Ext.new _ _) (Ext.drewN _ _)⟩

set_option maxHeartbeats 1000000 in
theorem implCountDue (id : ByteArray) (a p f u : Int) (w : World) (hs : id.size ≤ maxLen) :
    Calls Try.prog 22 #[.agg #[.string id, .int .i64 a, .int .i64 p], .int .i64 f, .int .i64 u] w fun e w' => e = .returned (.tuple #[.int .i64 (countDue id a p f u).1, .int .i64 (countDue id a p f u).2]) ∧ Ext w w' := by
  cases hj : checkB id a p
  · have HQ := hid (countDue_no id a p f u hj)
    go_enter Try.func22, Try.ntmps22
    go_wp2_with (go_at_call 39; refine (checkValid id a p _ hs).mono ?_; rintro e w1 ⟨rfl, hE⟩)
    go_ret2
    exact ⟨by rw [HQ.out]; rfl, Ext.tr (Ext.new _ _) hE⟩
  have hbd := checkB_bd hj
  obtain ⟨⟨ha1, ha2⟩, hp1, hp2⟩ := hbd
  cases hr : (inB f 0 100000 && inB u f 100000)
  · have HQ := hid (countDue_range id a p f u hj hr)
    have HR := hid hr
    clear hr
    go_enter Try.func22, Try.ntmps22
    go_wp2_with (first | (go_at_call 39; refine (checkValid id a p _ hs).mono ?_; rintro e w1 ⟨rfl, hE⟩; obtain ⟨hc, hf⟩ := bcell hE) | (go_at_call 43; refine (checkDay _ _).mono ?_; rintro e w' ⟨rfl, rfl⟩) | (go_at_call 44; refine (within _ _ _ _).mono ?_; rintro e w' ⟨rfl, rfl⟩))
    all_goals first
      | (go_ret2; exact ⟨by rw [HQ.out]; rfl, Ext.tr (Ext.new _ _) (by assumption)⟩)
      | (exfalso; have := HR.out; go_tidy; simp_all)
  · have HQ := hid (countDue_ok id a p f u hj hr)
    rw [Bool.and_eq_true] at hr
    obtain ⟨hr1, hr2⟩ := hr
    have hbf : 0 ≤ f ∧ f ≤ 100000 := by unfold inB at hr1; simp at hr1; omega
    have hbu : f ≤ u ∧ u ≤ 100000 := by unfold inB at hr2; simp at hr2; omega
    obtain ⟨hbf1, hbf2⟩ := hbf
    obtain ⟨hbu1, hbu2⟩ := hbu
    go_enter Try.func22, Try.ntmps22
    go_wp2_with (first | (go_at_call 39; refine (checkValid id a p _ hs).mono ?_; rintro e w1 ⟨rfl, hE⟩; obtain ⟨hc, hf⟩ := bcell hE) | (go_at_call 43; refine (checkDay _ _).mono ?_; rintro e w' ⟨rfl, rfl⟩) | (go_at_call 44; refine (within _ _ _ _).mono ?_; rintro e w' ⟨rfl, rfl⟩) | (go_at_call 40; refine (checkDue id a p _ ⟨ha1, ha2⟩ ⟨hp1, hp2⟩).mono ?_; rintro e w2 ⟨rfl, hE2⟩; replace hE := Ext.tr hE hE2; clear hE2 hc hf; obtain ⟨hc, hf⟩ := bcell hE))
    go_loop [8, 9] (fun n d => ∃ j : Nat, (j : Int) ≤ dueJ (p + a) a u ∧ d = .int .i64 (dueAt (p + a) a j) ∧ n = .int .i64 (dueN (dueJ (p + a) a f) j)) (fun _ d => (u - intOf d).toNat)
    case atStart => exact ⟨0, dueJ_nonneg _ _ _ ha1, by rw [dueAt_zero], by have := dueJ_nonneg (p + a) a f ha1; unfold dueN; split <;> go_num⟩
    case round =>
      obtain ⟨j, hj1, rfl, rfl⟩ := hrel
      have hub := dueJ_bd (p + a) a u ha1 (by omega) hbu2
      have hge := dueAt_ge (p + a) a j ha1
      have hlt := dueAt_lt (p + a) a u j ha1
      have hlf := dueAt_lt (p + a) a f j ha1
      have HS := hid (dueAt_succ (p + a) a j)
      have hm := dueJ_nonneg (p + a) a f ha1
      have hn0 : 0 ≤ dueN (dueJ (p + a) a f) j := by unfold dueN; split <;> omega
      have hn1 : dueN (dueJ (p + a) a f) j ≤ 200001 := by unfold dueN; split <;> omega
      by_cases h1 : dueAt (p + a) a j < u
      · have h1' := hlt.1 h1
        by_cases h2 : dueAt (p + a) a j < f
        · have h2' := hlf.1 h2
          clear hlt hlf
          go_wp2
          go_round
          case rel => exact ⟨j + 1, by omega, by rw [HS.out], by unfold dueN; rw [if_neg (by omega)]; split <;> go_num⟩
          case measure => simp [intOf]; omega
        · have h2' : ¬ (j : Int) < dueJ (p + a) a f := fun h => h2 (hlf.2 h)
          clear hlt hlf
          go_wp2
          go_round
          case rel => exact ⟨j + 1, by omega, by rw [HS.out], by unfold dueN; rw [if_pos (by omega), if_pos (by omega)]; go_num⟩
          case measure => simp [intOf]; omega
      · have h1' : ¬ (j : Int) < dueJ (p + a) a u := fun h => h1 (hlt.2 h)
        have hmm := dueJ_mono (p + a) a f u ha1 hbu1
        clear hlt hlf
        go_wp2
        go_ret2
        refine ⟨ret2 (by rw [HQ.out]; unfold dueN; rw [if_pos (by omega)]; simp only []; omega) (by rw [HQ.out]), Ext.tr (Ext.new _ _) hE⟩
theorem lawCountDue (id : ByteArray) (a p f u : Int) (w : World) (hs : id.size ≤ maxLen) :
    Calls Try.prog 7 #[.agg #[.string id, .int .i64 a, .int .i64 p], .int .i64 f, .int .i64 u] w fun e w' => e = .returned (.bool true) ∧ Ext w w' := by
  by_cases hz : szF 1048576 id.size < 0
  · go_enter Try.func7, Try.ntmps7
    go_wp2_with (go_at_call 17; refine (szCheck id a p _ _ hs (by omega)).mono ?_; rintro e w1 ⟨rfl, hE⟩)
    go_ret
    exact ⟨rfl, Ext.tr (Ext.new _ _) hE⟩
  · go_enter Try.func7, Try.ntmps7
    go_wp2_with (first
      | (go_at_call 17; refine (szCheck id a p _ _ hs (by omega)).mono ?_; rintro e w1 ⟨rfl, hE⟩; obtain ⟨hc, hf⟩ := bcell hE)
      | (go_at_call 21; refine (specCountDue id a p f u _ hs).mono ?_; rintro e w2 ⟨rfl, hE2⟩; replace hE := Ext.tr hE hE2; clear hE2 hc hf; obtain ⟨hc, hf⟩ := bcell hE)
      | (go_at_call 22; refine (implCountDue id a p f u _ hs).mono ?_; rintro e w3 ⟨rfl, hE2⟩; replace hE := Ext.tr hE hE2; clear hE2 hc hf; obtain ⟨hc, hf⟩ := bcell hE)
      | (go_at_call 19; refine (toCheck id a p _).mono ?_; rintro e w4 ⟨rfl, hE2⟩; replace hE := Ext.tr hE hE2; clear hE2 hc hf; obtain ⟨hc, hf⟩ := bcell hE))
    go_ret
    exact ⟨rfl, Ext.tr (Ext.new _ _) hE⟩
end Go.Proofs.Ytnbkbbjpnfhabaa
