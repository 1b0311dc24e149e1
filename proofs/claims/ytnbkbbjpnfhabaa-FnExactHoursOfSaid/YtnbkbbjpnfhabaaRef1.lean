/- Contracts of the functions on one refuge, of HoursOf in both packages, and the law's walk. -/
import Derived.Test.YtnbkbbjpnfhabaaBase
namespace Go.Proofs.Ytnbkbbjpnfhabaa
open Go.RowKit

def refugeB (id : ByteArray) (j n air : Int) : Bool := nameB id && inB j 0 15 && inB n 1 200 && inB air 0 10000000
theorem refugeB_bd {id : ByteArray} {j n air : Int} (h : refugeB id j n air = true) : (0 ≤ j ∧ j ≤ 15) ∧ (1 ≤ n ∧ n ≤ 200) ∧ (0 ≤ air ∧ air ≤ 10000000) := by
  unfold refugeB inB at h; simp at h; omega
theorem l20One (b o : Nat) (id : ByteArray) (j n air : Int) (w : World) (hs : id.size ≤ maxLen)
    (c0 : w.cell? ⟨b, o, none⟩ = some (.string id)) (c1 : w.cell? ⟨b, o + 1, none⟩ = some (.int .i64 j)) (c2 : w.cell? ⟨b, o + 2, none⟩ = some (.int .i64 n)) (c3 : w.cell? ⟨b, o + 3, none⟩ = some (.int .i64 air)) :
    Calls Try.prog 45 #[.pointer (some ⟨b, o, none⟩)] w fun e w' => e = .returned (.bool (refugeB id j n air)) ∧ w = w' := by
  go_enter Try.func45, Try.ntmps45
  go_wp2_with (first | (go_at_call 50; refine (l01Name _ _ hs).mono ?_; rintro e w' ⟨rfl, rfl⟩) | (go_at_call 42; refine (l00In _ _ _ _).mono ?_; rintro e w' ⟨rfl, rfl⟩))
  all_goals (go_ret; refine ⟨ret_bool ?_, rfl⟩; go_tidy; grind [refugeB])
theorem junctionOk (n : Int) (w : World) :
    Calls Try.prog 52 #[.int .i64 n] w fun e w' => e = .returned (.bool (inB n 0 15)) ∧ w = w' := by
  go_enter Try.func52, Try.ntmps52
  go_wp2_with (go_at_call 44; refine (within _ _ _ _).mono ?_; rintro e w' ⟨rfl, rfl⟩)
  go_ret
  exact ⟨rfl, rfl⟩
theorem refugeValid (id : ByteArray) (j n air : Int) (w : World) (hs : id.size ≤ maxLen) :
    Calls Try.prog 48 #[.agg #[.string id, .int .i64 j, .int .i64 n, .int .i64 air]] w fun e w' => e = .returned (.bool (refugeB id j n air)) ∧ Ext w w' := by
  go_enter Try.func48, Try.ntmps48
  go_wp2_with (first | (go_at_call 51; refine (isName _ _ hs).mono ?_; rintro e w' ⟨rfl, rfl⟩) | (go_at_call 44; refine (within _ _ _ _).mono ?_; rintro e w' ⟨rfl, rfl⟩) | (go_at_call 52; refine (junctionOk _ _).mono ?_; rintro e w' ⟨rfl, rfl⟩))
  all_goals (go_ret; refine ⟨ret_bool ?_, by go_tidy; go_grown⟩; go_tidy; grind [refugeB])
def hoursI (air x y : Int) : Int := if x = 0 then 1000 else minI 1000 (air / (x * y))
theorem mul_bd {x y : Int} (hx : 1 ≤ x ∧ x ≤ 200) (hy : 1 ≤ y ∧ y ≤ 10000) : 1 ≤ x * y ∧ x * y ≤ 2000000 := by
  constructor
  · have := Int.mul_le_mul hx.1 hy.1 (by omega) (by omega); omega
  · have := Int.mul_le_mul hx.2 hy.2 (by omega) (by omega); omega
theorem l20Use (n : Int) (w : World) :
    Calls Try.prog 46 #[.int .i64 n] w fun e w' => e = .returned (.bool (inB n 1 10000)) ∧ w = w' := by
  go_enter Try.func46, Try.ntmps46
  go_wp2_with (go_at_call 42; refine (l00In _ _ _ _).mono ?_; rintro e w' ⟨rfl, rfl⟩)
  go_ret
  exact ⟨rfl, rfl⟩
theorem l20Hours (b o : Nat) (air x y : Int) (w : World) (hA : 0 ≤ air ∧ air ≤ 10000000) (hx : 0 ≤ x ∧ x ≤ 200) (hy : 1 ≤ y ∧ y ≤ 10000)
    (c3 : w.cell? ⟨b, o + 3, none⟩ = some (.int .i64 air)) :
    Calls Try.prog 47 #[.pointer (some ⟨b, o, none⟩), .int .i64 x, .int .i64 y] w fun e w' => e = .returned (.int .i64 (hoursI air x y)) ∧ w = w' := by
  obtain ⟨hA1, hA2⟩ := hA
  obtain ⟨hx1, hx2⟩ := hx
  by_cases hz : x = 0
  · subst hz
    go_enter Try.func47, Try.ntmps47
    go_wp2
    go_ret
    exact ⟨by simp [hoursI], rfl⟩
  · have HQ := hid (show hoursI air x y = minI 1000 (air / (x * y)) by unfold hoursI; rw [if_neg hz])
    obtain ⟨m1, m2⟩ := mul_bd (x := x) (y := y) ⟨by omega, hx2⟩ hy
    obtain ⟨hy1, hy2⟩ := hy
    have d1 : 0 ≤ air / (x * y) := Int.ediv_nonneg hA1 (by omega)
    have d2 : air / (x * y) ≤ 10000000 := Int.le_trans (Int.ediv_le_self _ hA1) hA2
    have hz' : (x == 0) = false := by simp [hz]
    have hm' : ¬ x * y = 0 := by omega
    go_enter Try.func47, Try.ntmps47
    go_wp2_with (go_at_call 31; refine (l00Min _ _ _).mono ?_; rintro e w' ⟨rfl, rfl⟩)
    go_ret
    exact ⟨by rw [HQ.out]; rfl, rfl⟩
theorem refugeHours (id : ByteArray) (j n air x y : Int) (w : World) (hA : 0 ≤ air ∧ air ≤ 10000000) (hx : 0 ≤ x ∧ x ≤ 200) (hy : 1 ≤ y ∧ y ≤ 10000) :
    Calls Try.prog 49 #[.agg #[.string id, .int .i64 j, .int .i64 n, .int .i64 air], .int .i64 x, .int .i64 y] w fun e w' => e = .returned (.int .i64 (hoursI air x y)) ∧ Ext w w' := by
  obtain ⟨hA1, hA2⟩ := hA
  obtain ⟨hx1, hx2⟩ := hx
  by_cases hz : x = 0
  · subst hz
    go_enter Try.func49, Try.ntmps49
    go_wp2
    go_ret
    exact ⟨by simp [hoursI], by go_tidy; go_grown⟩
  · have HQ := hid (show hoursI air x y = minI 1000 (air / (x * y)) by unfold hoursI; rw [if_neg hz])
    obtain ⟨m1, m2⟩ := mul_bd (x := x) (y := y) ⟨by omega, hx2⟩ hy
    obtain ⟨hy1, hy2⟩ := hy
    have d1 : 0 ≤ air / (x * y) := Int.ediv_nonneg hA1 (by omega)
    have d2 : air / (x * y) ≤ 10000000 := Int.le_trans (Int.ediv_le_self _ hA1) hA2
    have hz' : (x == 0) = false := by simp [hz]
    have hm' : ¬ x * y = 0 := by omega
    go_enter Try.func49, Try.ntmps49
    go_wp2
    all_goals (go_ret; refine ⟨?_, by go_tidy; go_grown⟩; rw [HQ.out]; go_tidy; simp [minI]; try omega)

def hoursOf (id : ByteArray) (j n air x y : Int) : Int × Int :=
  if refugeB id j n air then (if inB x 0 n && inB y 1 10000 then (hoursI air x y, 0) else (0, 2)) else (0, 1)
theorem hoursOf_no {id : ByteArray} {j n air : Int} (x y : Int) (h : refugeB id j n air = false) : hoursOf id j n air x y = (0, 1) := by unfold hoursOf; simp [h]
theorem hoursOf_range {id : ByteArray} {j n air x y : Int} (h : refugeB id j n air = true) (h2 : (inB x 0 n && inB y 1 10000) = false) : hoursOf id j n air x y = (0, 2) := by unfold hoursOf; rw [h2]; simp [h]
theorem hoursOf_ok {id : ByteArray} {j n air x y : Int} (h : refugeB id j n air = true) (h2 : (inB x 0 n && inB y 1 10000) = true) : hoursOf id j n air x y = (hoursI air x y, 0) := by unfold hoursOf; rw [h2]; simp [h]
theorem specHoursOf (id : ByteArray) (j n air x y : Int) (w : World) (hs : id.size ≤ maxLen) :
    Calls Try.prog 24 #[.agg #[.string id, .int .i64 j, .int .i64 n, .int .i64 air], .int .i64 x, .int .i64 y] w fun e w' => e = .returned (.tuple #[.int .i64 (hoursOf id j n air x y).1, .int .i64 (hoursOf id j n air x y).2]) ∧ Ext w w' := by
  cases hj : refugeB id j n air
  · have HQ := hid (hoursOf_no x y hj)
    go_enter Try.func24, Try.ntmps24
    go_wp2_with (go_at_call 45; refine (l20One _ _ id j n air _ hs (by go_simp) (by go_simp) (by go_simp) (by go_simp)).mono ?_; rintro e w' ⟨rfl, rfl⟩)
    go_ret2
    exact ⟨by rw [HQ.out]; rfl, by go_tidy; go_grown⟩
  have hbd := refugeB_bd hj
  cases hr : (inB x 0 n && inB y 1 10000)
  · have HQ := hid (hoursOf_range hj hr)
    have HR := hid hr
    clear hr
    go_enter Try.func24, Try.ntmps24
    go_wp2_with (first | (go_at_call 45; refine (l20One _ _ id j n air _ hs (by go_simp) (by go_simp) (by go_simp) (by go_simp)).mono ?_; rintro e w' ⟨rfl, rfl⟩) | (go_at_call 42; refine (l00In _ _ _ _).mono ?_; rintro e w' ⟨rfl, rfl⟩) | (go_at_call 46; refine (l20Use _ _).mono ?_; rintro e w' ⟨rfl, rfl⟩))
    all_goals first
      | (go_ret2; exact ⟨by rw [HQ.out]; rfl, by go_tidy; go_grown⟩)
      | (exfalso; have := HR.out; go_tidy; simp_all)
  · have HQ := hid (hoursOf_ok hj hr)
    rw [Bool.and_eq_true] at hr
    obtain ⟨hr1, hr2⟩ := hr
    have hx : 0 ≤ x ∧ x ≤ 200 := by unfold inB at hr1; simp at hr1; omega
    have hy : 1 ≤ y ∧ y ≤ 10000 := by unfold inB at hr2; simp at hr2; omega
    go_enter Try.func24, Try.ntmps24
    go_wp2_with (first | (go_at_call 45; refine (l20One _ _ id j n air _ hs (by go_simp) (by go_simp) (by go_simp) (by go_simp)).mono ?_; rintro e w' ⟨rfl, rfl⟩) | (go_at_call 42; refine (l00In _ _ _ _).mono ?_; rintro e w' ⟨rfl, rfl⟩) | (go_at_call 46; refine (l20Use _ _).mono ?_; rintro e w' ⟨rfl, rfl⟩) | (go_at_call 47; refine (l20Hours _ _ air x y _ hbd.2.2 hx hy (by go_simp)).mono ?_; rintro e w' ⟨rfl, rfl⟩))
    go_ret2
    exact ⟨by rw [HQ.out]; rfl, by go_tidy; go_grown⟩
theorem implHoursOf (id : ByteArray) (j n air x y : Int) (w : World) (hs : id.size ≤ maxLen) :
    Calls Try.prog 26 #[.agg #[.string id, .int .i64 j, .int .i64 n, .int .i64 air], .int .i64 x, .int .i64 y] w fun e w' => e = .returned (.tuple #[.int .i64 (hoursOf id j n air x y).1, .int .i64 (hoursOf id j n air x y).2]) ∧ Ext w w' := by
  cases hj : refugeB id j n air
  · have HQ := hid (hoursOf_no x y hj)
    go_enter Try.func26, Try.ntmps26
    go_wp2_with (go_at_call 48; refine (refugeValid id j n air _ hs).mono ?_; rintro e w1 ⟨rfl, hE⟩)
    go_ret2
    exact ⟨by rw [HQ.out]; rfl, Ext.tr (Ext.new _ _) hE⟩
  have hbd := refugeB_bd hj
  cases hr : (inB x 0 n && inB y 1 10000)
  · have HQ := hid (hoursOf_range hj hr)
    have HR := hid hr
    clear hr
    go_enter Try.func26, Try.ntmps26
    go_wp2_with (first | (go_at_call 48; refine (refugeValid id j n air _ hs).mono ?_; rintro e w1 ⟨rfl, hE⟩; obtain ⟨hc, hf⟩ := bcell hE) | (go_at_call 44; refine (within _ _ _ _).mono ?_; rintro e w' ⟨rfl, rfl⟩))
    all_goals first
      | (go_ret2; exact ⟨by rw [HQ.out]; rfl, Ext.tr (Ext.new _ _) (by assumption)⟩)
      | (exfalso; have := HR.out; go_tidy; simp_all)
  · have HQ := hid (hoursOf_ok hj hr)
    rw [Bool.and_eq_true] at hr
    obtain ⟨hr1, hr2⟩ := hr
    have hx : 0 ≤ x ∧ x ≤ 200 := by unfold inB at hr1; simp at hr1; omega
    have hy : 1 ≤ y ∧ y ≤ 10000 := by unfold inB at hr2; simp at hr2; omega
    go_enter Try.func26, Try.ntmps26
    go_wp2_with (first | (go_at_call 48; refine (refugeValid id j n air _ hs).mono ?_; rintro e w1 ⟨rfl, hE⟩; obtain ⟨hc, hf⟩ := bcell hE) | (go_at_call 44; refine (within _ _ _ _).mono ?_; rintro e w' ⟨rfl, rfl⟩) | (go_at_call 49; refine (refugeHours id j n air x y _ hbd.2.2 hx hy).mono ?_; rintro e w2 ⟨rfl, hE2⟩; replace hE := Ext.tr hE hE2))
    go_ret2
    exact ⟨by rw [HQ.out]; rfl, Ext.tr (Ext.new _ _) hE⟩
theorem szRefuge (id : ByteArray) (a p q l : Int) (w : World) (hs : id.size ≤ maxLen) (hl : 0 ≤ l ∧ l ≤ 1048576) :
    Calls Try.prog 23 #[.agg #[.string id, .int .i64 a, .int .i64 p, .int .i64 q], .int .i64 l] w fun e w' => e = .returned (.int .i64 (szF l id.size)) ∧ Ext w w' := by
  obtain ⟨hl1, hl2⟩ := hl
  unfold maxLen at hs
  go_enter Try.func23, Try.ntmps23
  go_wp2
  all_goals (go_ret; refine ⟨ret_int ?_, by go_tidy; go_grown⟩; go_tidy; unfold szF; split <;> omega)
theorem toRefuge (id : ByteArray) (a p q : Int) (w : World) :
    Calls Try.prog 25 #[.agg #[.string id, .int .i64 a, .int .i64 p, .int .i64 q]] w fun e w' => e = .returned (.agg #[.string id, .int .i64 a, .int .i64 p, .int .i64 q]) ∧ Ext w w' := by
  go_enter Try.func25, Try.ntmps25
  go_wp2
  go_returns
  exact ⟨rfl, by go_tidy; go_grown⟩
theorem lawHoursOf (id : ByteArray) (j n air x y : Int) (w : World) (hs : id.size ≤ maxLen) :
    Calls Try.prog 8 #[.agg #[.string id, .int .i64 j, .int .i64 n, .int .i64 air], .int .i64 x, .int .i64 y] w fun e w' => e = .returned (.bool true) ∧ Ext w w' := by
  by_cases hz : szF 1048576 id.size < 0
  · go_enter Try.func8, Try.ntmps8
    go_wp2_with (go_at_call 23; refine (szRefuge id j n air _ _ hs (by omega)).mono ?_; rintro e w1 ⟨rfl, hE⟩)
    go_ret
    exact ⟨rfl, Ext.tr (Ext.new _ _) hE⟩
  · go_enter Try.func8, Try.ntmps8
    go_wp2_with (first
      | (go_at_call 23; refine (szRefuge id j n air _ _ hs (by omega)).mono ?_; rintro e w1 ⟨rfl, hE⟩; obtain ⟨hc, hf⟩ := bcell hE)
      | (go_at_call 24; refine (specHoursOf id j n air x y _ hs).mono ?_; rintro e w2 ⟨rfl, hE2⟩; replace hE := Ext.tr hE hE2; clear hE2 hc hf; obtain ⟨hc, hf⟩ := bcell hE)
      | (go_at_call 26; refine (implHoursOf id j n air x y _ hs).mono ?_; rintro e w3 ⟨rfl, hE2⟩; replace hE := Ext.tr hE hE2; clear hE2 hc hf; obtain ⟨hc, hf⟩ := bcell hE)
      | (go_at_call 25; refine (toRefuge id j n air _).mono ?_; rintro e w4 ⟨rfl, hE2⟩; replace hE := Ext.tr hE hE2; clear hE2 hc hf; obtain ⟨hc, hf⟩ := bcell hE))
    go_ret
    exact ⟨rfl, Ext.tr (Ext.new _ _) hE⟩
end Go.Proofs.Ytnbkbbjpnfhabaa
