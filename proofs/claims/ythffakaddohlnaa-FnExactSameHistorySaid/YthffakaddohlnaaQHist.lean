/- Contracts of SameHistory in both packages. -/
import Derived.Test.YthffakaddohlnaaXVersion
import Derived.Test.YthffakaddohlnaaQ27
namespace Go.Proofs.Ythffakaddohlnaa
set_option linter.unusedVariables false
open Go.RowKit
open Classical in
noncomputable def hisB (xs ys : List Version) : Bool := decide (xs = ys)
open Classical in
noncomputable def verB (x y : Version) : Bool := decide (x = y)
theorem his_len {xs ys : List Version} (h : ¬ xs.length = ys.length) : hisB xs ys = false := by
  unfold hisB; simp only [decide_eq_false_iff_not]; rintro rfl; exact h rfl
theorem his_no {xs ys : List Version} (k : Nat) (hk : k < xs.length) (hk' : k < ys.length) (h : verB xs[k] ys[k] = false) : hisB xs ys = false := by
  unfold hisB; simp only [decide_eq_false_iff_not]; rintro rfl
  unfold verB at h; simp at h
theorem ver_yes {x y : Version} (h : verB x y = true) : x = y := by unfold verB at h; simpa using h
theorem his_yes {xs ys : List Version} (hl : xs.length = ys.length) (h : ∀ k (hk : k < xs.length) (hk' : k < ys.length), verB xs[k] ys[k] = true) : hisB xs ys = true := by
  unfold hisB; simp only [decide_eq_true_eq]; exact List.ext_getElem hl (fun k h1 h2 => ver_yes (h k h1 h2))
theorem ver_eq (x y : Version) : verB x y = (decide (x.number = y.number) && decide (x.parent = y.parent) && decide (x.memo.toList = y.memo.toList) && sameB x.state y.state) := by
  obtain ⟨a, b, c, d⟩ := x
  obtain ⟨a', b', c', d'⟩ := y
  unfold verB sameB
  rw [Bool.eq_iff_iff]
  simp only [decide_eq_true_eq, Bool.and_eq_true]
  constructor
  · intro h; cases h; exact ⟨⟨⟨rfl, rfl⟩, rfl⟩, rfl⟩
  · rintro ⟨⟨⟨h1, h2⟩, h3⟩, h4⟩
    have := toList_inj h3
    subst h1; subst h2; subst this; subst h4; rfl
set_option maxRecDepth 100000 in
set_option maxHeartbeats 1000000 in
theorem specSameHistory (xs ys : List Version) (lo hi lo' hi' : Nat) (v v' : Value) (w : World) (hv : SlV lo hi w v xs) (hv' : SlV lo' hi' w v' ys) (hn : totN nV xs + xs.length ≤ 1048576) (hn' : totN nV ys + ys.length ≤ 1048576) :
    Calls Try.prog 20 #[v, v'] w fun e w' => e = .returned (.bool (hisB xs ys)) ∧ Ext w w' := by
  obtain ⟨ps, hps, ⟨hhi, _, A, c, rfl, hnc, hcm, hcell⟩, hin⟩ := hv.opn
  obtain ⟨ps', hps', hS', hin'⟩ := hv'.opn
  have HP := hid hps
  have HP' := hid hps'
  clear hps hps' hv hv'
  by_cases hl : xs.length = ys.length
  rotate_left
  · have hS := hid (his_len hl)
    have h5 : ¬ ((xs.length : Int) = (ys.length : Int)) := by omega
    obtain ⟨hhi', _, A', c', rfl, hnc', hcm', hcell'⟩ := hS'
    clear hcell hcell'
    go_enter Try.func20, Try.ntmps20
    go_wp2
    all_goals first | (exfalso; simp_all; done) | skip
    go_ret
    exact ⟨by rw [hS.out]; rfl, Below.refl _ _⟩
  have HL := hid hl
  rw [← hl] at hS'
  obtain ⟨hhi', _, A', c', rfl, hnc', hcm', hcell'⟩ := hS'
  have hll : ys.length ≤ xs.length ∧ xs.length ≤ ys.length := by omega
  clear hl
  go_enter Try.func20, Try.ntmps20
  go_wp2
  go_loopw [5] (fun i wr => ∃ (k : Nat), k ≤ xs.length ∧ i = .int .i64 k ∧ Ext w wr ∧ Hid (∀ j (h : j < xs.length) (h' : j < ys.length), j < k → verB xs[j] ys[j] = true)) (fun i _ => xs.length - (intOf i).toNat)
  case atStart => exact ⟨0, by omega, rfl, Below.refl _ _, hid (fun j h h' hj => absurd hj (by omega))⟩
  case round =>
    obtain ⟨k, hk, rfl, hE, hall⟩ := hrel
    by_cases hlt : k < xs.length
    · obtain ⟨b, off, rfl, hb1, hb2, hc⟩ := hcell (by omega)
      obtain ⟨b', off', rfl, hb1', hb2', hc'⟩ := hcell' (by omega)
      have hlk : k < ys.length := by omega
      have hbw : b < w.heap.size := by omega
      have hbw' : b' < w.heap.size := by omega
      obtain ⟨Au, cu, c0, c1, c2, c3, hu⟩ := Version.at_ HP.out hin hc hE hbw k hlt
      obtain ⟨Bu, du, d0, d1, d2, d3, hu'⟩ := Version.at_ HP'.out hin' hc' hE hbw' k hlk
      have hbr : b < wr.heap.size := Nat.lt_of_lt_of_le hbw hE.size
      have hbr' : b' < wr.heap.size := Nat.lt_of_lt_of_le hbw' hE.size
      have hsn : xs[k].state.length ≤ 2097152 := by have : xs[k].state.length ≤ totN nV xs := totN_mem nV xs k hlt; omega
      have hsn' : ys[k].state.length ≤ 2097152 := by have : ys[k].state.length ≤ totN nV ys := totN_mem nV ys k hlk; omega
      have hki : (k : Int) < xs.length := by omega
      have hno := his_no k hlt hlk
      have HR := hid (show verB xs[k] ys[k] = true → ∀ j (h : j < xs.length) (h' : j < ys.length), j < k + 1 → verB xs[j] ys[j] = true from fun hx j h h' hj => by rcases Nat.lt_succ_iff_lt_or_eq.1 hj with h1 | rfl; exact hall.out j h h' h1; exact hx)
      clear hc hc' hcell hcell'
      generalize xs[k] = x at *
      generalize ys[k] = y at *
      have HNO := hid hno
      have hvq := ver_eq x y
      have HV := hid hvq
      clear hvq hno
      by_cases e0 : x.number = y.number
      rotate_left
      · have hS := hid (HNO.out (by rw [HV.out]; simp [e0]))
        have hb0 : (x.number != y.number) = true := by simp [e0]
        clear e0
        go_wp2_with fail
        go_quiet (fail)
        go_wp2
        go_ret
        exact ⟨by rw [hS.out]; rfl, Ext.tr hE (Ext.drewN _ _)⟩
      by_cases e1 : x.parent = y.parent
      rotate_left
      · have hS := hid (HNO.out (by rw [HV.out]; simp [e1]))
        rw [← e0] at d0
        have hb1 : (x.parent != y.parent) = true := by simp [e1]
        clear e0 e1
        go_wp2_with fail
        go_quiet (fail)
        go_wp2
        go_ret
        exact ⟨by rw [hS.out]; rfl, Ext.tr hE (Ext.drewN _ _)⟩
      by_cases e2 : x.memo.toList = y.memo.toList
      rotate_left
      · have hS := hid (HNO.out (by rw [HV.out]; simp [e2]))
        rw [← e0] at d0
        rw [← e1] at d1
        have hb2 : (x.memo.toList == y.memo.toList) = false := by simp [e2]
        clear e0 e1
        go_wp2_with fail
        go_quiet (fail)
        go_wp2
        go_ret
        exact ⟨by rw [hS.out]; rfl, Ext.tr hE (Ext.drewN _ _)⟩
      have HV2 := hid (show verB x y = sameB x.state y.state by rw [HV.out]; simp [e0, e1, e2])
      rw [← e0] at d0
      rw [← e1] at d1
      rw [← toList_inj e2] at d2
      clear e0 e1 e2
      have hh := fun d : Later wr => (bcell d.h).1
      have x0 := fun d : Later wr => (hh d _ (off + k * 4) hbr).trans c0
      have x1 := fun d : Later wr => (hh d _ (off + k * 4 + 1) hbr).trans c1
      have x2 := fun d : Later wr => (hh d _ (off + k * 4 + 2) hbr).trans c2
      have x3 := fun d : Later wr => (hh d _ (off + k * 4 + 3) hbr).trans c3
      have y0 := fun d : Later wr => (hh d _ (off' + k * 4) hbr').trans d0
      have y1 := fun d : Later wr => (hh d _ (off' + k * 4 + 1) hbr').trans d1
      have y2 := fun d : Later wr => (hh d _ (off' + k * 4 + 2) hbr').trans d2
      have y3 := fun d : Later wr => (hh d _ (off' + k * 4 + 3) hbr').trans d3
      clear hh c0 c1 c2 c3 d0 d1 d2 d3
      cases hsb : sameB x.state y.state
      · have hS := hid (HNO.out (by rw [HV2.out, hsb]))
        go_wp2_with fail
        refine wp_region_later wr (by kernel_rfl) (by kernel_rfl) (Below.refl _ _) ?_
        repeat (go_big_quiet_step ((first | (go_at_call 46; exact ql (l27Same x.state y.state lo hi lo' hi' _ _ _ (hu.ext (Later.h _)) (hu'.ext (Later.h _)) hsn hsn') (vb hsb)))))
        refine wpQuiet_nil ?_
        rintro _ ⟨d, rfl⟩
        go_wp2
        go_ret
        exact ⟨by rw [hS.out]; rfl, Ext.tr hE d.h⟩
      · have hS := hid (HV2.out.trans hsb)
        go_wp2_with fail
        refine wp_region_later wr (by kernel_rfl) (by kernel_rfl) (Below.refl _ _) ?_
        repeat (go_big_quiet_step ((first | (go_at_call 46; exact ql (l27Same x.state y.state lo hi lo' hi' _ _ _ (hu.ext (Later.h _)) (hu'.ext (Later.h _)) hsn hsn') (vb hsb)))))
        refine wpQuiet_nil ?_
        rintro _ ⟨d, rfl⟩
        go_wp2
        go_roundw
        case rel => exact ⟨k + 1, by omega, by go_num, Ext.tr hE d.h, hid (HR.out hS.out)⟩
        case measure => simp [intOf]; omega
    · obtain rfl : k = xs.length := by omega
      go_wp2
      go_ret
      exact ⟨ret_bool (his_yes HL.out (fun k h h' => hall.out k h h' h)).symm, hE⟩
set_option maxRecDepth 100000 in
set_option maxHeartbeats 1000000 in
theorem sameVer (x y : Version) (lo hi lo' hi' : Nat) (Au Bu : Option Addr) (cu du : Nat) (w : World) (hu : Sl lo hi w 2 (.slice Au x.state.length cu) x.state.length (flat Setting.enc x.state)) (hu' : Sl lo' hi' w 2 (.slice Bu y.state.length du) y.state.length (flat Setting.enc y.state)) (hsn : x.state.length ≤ 2097152) (hsn' : y.state.length ≤ 2097152) :
    Calls Try.prog 55 #[.agg #[.int .i64 x.number, .int .i64 x.parent, .string x.memo, .slice Au x.state.length cu], .agg #[.int .i64 y.number, .int .i64 y.parent, .string y.memo, .slice Bu y.state.length du]] w fun e w' => e = .returned (.bool (verB x y)) ∧ Ext w w' := by
  have hvq := ver_eq x y
  have HV := hid hvq
  clear hvq
  go_enter Try.func55, Try.ntmps55
  go_wp2_with (go_at_call 48; refine (equalSet x.state y.state lo hi lo' hi' _ _ _ (hu.ext (Ext.tr (Ext.new _ _) (Ext.new _ _))) (hu'.ext (Ext.tr (Ext.new _ _) (Ext.new _ _))) hsn hsn').mono ?_; rintro e w2 ⟨rfl, hE⟩)
  all_goals
    go_ret
    refine ⟨ret_bool ?_, by first | exact Ext.tr (Ext.tr (Ext.new _ _) (Ext.new _ _)) hE | exact Ext.tr (Ext.new _ _) (Ext.new _ _)⟩
    rw [HV.out]
    simp [*]
set_option maxRecDepth 100000 in
set_option maxHeartbeats 1000000 in
theorem equalHist (xs ys : List Version) (lo hi lo' hi' : Nat) (v v' : Value) (w : World) (hv : SlV lo hi w v xs) (hv' : SlV lo' hi' w v' ys) (hn : totN nV xs + xs.length ≤ 1048576) (hn' : totN nV ys + ys.length ≤ 1048576) :
    Calls Try.prog 54 #[v, v', .func (.func 55) #[] #[]] w fun e w' => e = .returned (.bool (hisB xs ys)) ∧ Ext w w' := by
  obtain ⟨ps, hps, ⟨hhi, _, A, c, rfl, hnc, hcm, hcell⟩, hin⟩ := hv.opn
  obtain ⟨ps', hps', hS', hin'⟩ := hv'.opn
  have HP := hid hps
  have HP' := hid hps'
  clear hps hps' hv hv'
  by_cases hl : xs.length = ys.length
  rotate_left
  · have hS := hid (his_len hl)
    have h5 : ¬ ((xs.length : Int) = (ys.length : Int)) := by omega
    obtain ⟨hhi', _, A', c', rfl, hnc', hcm', hcell'⟩ := hS'
    clear hcell hcell'
    go_enter Try.func54, Try.ntmps54
    go_wp2
    all_goals first | (exfalso; simp_all; done) | skip
    go_ret
    exact ⟨by rw [hS.out]; rfl, Below.refl _ _⟩
  have HL := hid hl
  rw [← hl] at hS'
  obtain ⟨hhi', _, A', c', rfl, hnc', hcm', hcell'⟩ := hS'
  have hll : ys.length ≤ xs.length ∧ xs.length ≤ ys.length := by omega
  clear hl
  go_enter Try.func54, Try.ntmps54
  go_wp2
  go_loopw [17] (fun i wr => ∃ (k : Nat), k ≤ xs.length ∧ i = .int .i64 k ∧ Ext w wr ∧ Hid (∀ j (h : j < xs.length) (h' : j < ys.length), j < k → verB xs[j] ys[j] = true)) (fun i _ => xs.length - (intOf i).toNat)
  case atStart => exact ⟨0, by omega, rfl, Below.refl _ _, hid (fun j h h' hj => absurd hj (by omega))⟩
  case round =>
    obtain ⟨k, hk, rfl, hE, hall⟩ := hrel
    by_cases hlt : k < xs.length
    · obtain ⟨b, off, rfl, hb1, hb2, hc⟩ := hcell (by omega)
      obtain ⟨b', off', rfl, hb1', hb2', hc'⟩ := hcell' (by omega)
      have hlk : k < ys.length := by omega
      have hbw : b < w.heap.size := by omega
      have hbw' : b' < w.heap.size := by omega
      obtain ⟨Au, cu, c0, c1, c2, c3, hu⟩ := Version.at_ HP.out hin hc hE hbw k hlt
      obtain ⟨Bu, du, d0, d1, d2, d3, hu'⟩ := Version.at_ HP'.out hin' hc' hE hbw' k hlk
      have hbr : b < wr.heap.size := Nat.lt_of_lt_of_le hbw hE.size
      have hbr' : b' < wr.heap.size := Nat.lt_of_lt_of_le hbw' hE.size
      have hsn : xs[k].state.length ≤ 2097152 := by have : xs[k].state.length ≤ totN nV xs := totN_mem nV xs k hlt; omega
      have hsn' : ys[k].state.length ≤ 2097152 := by have : ys[k].state.length ≤ totN nV ys := totN_mem nV ys k hlk; omega
      have hki : (k : Int) < xs.length := by omega
      have hno := his_no k hlt hlk
      have HR := hid (show verB xs[k] ys[k] = true → ∀ j (h : j < xs.length) (h' : j < ys.length), j < k + 1 → verB xs[j] ys[j] = true from fun hx j h h' hj => by rcases Nat.lt_succ_iff_lt_or_eq.1 hj with h1 | rfl; exact hall.out j h h' h1; exact hx)
      clear hc hc' hcell hcell'
      generalize xs[k] = x at *
      generalize ys[k] = y at *
      have HNO := hid hno
      clear hno
      cases hsb : verB x y
      · have hS := hid (HNO.out hsb)
        go_wp2_with fail
        refine (cv (sameVer x y lo hi lo' hi' Au Bu cu du _ (hu.ext (Ext.tr (Ext.new _ _) (Ext.new _ _))) (hu'.ext (Ext.tr (Ext.new _ _) (Ext.new _ _))) hsn hsn') (vb hsb)).mono ?_
        rintro e w2 ⟨rfl, hE2⟩
        go_wp2
        go_ret
        exact ⟨by rw [hS.out]; rfl, Ext.tr hE (Ext.tr (Ext.tr (Ext.new _ _) (Ext.new _ _)) hE2)⟩
      · have hS := hid hsb
        go_wp2_with fail
        refine (cv (sameVer x y lo hi lo' hi' Au Bu cu du _ (hu.ext (Ext.tr (Ext.new _ _) (Ext.new _ _))) (hu'.ext (Ext.tr (Ext.new _ _) (Ext.new _ _))) hsn hsn') (vb hsb)).mono ?_
        rintro e w2 ⟨rfl, hE2⟩
        clear hsb
        go_wp2
        go_roundw
        case rel => exact ⟨k + 1, by omega, by go_num, Ext.tr hE (Ext.tr (Ext.tr (Ext.new _ _) (Ext.new _ _)) hE2), hid (HR.out hS.out)⟩
        case measure => simp [intOf]; omega
    · obtain rfl : k = xs.length := by omega
      go_wp2
      go_ret
      exact ⟨ret_bool (his_yes HL.out (fun k h h' => hall.out k h h' h)).symm, hE⟩
theorem implSameHistory (xs ys : List Version) (lo hi lo' hi' : Nat) (v v' : Value) (w : World) (hv : SlV lo hi w v xs) (hv' : SlV lo' hi' w v' ys) (hn : totN nV xs + xs.length ≤ 1048576) (hn' : totN nV ys + ys.length ≤ 1048576) :
    Calls Try.prog 22 #[v, v'] w fun e w' => e = .returned (.bool (hisB xs ys)) ∧ Ext w w' := by
  go_enter Try.func22, Try.ntmps22
  go_wp2_with (go_at_call 54; refine (equalHist xs ys lo hi lo' hi' v v' _ hv hv' hn hn').mono ?_; rintro e w2 ⟨rfl, hE⟩)
  go_ret
  exact ⟨rfl, hE⟩
end Go.Proofs.Ythffakaddohlnaa
