/- The closures of the program's FewestSensors. -/
import Derived.Test.YtopjccbjdcoanaaFsd
import Derived.Test.YtopjccbjdcoanaaAnyL
namespace Go.Proofs.Ytopjccbjdcoanaa
set_option linter.unusedVariables false
open Go.RowKit
set_option maxRecDepth 100000 in
theorem wrongC (times : List (List Int)) (ts : List Int) (tv : Value) (gt lo hi : Nat) (A : Option Addr) (c : Nat) (W : World) (hts : Sl lo hi W 1 (.slice A ts.length c) ts.length (flat encI ts)) (hg : W.cell? ⟨gt, 0, none⟩ = some tv) (hgt : gt < W.heap.size) (hT : SlSS lo hi W tv times) (h0 : 0 < times.length) (hnt : times.length ≤ 16) (hn : ts.length ≤ 1048576) :
    Calls Try.prog 49 #[.slice A ts.length c, .pointer (some ⟨gt, 0, none⟩)] W fun e w' => e = .returned (.bool (!(timesB ts && decide (ts.length = headLen times)))) ∧ Ext W w' := by
  obtain ⟨At, ct, rfl, hnct, hcct⟩ := SlSS.slice hT
  obtain ⟨ys, hys, ⟨hhi, _, A', c', he, _, _, hcell⟩, hin⟩ := SlSS.opn hT
  simp only [Value.slice.injEq, true_and] at he
  obtain ⟨rfl, rfl⟩ := he
  obtain ⟨b', off, rfl, _, hb2', hc⟩ := hcell (by omega)
  obtain ⟨A0, cu0, c00, hu0⟩ := SS.at_ hys hin hc (Below.refl _ _) (by omega) 0 (by omega)
  simp only [Nat.add_zero] at c00
  have hh0 := head_at (times := times) (by omega)
  rw [← hh0] at c00
  have hc00 : b' < W.heap.size := by omega
  clear hys hin hcell hc hu0 hh0 hT
  have HTS := hid hts
  clear hts
  cases h1 : timesB ts
  · go_enter Try.func49, Try.ntmps49
    go_wp2_with (go_at_call 50; refine (cv (timesOk ts _ _ _ _ HTS.out hn) (vb h1)).mono ?_; rintro e w1 ⟨rfl, hE⟩)
    go_ret
    exact ⟨rfl, hE⟩
  · by_cases h5 : ts.length = headLen times
    · have e5 : ((ts.length : Int) != headLen times) = false := by simp [h5]
      have H5 := hid h5
      clear h5
      go_enter Try.func49, Try.ntmps49
      go_wp2_with (go_at_call 50; refine (cv (timesOk ts _ _ _ _ HTS.out hn) (vb h1)).mono ?_; rintro e w1 ⟨rfl, hE⟩; have d0 := (hE.cell (p := ⟨gt, 0, none⟩) hgt).trans hg; have d1 := (hE.cell (p := ⟨b', off, none⟩) hc00).trans c00)
      go_ret
      exact ⟨ret_bool (by rw [decide_eq_true H5.out]; rfl), hE⟩
    · have e5 : ((ts.length : Int) != headLen times) = true := by simp; omega
      have H5 := hid h5
      clear h5
      go_enter Try.func49, Try.ntmps49
      go_wp2_with (go_at_call 50; refine (cv (timesOk ts _ _ _ _ HTS.out hn) (vb h1)).mono ?_; rintro e w1 ⟨rfl, hE⟩; have d0 := (hE.cell (p := ⟨gt, 0, none⟩) hgt).trans hg; have d1 := (hE.cell (p := ⟨b', off, none⟩) hc00).trans c00)
      go_ret
      exact ⟨ret_bool (by rw [decide_eq_false H5.out]; rfl), hE⟩
def lateP (limit : Int) (set ts : List Int) : Bool := !decide (0 ≤ det ts set ∧ det ts set ≤ limit)
theorem lateC (ts set : List Int) (limit : Int) (gs gl lo hi lo2 hi2 : Nat) (A A2 : Option Addr) (c c2 : Nat) (W : World) (hts : Sl lo hi W 1 (.slice A ts.length c) ts.length (flat encI ts)) (hs : Sl lo2 hi2 W 1 (.slice A2 set.length c2) set.length (flat encI set)) (hgs : W.cell? ⟨gs, 0, none⟩ = some (.slice A2 set.length c2)) (hgl : W.cell? ⟨gl, 0, none⟩ = some (.int .i64 limit)) (hp : Plc ts.length set) (hn : ts.length ≤ 1048576) (hn2 : set.length ≤ 1048576) :
    Calls Try.prog 54 #[.slice A ts.length c, .pointer (some ⟨gs, 0, none⟩), .pointer (some ⟨gl, 0, none⟩)] W fun e w' => e = .returned (.bool (lateP limit set ts)) ∧ Ext W w' := by
  have HC := hid (firstReached ts set _ _ _ _ _ _ W hts hs hp hn hn2)
  have HTS := hid hts
  clear hts hs hp
  go_enter Try.func54, Try.ntmps54
  go_wp2_with (go_at_call 55; refine HC.out.mono ?_; rintro e w1 ⟨⟨r, rfl, hr⟩, rfl⟩)
  obtain ⟨rfl, hd⟩ | ⟨p, hpl, rfl, hpd, hp0⟩ := hr
  · have HD := hid hd
    clear hd
    go_quiet (fail)
    go_wp2
    go_ret
    exact ⟨ret_bool (by unfold lateP; rw [HD.out]; rfl), Ext.drewN _ _⟩
  · obtain ⟨_, _, _, he, _, c0⟩ := t_cell HTS.out p hpl rfl
    simp only [Value.slice.injEq] at he
    obtain ⟨rfl, _, rfl⟩ := he
    have hpi : (p : Int) < ts.length := by omega
    have HD := hid hpd
    have HP := hid hp0
    clear hpd hp0
    go_quiet (fail)
    go_wp2
    go_ret
    refine ⟨ret_bool ?_, Ext.drewN _ _⟩
    have := HP.out
    unfold lateP
    rw [← HD.out] at this ⊢
    by_cases h : tAt ts p ≤ limit
    · simp [h, this]
    · have h2 : limit < tAt ts p := by omega
      simp [h, h2]
theorem idxWrong (times : List (List Int)) (p : List Int → Bool) (c1 : Value) (lo hi : Nat) (v : Value) (w : World) (hv : SlSS lo hi w v times) (hn : times.length ≤ 1048576)
    (hcl : ∀ k (h : k < times.length) (A : Option Addr) (c : Nat) (W : World), Ext w W → Sl lo hi W 1 (.slice A times[k].length c) times[k].length (flat encI times[k]) → Calls Try.prog 49 #[.slice A times[k].length c, c1] W fun e w' => e = .returned (.bool (p times[k])) ∧ Ext W w') :
    Calls Try.prog 89 #[v, .func (.func 49) #[] #[c1]] w fun e w' => idxP (times.any p) e ∧ Ext w w' := by
  obtain ⟨ys, hys, ⟨hhi, _, A, c, rfl, hnc, hcm, hcell⟩, hin⟩ := SlSS.opn hv
  have HY := hid hys
  have HI := hid hin
  have HCL := hid hcl
  clear hys hin hcl hv
  go_enter Try.func89, Try.ntmps89
  go_wp2
  go_loopw [8] (fun i wr => ∃ k : Nat, k ≤ times.length ∧ i = .int .i64 k ∧ Hid (∀ j (h : j < times.length), j < k → p times[j] = false) ∧ Ext w wr) (fun i _ => times.length - (intOf i).toNat)
  case atStart => exact ⟨0, Nat.zero_le _, rfl, hid (fun j h hj => absurd hj (by omega)), Below.refl _ _⟩
  case round =>
    obtain ⟨k, hk, rfl, hall, hE⟩ := hrel
    by_cases hlt : k < times.length
    · obtain ⟨b', off, rfl, hb1, hb2, hc⟩ := hcell (by omega)
      have hbw : b' < w.heap.size := by omega
      obtain ⟨Au, cu, c0, hu⟩ := SS.at_ HY.out HI.out hc hE hbw k hlt
      clear hc
      have HC := hid (HCL.out k hlt Au cu wr hE hu)
      cases hp : p times[k]
      · go_wp2_with (go_at_call 49; refine (cv HC.out (vb hp)).mono ?_; rintro e w2 ⟨rfl, hE2⟩)
        go_roundw
        case rel => exact ⟨k + 1, by omega, by go_num, hid (fun j h hj => by rcases Nat.lt_succ_iff_lt_or_eq.1 hj with h1 | rfl; exact hall.out j h h1; exact hp), Ext.tr hE hE2⟩
        case measure => simp [intOf]; omega
      · go_wp2_with (go_at_call 49; refine (cv HC.out (vb hp)).mono ?_; rintro e w2 ⟨rfl, hE2⟩)
        go_ret
        exact ⟨idxP_yes k (List.any_eq_true.2 ⟨_, List.getElem_mem hlt, hp⟩), Ext.tr hE hE2⟩
    · obtain rfl : k = times.length := by omega
      go_wp2
      go_ret
      exact ⟨idxP_no (any_no fun j h => hall.out j h h), hE⟩
theorem anyWrong (times : List (List Int)) (p : List Int → Bool) (c1 : Value) (lo hi : Nat) (v : Value) (w : World) (hv : SlSS lo hi w v times) (hn : times.length ≤ 1048576)
    (hcl : ∀ k (h : k < times.length) (A : Option Addr) (c : Nat) (W : World), Ext w W → Sl lo hi W 1 (.slice A times[k].length c) times[k].length (flat encI times[k]) → Calls Try.prog 49 #[.slice A times[k].length c, c1] W fun e w' => e = .returned (.bool (p times[k])) ∧ Ext W w') :
    Calls Try.prog 51 #[v, .func (.func 49) #[] #[c1]] w fun e w' => e = .returned (.bool (times.any p)) ∧ Ext w w' := by
  have HX := hid (idxWrong times p c1 lo hi v w hv hn hcl)
  clear hcl hv
  go_enter Try.func51, Try.ntmps51
  go_wp2_with (go_at_call 89; refine HX.out.mono ?_; rintro e w' ⟨⟨r, rfl, hr⟩, hE⟩)
  all_goals
    go_ret
    refine ⟨ret_bool ?_, hE⟩
    go_tidy
    cases hA : times.any p <;> rw [hA] at hr <;> simp at hr ⊢ <;> omega
theorem idxLate (times : List (List Int)) (p : List Int → Bool) (c1 c2 : Value) (lo hi : Nat) (v : Value) (w : World) (hv : SlSS lo hi w v times) (hn : times.length ≤ 1048576)
    (hcl : ∀ k (h : k < times.length) (A : Option Addr) (c : Nat) (W : World), Ext w W → Sl lo hi W 1 (.slice A times[k].length c) times[k].length (flat encI times[k]) → Calls Try.prog 54 #[.slice A times[k].length c, c1, c2] W fun e w' => e = .returned (.bool (p times[k])) ∧ Ext W w') :
    Calls Try.prog 89 #[v, .func (.func 54) #[] #[c1, c2]] w fun e w' => idxP (times.any p) e ∧ Ext w w' := by
  obtain ⟨ys, hys, ⟨hhi, _, A, c, rfl, hnc, hcm, hcell⟩, hin⟩ := SlSS.opn hv
  have HY := hid hys
  have HI := hid hin
  have HCL := hid hcl
  clear hys hin hcl hv
  go_enter Try.func89, Try.ntmps89
  go_wp2
  go_loopw [8] (fun i wr => ∃ k : Nat, k ≤ times.length ∧ i = .int .i64 k ∧ Hid (∀ j (h : j < times.length), j < k → p times[j] = false) ∧ Ext w wr) (fun i _ => times.length - (intOf i).toNat)
  case atStart => exact ⟨0, Nat.zero_le _, rfl, hid (fun j h hj => absurd hj (by omega)), Below.refl _ _⟩
  case round =>
    obtain ⟨k, hk, rfl, hall, hE⟩ := hrel
    by_cases hlt : k < times.length
    · obtain ⟨b', off, rfl, hb1, hb2, hc⟩ := hcell (by omega)
      have hbw : b' < w.heap.size := by omega
      obtain ⟨Au, cu, c0, hu⟩ := SS.at_ HY.out HI.out hc hE hbw k hlt
      clear hc
      have HC := hid (HCL.out k hlt Au cu wr hE hu)
      cases hp : p times[k]
      · go_wp2_with (go_at_call 54; refine (cv HC.out (vb hp)).mono ?_; rintro e w2 ⟨rfl, hE2⟩)
        go_roundw
        case rel => exact ⟨k + 1, by omega, by go_num, hid (fun j h hj => by rcases Nat.lt_succ_iff_lt_or_eq.1 hj with h1 | rfl; exact hall.out j h h1; exact hp), Ext.tr hE hE2⟩
        case measure => simp [intOf]; omega
      · go_wp2_with (go_at_call 54; refine (cv HC.out (vb hp)).mono ?_; rintro e w2 ⟨rfl, hE2⟩)
        go_ret
        exact ⟨idxP_yes k (List.any_eq_true.2 ⟨_, List.getElem_mem hlt, hp⟩), Ext.tr hE hE2⟩
    · obtain rfl : k = times.length := by omega
      go_wp2
      go_ret
      exact ⟨idxP_no (any_no fun j h => hall.out j h h), hE⟩
theorem anyLate (times : List (List Int)) (p : List Int → Bool) (c1 c2 : Value) (lo hi : Nat) (v : Value) (w : World) (hv : SlSS lo hi w v times) (hn : times.length ≤ 1048576)
    (hcl : ∀ k (h : k < times.length) (A : Option Addr) (c : Nat) (W : World), Ext w W → Sl lo hi W 1 (.slice A times[k].length c) times[k].length (flat encI times[k]) → Calls Try.prog 54 #[.slice A times[k].length c, c1, c2] W fun e w' => e = .returned (.bool (p times[k])) ∧ Ext W w') :
    Calls Try.prog 51 #[v, .func (.func 54) #[] #[c1, c2]] w fun e w' => e = .returned (.bool (times.any p)) ∧ Ext w w' := by
  have HX := hid (idxLate times p c1 c2 lo hi v w hv hn hcl)
  clear hcl hv
  go_enter Try.func51, Try.ntmps51
  go_wp2_with (go_at_call 89; refine HX.out.mono ?_; rintro e w' ⟨⟨r, rfl, hr⟩, hE⟩)
  all_goals
    go_ret
    refine ⟨ret_bool ?_, hE⟩
    go_tidy
    cases hA : times.any p <;> rw [hA] at hr <;> simp at hr ⊢ <;> omega
theorem right_any (times : List (List Int)) (limit : Int) (set : List Int) : (!times.any (lateP limit set)) = rightB times limit set := by
  unfold rightB lateP; rw [List.any_eq_not_all_not]; simp
theorem rightC (times : List (List Int)) (set : List Int) (limit : Int) (tv sv : Value) (P gt gl lo hi lo2 hi2 : Nat) (W : World) (hT : SlSS lo hi W tv times) (hTP : ∀ k (h : k < times.length), times[k].length = P) (hnt : times.length ≤ 16) (hP : P ≤ 16) (hs : Sl lo2 hi2 W 1 sv set.length (flat encI set)) (hgt : W.cell? ⟨gt, 0, none⟩ = some tv) (hgl : W.cell? ⟨gl, 0, none⟩ = some (.int .i64 limit)) (l1 : gt < W.heap.size) (l2 : gl < W.heap.size) (hp : Plc P set) (hn2 : set.length ≤ 16) :
    Calls Try.prog 53 #[sv, .pointer (some ⟨gt, 0, none⟩), .pointer (some ⟨gl, 0, none⟩)] W fun e w' => e = .returned (.bool (rightB times limit set)) ∧ Ext W w' := by
  obtain ⟨_, _, A2, c2, rfl, _, _, _⟩ := id hs
  obtain ⟨At, ct, rfl, _, _⟩ := SlSS.slice hT
  have HX : Hid (Ext W (W.alloc (.cells #[.slice A2 set.length c2] 27))) := hid (Ext.new _ _)
  have HB := hid (Blk.new W 27 #[.slice A2 set.length c2])
  have HC := hid (anyLate times (lateP limit set) (.pointer (some ⟨W.heap.size, 0, none⟩)) (.pointer (some ⟨gl, 0, none⟩)) lo hi _ _ (SlSS.opn hT |> fun _ => SlN.ext hT HX.out) (by omega) (fun k hk A c V hE hu => lateC times[k] set limit W.heap.size gl _ _ _ _ A A2 c c2 V hu (hs.ext (Ext.tr HX.out hE)) ((HB.out.ext hE).cell 0) (((Ext.tr HX.out hE).cell (p := ⟨gl, 0, none⟩) l2).trans hgl) (by rw [hTP k hk]; exact hp) (by rw [hTP k hk]; omega) (by omega)))
  clear hTP hT hs
  go_enter Try.func53, Try.ntmps53
  go_wp2_with (go_at_call 51; refine HC.out.mono ?_; rintro e w2 ⟨rfl, hE⟩)
  go_ret
  exact ⟨ret_bool (right_any times limit set), Ext.tr HX.out hE⟩
end Go.Proofs.Ytopjccbjdcoanaa
