/- What is asked ahead of an escape, in both packages. -/
import Derived.Test.YtlilmopcikogpaaEsc3
import Derived.Laws.ResultCell
namespace Go.Proofs.Ytlilmopcikogpaa
set_option linter.unusedVariables false
open Go.RowKit
def arrB (j : Int) (arr : List Int) : Bool := allIn arr (-1) 1000000000000 && decide ((arr.length : Int) = j)
def askE (cr : Bool) (j : Int) (ays : List Airway) (arr : List Int) (bl st : Int) : Int :=
  if mineB j ays && cr then (if inB bl (-1) ((ays.length : Int) - 1) && inB st 0 36000 then (if arrB j arr then 0 else 7) else 2) else 1
theorem askE_a {cr : Bool} {j : Int} {ays : List Airway} {arr : List Int} {bl st : Int} (h : (mineB j ays && cr) = false) : askE cr j ays arr bl st = 1 := by unfold askE; rw [h]; rfl
theorem askE_b {cr : Bool} {j : Int} {ays : List Airway} {arr : List Int} {bl st : Int} (h : (mineB j ays && cr) = true) (h2 : (inB bl (-1) ((ays.length : Int) - 1) && inB st 0 36000) = false) : askE cr j ays arr bl st = 2 := by unfold askE; rw [h, h2]; rfl
theorem askE_c {cr : Bool} {j : Int} {ays : List Airway} {arr : List Int} {bl st : Int} (h : (mineB j ays && cr) = true) (h2 : (inB bl (-1) ((ays.length : Int) - 1) && inB st 0 36000) = true) (h3 : arrB j arr = false) : askE cr j ays arr bl st = 7 := by unfold askE; rw [h, h2, h3]; rfl
theorem askE_d {cr : Bool} {j : Int} {ays : List Airway} {arr : List Int} {bl st : Int} (h : (mineB j ays && cr) = true) (h2 : (inB bl (-1) ((ays.length : Int) - 1) && inB st 0 36000) = true) (h3 : arrB j arr = true) : askE cr j ays arr bl st = 0 := by unfold askE; rw [h, h2, h3]; rfl
def escV (code j : Int) (v vArr : Value) (bl : Int) : Value := if code = 0 then .agg #[.int .i64 j, v, vArr, .int .i64 bl] else .agg #[.int .i64 0, .slice none 0 0, .slice none 0 0, .int .i64 0]
theorem arr_no {j : Int} {arr : List Int} (h : allIn arr (-1) 1000000000000 = false) : arrB j arr = false := by unfold arrB; rw [h]; rfl
theorem arr_all {j : Int} {arr : List Int} (h : allIn arr (-1) 1000000000000 = true) : arrB j arr = decide ((arr.length : Int) = j) := by unfold arrB; rw [h]; simp
theorem l19Arrivals (j : Int) (vA : Value) (arr : List Int) (bm om lo hi : Nat) (v : Value) (w : World) (hm : MineAt w bm om j vA) (hv : Sl lo hi w 1 v arr.length (flat encI arr)) (hn : arr.length ≤ 1048576) :
    Calls Try.prog 92 #[.pointer (some ⟨bm, om, none⟩), v] w fun e w' => e = .returned (.bool (arrB j arr)) ∧ w = w' := by
  obtain ⟨m0, m1⟩ := hm
  obtain ⟨hhi, _, A, c, rfl, hnc, hcm, hcell⟩ := hv
  go_enter Try.func92, Try.ntmps92
  go_wp2
  go_loop [5] (fun i => ∃ k : Nat, k ≤ arr.length ∧ i = .int .i64 k ∧ Hid (∀ j (h : j < arr.length), j < k → inB arr[j] (-1) 1000000000000 = true)) (fun i => arr.length - (intOf i).toNat)
  case atStart => exact ⟨0, Nat.zero_le _, rfl, hid (fun j h hj => absurd hj (by omega))⟩
  case round =>
    obtain ⟨k, hk, rfl, hall⟩ := hrel
    by_cases hlt : k < arr.length
    · obtain ⟨b', off, rfl, hb1, hb2, hc⟩ := hcell (by omega)
      have c0 := cellsI hc k hlt
      clear hc
      cases hp : inB arr[k] (-1) 1000000000000
      · have HQ := hid (arr_no (j := j) (allIn_no k hlt hp))
        go_wp2_with (go_at_call 53; refine (cv (l00In _ _ _ _) (vb hp)).mono ?_; rintro e w' ⟨rfl, rfl⟩)
        go_ret
        exact ⟨ret_bool HQ.out.symm, rfl⟩
      · go_wp2_with (go_at_call 53; refine (cv (l00In _ _ _ _) (vb hp)).mono ?_; rintro e w' ⟨rfl, rfl⟩)
        go_round
        case rel => exact ⟨k + 1, by omega, by go_num, hid (fun j h hj => by rcases Nat.lt_succ_iff_lt_or_eq.1 hj with h1 | rfl; exact hall.out j h h1; exact hp)⟩
        case measure => simp [intOf]; omega
    · obtain rfl : k = arr.length := by omega
      have HQ := hid (arr_all (j := j) (allIn_yes fun k hk => hall.out k hk hk))
      go_wp2
      go_ret
      exact ⟨ret_bool (by rw [HQ.out]; first | rfl | (rw [Bool.eq_iff_iff]; simp)), rfl⟩
theorem l17Time (t : Int) (w : World) : Calls Try.prog 91 #[.int .i64 t] w fun e w' => e = .returned (.bool (inB t 0 36000)) ∧ w = w' := by
  go_enter Try.func91, Try.ntmps91
  go_wp2_with (go_at_call 53; refine (l00In _ _ _ _).mono ?_; rintro e w' ⟨rfl, rfl⟩)
  go_ret
  exact ⟨rfl, rfl⟩
theorem Crew.At.ext {w W : World} {b o : Nat} {x : Crew} (h : Crew.At w b o x) (hb : b < w.heap.size) (hE : Ext w W) : Crew.At W b o x := by
  obtain ⟨c0, c1, c2⟩ := h
  have hh := (bcell hE).1
  exact ⟨(hh _ _ hb).trans c0, (hh _ _ hb).trans c1, (hh _ _ hb).trans c2⟩
theorem crewsP_of {j : Int} {c : Crew} (h : crewP c = true) : crewsP j c = !decide (j ≤ c.junction) := by
  have h0 := crewP_bd h
  unfold crewsP; rw [h, Bool.true_and]; unfold inB; simp [h0]
  by_cases hj : j ≤ c.junction
  · simp [hj]; omega
  · simp [hj]; omega
theorem crewsP_no {j : Int} {c : Crew} (h : crewP c = false) : crewsP j c = false := by unfold crewsP; rw [h]; rfl
set_option maxRecDepth 100000 in
set_option maxHeartbeats 1000000 in
theorem l19Ask (j : Int) (ays : List Airway) (arr : List Int) (bl : Int) (c : Crew) (st : Int) (A0 : Option Addr) (c0 bm om bc oc lo hi lo2 hi2 : Nat) (v2 : Value) (w : World) (hm : MineAt w bm om j (.slice A0 ays.length c0)) (hx : Crew.At w bc oc c) (hbc : bc < w.heap.size) (hs : c.id.size ≤ maxLen) (hv : Sl lo hi w 7 (.slice A0 ays.length c0) ays.length (flat Airway.enc ays)) (hsA : ∀ x ∈ ays, x.id.size ≤ maxLen) (hnA : ays.length ≤ 1048576) (hv2 : Sl lo2 hi2 w 1 v2 arr.length (flat encI arr)) (hn2 : arr.length ≤ 1048576) :
    Calls Try.prog 52 #[.pointer (some ⟨bm, om, none⟩), v2, .int .i64 bl, .pointer (some ⟨bc, oc, none⟩), .int .i64 st] w fun e w' => e = .returned (.int .i64 (askE (crewsP j c) j ays arr bl st)) ∧ Ext w w' := by
  have ma : ∀ d : Later w, d.w.cell? ⟨bm, om, none⟩ = some (.int .i64 j) := fun d => (hm.ext d.h).1
  have mb : ∀ d : Later w, d.w.cell? ⟨bm, om + 1, none⟩ = some (.slice A0 ays.length c0) := fun d => (hm.ext d.h).2
  have mc : ∀ d : Later w, d.w.cell? ⟨bc, oc + 1, none⟩ = some (.int .i64 c.junction) := fun d => (hx.ext hbc d.h).2.1
  have HX := hid hx
  have HM := hid hm
  clear hm hx
  cases hM : mineB j ays
  · have HQ := hid (askE_a (cr := crewsP j c) (arr := arr) (bl := bl) (st := st) (show (mineB j ays && crewsP j c) = false by rw [hM]; rfl))
    go_enter Try.func52, Try.ntmps52
    go_wp2_with fail
    refine wp_region_later w (by kernel_rfl) (by kernel_rfl) (Below.refl _ _) ?_
    repeat (go_big_quiet_step ((first | (go_at_call 36; exact ql (l04Ok j ays bm om _ _ _ _ (HM.out.ext (Later.h _)) (hv.ext (Later.h _)) hsA hnA) (vb hM)))))
    refine wpQuiet_nil ?_
    rintro _ ⟨d, rfl⟩
    go_wp2
    go_ret
    exact ⟨ret_int HQ.out.symm, d.h⟩
  cases hC : crewP c
  · have HQ := hid (askE_a (cr := crewsP j c) (arr := arr) (bl := bl) (st := st) (show (mineB j ays && crewsP j c) = false by rw [crewsP_no hC]; simp))
    go_enter Try.func52, Try.ntmps52
    go_wp2_with fail
    refine wp_region_later w (by kernel_rfl) (by kernel_rfl) (Below.refl _ _) ?_
    repeat (go_big_quiet_step ((first | (go_at_call 36; exact ql (l04Ok j ays bm om _ _ _ _ (HM.out.ext (Later.h _)) (hv.ext (Later.h _)) hsA hnA) (vb hM)) | (go_at_call 88; exact qls (crewPS bc oc c _ hs (HX.out.ext hbc (Later.h _))) (vb hC)))))
    refine wpQuiet_nil ?_
    rintro _ ⟨d, rfl⟩
    go_wp2
    go_ret
    exact ⟨ret_int HQ.out.symm, d.h⟩
  cases hJ : decide (j ≤ c.junction)
  rotate_left
  · have HQ := hid (askE_a (cr := crewsP j c) (arr := arr) (bl := bl) (st := st) (show (mineB j ays && crewsP j c) = false by rw [crewsP_of hC, hJ]; simp))
    have hJ' : j ≤ c.junction := by simpa using hJ
    go_enter Try.func52, Try.ntmps52
    go_wp2_with fail
    refine wp_region_later w (by kernel_rfl) (by kernel_rfl) (Below.refl _ _) ?_
    repeat (go_big_quiet_step ((first | (go_at_call 36; exact ql (l04Ok j ays bm om _ _ _ _ (HM.out.ext (Later.h _)) (hv.ext (Later.h _)) hsA hnA) (vb hM)) | (go_at_call 88; exact qls (crewPS bc oc c _ hs (HX.out.ext hbc (Later.h _))) (vb hC)))))
    refine wpQuiet_nil ?_
    rintro _ ⟨d, rfl⟩
    go_wp2
    go_ret
    exact ⟨ret_int HQ.out.symm, d.h⟩
  have hJ' : ¬ j ≤ c.junction := by simpa using hJ
  have HMC := hid (show (mineB j ays && crewsP j c) = true by rw [crewsP_of hC, hJ, hM]; rfl)
  cases hB : inB bl (-1) ((ays.length : Int) - 1)
  · have HQ := hid (askE_b (arr := arr) (bl := bl) (st := st) HMC.out (by rw [hB]; rfl))
    go_enter Try.func52, Try.ntmps52
    go_wp2_with fail
    refine wp_region_later w (by kernel_rfl) (by kernel_rfl) (Below.refl _ _) ?_
    repeat (go_big_quiet_step ((first | (go_at_call 36; exact ql (l04Ok j ays bm om _ _ _ _ (HM.out.ext (Later.h _)) (hv.ext (Later.h _)) hsA hnA) (vb hM)) | (go_at_call 88; exact qls (crewPS bc oc c _ hs (HX.out.ext hbc (Later.h _))) (vb hC)))))
    refine wpQuiet_nil ?_
    rintro _ ⟨d, rfl⟩
    go_wp2_with (first | (go_at_call 53; refine (cv (l00In _ _ _ _) (vb hB)).mono ?_; rintro e w' ⟨rfl, hw⟩; subst hw))
    go_ret
    exact ⟨ret_int HQ.out.symm, d.h⟩
  cases hT : inB st 0 36000
  · have HQ := hid (askE_b (arr := arr) (bl := bl) (st := st) HMC.out (by rw [hB, hT]; rfl))
    go_enter Try.func52, Try.ntmps52
    go_wp2_with fail
    refine wp_region_later w (by kernel_rfl) (by kernel_rfl) (Below.refl _ _) ?_
    repeat (go_big_quiet_step ((first | (go_at_call 36; exact ql (l04Ok j ays bm om _ _ _ _ (HM.out.ext (Later.h _)) (hv.ext (Later.h _)) hsA hnA) (vb hM)) | (go_at_call 88; exact qls (crewPS bc oc c _ hs (HX.out.ext hbc (Later.h _))) (vb hC)))))
    refine wpQuiet_nil ?_
    rintro _ ⟨d, rfl⟩
    go_wp2_with (first | (go_at_call 53; refine (cv (l00In _ _ _ _) (vb hB)).mono ?_; rintro e w' ⟨rfl, hw⟩; subst hw) | (go_at_call 91; refine (cv (l17Time _ _) (vb hT)).mono ?_; rintro e w' ⟨rfl, hw⟩; subst hw))
    go_ret
    exact ⟨ret_int HQ.out.symm, d.h⟩
  cases hR : arrB j arr
  · have HQ := hid (askE_c (arr := arr) (bl := bl) (st := st) HMC.out (by rw [hB, hT]; rfl) hR)
    go_enter Try.func52, Try.ntmps52
    go_wp2_with fail
    refine wp_region_later w (by kernel_rfl) (by kernel_rfl) (Below.refl _ _) ?_
    repeat (go_big_quiet_step ((first | (go_at_call 36; exact ql (l04Ok j ays bm om _ _ _ _ (HM.out.ext (Later.h _)) (hv.ext (Later.h _)) hsA hnA) (vb hM)) | (go_at_call 88; exact qls (crewPS bc oc c _ hs (HX.out.ext hbc (Later.h _))) (vb hC)))))
    refine wpQuiet_nil ?_
    rintro _ ⟨d, rfl⟩
    go_wp2_with (first | (go_at_call 53; refine (cv (l00In _ _ _ _) (vb hB)).mono ?_; rintro e w' ⟨rfl, hw⟩; subst hw) | (go_at_call 91; refine (cv (l17Time _ _) (vb hT)).mono ?_; rintro e w' ⟨rfl, hw⟩; subst hw) | (go_at_call 92; refine (cv (l19Arrivals j _ arr bm om _ _ _ _ (HM.out.ext (Later.h _)) (hv2.ext (Later.h _)) hn2) (vb hR)).mono ?_; rintro e w' ⟨rfl, hw⟩; subst hw))
    go_ret
    exact ⟨ret_int HQ.out.symm, d.h⟩
  · have HQ := hid (askE_d (arr := arr) (bl := bl) (st := st) HMC.out (by rw [hB, hT]; rfl) hR)
    go_enter Try.func52, Try.ntmps52
    go_wp2_with fail
    refine wp_region_later w (by kernel_rfl) (by kernel_rfl) (Below.refl _ _) ?_
    repeat (go_big_quiet_step ((first | (go_at_call 36; exact ql (l04Ok j ays bm om _ _ _ _ (HM.out.ext (Later.h _)) (hv.ext (Later.h _)) hsA hnA) (vb hM)) | (go_at_call 88; exact qls (crewPS bc oc c _ hs (HX.out.ext hbc (Later.h _))) (vb hC)))))
    refine wpQuiet_nil ?_
    rintro _ ⟨d, rfl⟩
    go_wp2_with (first | (go_at_call 53; refine (cv (l00In _ _ _ _) (vb hB)).mono ?_; rintro e w' ⟨rfl, hw⟩; subst hw) | (go_at_call 91; refine (cv (l17Time _ _) (vb hT)).mono ?_; rintro e w' ⟨rfl, hw⟩; subst hw) | (go_at_call 92; refine (cv (l19Arrivals j _ arr bm om _ _ _ _ (HM.out.ext (Later.h _)) (hv2.ext (Later.h _)) hn2) (vb hR)).mono ?_; rintro e w' ⟨rfl, hw⟩; subst hw))
    go_ret
    exact ⟨ret_int HQ.out.symm, d.h⟩
end Go.Proofs.Ytlilmopcikogpaa
