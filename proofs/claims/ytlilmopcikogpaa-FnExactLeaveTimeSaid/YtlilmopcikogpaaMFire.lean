/- Contracts of the functions that tell whether a fire is valid for a mine, in both packages. -/
import Derived.Test.YtlilmopcikogpaaXFire
import Derived.Test.YtlilmopcikogpaaMine1
import Derived.Test.YtlilmopcikogpaaCmp
namespace Go.Proofs.Ytlilmopcikogpaa
set_option linter.unusedVariables false
open Go.RowKit
def fireP (x : Fire) : Bool := inB x.airway 0 23 && inB x.atp 0 10000 && inB x.start 0 36000
theorem fireP_bd {x : Fire} (h : fireP x = true) : (0 ≤ x.airway ∧ x.airway ≤ 23) ∧ (0 ≤ x.atp ∧ x.atp ≤ 10000) ∧ (0 ≤ x.start ∧ x.start ≤ 36000) := by
  unfold fireP inB at h; simp only [Bool.and_eq_true, decide_eq_true_eq] at h; omega
def lengAt (ays : List Airway) (i : Int) : Int := ((ays[i.toNat]?).map Airway.leng).getD 0
theorem lengAt_nat (ays : List Airway) (i : Nat) (h : i < ays.length) : lengAt ays i = ays[i].leng := by
  unfold lengAt; rw [Int.toNat_natCast, List.getElem?_eq_getElem h]; rfl
def fireB (ays : List Airway) (x : Fire) : Bool := fireP x && decide (x.airway < (ays.length : Int)) && decide (x.atp ≤ lengAt ays x.airway)
theorem l17One (b o : Nat) (x : Fire) (w : World) (hx : Fire.At w b o x) :
    Calls Try.prog 77 #[.pointer (some ⟨b, o, none⟩)] w fun e w' => e = .returned (.bool (fireP x)) ∧ w = w' := by
  obtain ⟨c0, c1, c2⟩ := hx
  go_enter Try.func77, Try.ntmps77
  go_wp2_with (go_at_call 53; refine (l00In _ _ _ _).mono ?_; rintro e w' ⟨rfl, rfl⟩)
  all_goals (go_ret; refine ⟨ret_bool ?_, rfl⟩; go_tidy; grind [fireP])
theorem fireI (x : Fire) (w : World) :
    Calls Try.prog 40 #[.agg #[.int .i64 x.airway, .int .i64 x.atp, .int .i64 x.start]] w fun e w' => e = .returned (.bool (fireP x)) ∧ Ext w w' := by
  go_enter Try.func40, Try.ntmps40
  go_wp2_with (go_at_call 70; refine (within _ _ _ _).mono ?_; rintro e w' ⟨rfl, rfl⟩)
  all_goals (go_ret; refine ⟨ret_bool ?_, by go_tidy; go_grown⟩; go_tidy; grind [fireP])
theorem indexValidA (A : Option Addr) (n c : Nat) (k : Int) (w : World) (hn : n ≤ 1048576) :
    Calls Try.prog 41 #[.slice A n c, .int .i64 k] w fun e w' => e = .returned (.bool (inB k 0 ((n : Int) - 1))) ∧ w = w' := by
  go_enter Try.func41, Try.ntmps41
  go_wp2_with (go_at_call 70; refine (within _ _ _ _).mono ?_; rintro e w' ⟨rfl, rfl⟩)
  go_ret
  exact ⟨rfl, rfl⟩
set_option maxRecDepth 100000 in
set_option maxHeartbeats 1000000 in
theorem l17Fire (j : Int) (ays : List Airway) (x : Fire) (A0 : Option Addr) (c0 bm om bf of lo hi : Nat) (w : World) (hm : MineAt w bm om j (.slice A0 ays.length c0)) (hv : Sl lo hi w 7 (.slice A0 ays.length c0) ays.length (flat Airway.enc ays)) (hx : Fire.At w bf of x) :
    Calls Try.prog 37 #[.pointer (some ⟨bm, om, none⟩), .pointer (some ⟨bf, of, none⟩)] w fun e w' => e = .returned (.bool (fireB ays x)) ∧ ∃ n, w' = w.drewN n := by
  obtain ⟨m0, m1⟩ := hm
  obtain ⟨hhi, _, A, c, hA, hnc, hcm, hcell⟩ := hv
  simp only [Value.slice.injEq] at hA
  obtain ⟨rfl, _, rfl⟩ := hA
  have HX := hid hx
  obtain ⟨f0, f1, f2⟩ := hx
  cases h0 : fireP x
  · have HQ := hid (show fireB ays x = false by unfold fireB; rw [h0]; rfl)
    go_enter Try.func37, Try.ntmps37
    go_wp2_with fail
    go_quiet ((first | (go_at_call 77; exact Calls.quiet_of_same (qv (l17One _ _ x _ HX.out) (vb h0)))))
    go_wp2
    go_ret
    exact ⟨ret_bool HQ.out.symm, _, rfl⟩
  obtain ⟨⟨a0, a1⟩, _, _⟩ := fireP_bd h0
  by_cases h1 : x.airway < (ays.length : Int)
  · obtain ⟨i, hi⟩ := Int.eq_ofNat_of_zero_le a0
    have hil : i < ays.length := by omega
    obtain ⟨b, off, rfl, hb1, hb2, hc⟩ := hcell (by omega)
    obtain ⟨_, _, _, d3, _, _, _⟩ := Airway.cells hc i hil
    have h1' : decide (x.airway < (ays.length : Int)) = true := by simpa using h1
    have h1n : (i : Int) < ays.length := by omega
    have HI := hid hi
    have HQ := hid (show fireB ays x = decide (x.atp ≤ ays[i].leng) by unfold fireB; rw [h0, h1', hi, lengAt_nat _ _ hil]; rfl)
    have f0' : w.cell? ⟨bf, of, none⟩ = some (.int .i64 (i : Int)) := by rw [← hi]; exact f0
    clear f0 hi h1 h1' a0 a1 hc
    go_enter Try.func37, Try.ntmps37
    go_wp2_with fail
    go_quiet ((first | (go_at_call 77; exact Calls.quiet_of_same (qv (l17One _ _ x _ HX.out) (vb h0)))))
    go_wp2
    go_ret
    exact ⟨ret_bool HQ.out.symm, _, rfl⟩
  · have h1' : decide (x.airway < (ays.length : Int)) = false := by simpa using h1
    have HQ := hid (show fireB ays x = false by unfold fireB; rw [h0, h1']; rfl)
    go_enter Try.func37, Try.ntmps37
    go_wp2_with fail
    go_quiet ((first | (go_at_call 77; exact Calls.quiet_of_same (qv (l17One _ _ x _ HX.out) (vb h0)))))
    go_wp2
    go_ret
    exact ⟨ret_bool HQ.out.symm, _, rfl⟩

theorem Fire.At.ext {w W : World} {b o : Nat} {x : Fire} (h : Fire.At w b o x) (hb : b < w.heap.size) (hE : Ext w W) : Fire.At W b o x := by
  obtain ⟨c0, c1, c2⟩ := h
  have hh := (bcell hE).1
  exact ⟨(hh _ _ hb).trans c0, (hh _ _ hb).trans c1, (hh _ _ hb).trans c2⟩
theorem specValidFire (j : Int) (ays : List Airway) (x : Fire) (lo hi : Nat) (v : Value) (w : World) (hv : Sl lo hi w 7 v ays.length (flat Airway.enc ays)) (hsA : ∀ x ∈ ays, x.id.size ≤ maxLen) (hnA : ays.length ≤ 1048576) :
    Calls Try.prog 10 #[.agg #[.int .i64 j, v], .agg #[.int .i64 x.airway, .int .i64 x.atp, .int .i64 x.start]] w fun e w' => e = .returned (.bool (mineB j ays && fireB ays x)) ∧ Ext w w' := by
  have hv0 := hv
  obtain ⟨_, _, A0, c0, rfl, _, _, _⟩ := hv0
  go_enter Try.func10, Try.ntmps10
  go_wp2_with fail
  generalize hG : World.alloc _ _ = wz
  have hE1 : Ext w wz := by rw [← hG]; exact Ext.tr (Ext.new _ _) (Ext.new _ _)
  have hm : MineAt wz w.heap.size 0 j (.slice A0 ays.length c0) := by subst hG; exact ⟨by go_simp, by go_simp⟩
  have hf : Fire.At wz (w.heap.size + 1) 0 x := by subst hG; exact ⟨by go_simp, by go_simp, by go_simp⟩
  have hfl : w.heap.size + 1 < wz.heap.size := by rw [← hG]; simp
  clear hG
  cases hM : mineB j ays
  · refine (cv (l04Ok j ays w.heap.size 0 _ _ _ _ hm (hv.ext hE1) hsA hnA) (vb hM)).mono ?_
    rintro e w1 ⟨rfl, hE⟩
    go_wp2
    go_ret
    exact ⟨ret_bool (by simp [hM]), Ext.tr hE1 hE⟩
  · refine (cv (l04Ok j ays w.heap.size 0 _ _ _ _ hm (hv.ext hE1) hsA hnA) (vb hM)).mono ?_
    rintro e w1 ⟨rfl, hE⟩
    have hE2 := Ext.tr hE1 hE
    go_wp2_with (go_at_call 37; refine (l17Fire j ays x A0 c0 w.heap.size 0 (w.heap.size + 1) 0 _ _ _ (hm.ext hE) (hv.ext hE2) (hf.ext hfl hE)).mono ?_; rintro e w2 ⟨rfl, m, rfl⟩)
    go_ret
    exact ⟨ret_bool (by simp [hM]), Ext.tr hE2 (Ext.drewN _ _)⟩
set_option maxRecDepth 100000 in
set_option maxHeartbeats 1000000 in
theorem implValidFire (j : Int) (ays : List Airway) (x : Fire) (lo hi : Nat) (v : Value) (w : World) (hv : Sl lo hi w 7 v ays.length (flat Airway.enc ays)) (hsA : ∀ x ∈ ays, x.id.size ≤ maxLen) (hnA : ays.length ≤ 1048576) :
    Calls Try.prog 13 #[.agg #[.int .i64 j, v], .agg #[.int .i64 x.airway, .int .i64 x.atp, .int .i64 x.start]] w fun e w' => e = .returned (.bool (mineB j ays && fireB ays x)) ∧ Ext w w' := by
  have hv0 := hv
  obtain ⟨hhi, _, A0, c0, rfl, hnc, hcm, hcell⟩ := hv0
  go_enter Try.func13, Try.ntmps13
  go_wp2_with fail
  generalize hG : World.alloc _ _ = wz
  have hE1 : Ext w wz := by rw [← hG]; exact Ext.tr (Ext.new _ _) (Ext.new _ _)
  have hm : MineAt wz w.heap.size 0 j (.slice A0 ays.length c0) := by subst hG; exact ⟨by go_simp, by go_simp⟩
  have hf : Fire.At wz (w.heap.size + 1) 0 x := by subst hG; exact ⟨by go_simp, by go_simp, by go_simp⟩
  have hfl : w.heap.size + 1 < wz.heap.size := by rw [← hG]; simp
  clear hG

  have ma : ∀ d : Later wz, d.w.cell? ⟨w.heap.size, 0, none⟩ = some (.int .i64 j) := fun d => (hm.ext d.h).1
  have mb : ∀ d : Later wz, d.w.cell? ⟨w.heap.size, 1, none⟩ = some (.slice A0 ays.length c0) := fun d => (hm.ext d.h).2
  have fa : ∀ d : Later wz, d.w.cell? ⟨w.heap.size + 1, 0, none⟩ = some (.int .i64 x.airway) := fun d => (hf.ext hfl d.h).1
  have fb : ∀ d : Later wz, d.w.cell? ⟨w.heap.size + 1, 1, none⟩ = some (.int .i64 x.atp) := fun d => (hf.ext hfl d.h).2.1
  have fc : ∀ d : Later wz, d.w.cell? ⟨w.heap.size + 1, 2, none⟩ = some (.int .i64 x.start) := fun d => (hf.ext hfl d.h).2.2
  cases hM : mineB j ays
  · skip
    refine wp_region_later wz (by kernel_rfl) (by kernel_rfl) (Below.refl _ _) ?_
    repeat (go_big_quiet_step ((first | (go_at_call 39; exact ql (validMine j ays _ _ _ _ (hv.ext (Ext.tr hE1 (Later.h _))) hsA hnA) (vb hM)))))
    refine wpQuiet_nil ?_
    rintro _ ⟨d, rfl⟩
    go_wp2
    go_ret
    exact ⟨ret_bool (by simp [hM]), Ext.tr hE1 d.h⟩
  cases h0 : fireP x
  · skip
    refine wp_region_later wz (by kernel_rfl) (by kernel_rfl) (Below.refl _ _) ?_
    repeat (go_big_quiet_step ((first | (go_at_call 39; exact ql (validMine j ays _ _ _ _ (hv.ext (Ext.tr hE1 (Later.h _))) hsA hnA) (vb hM)) | (go_at_call 40; exact ql (fireI x _) (vb h0)))))
    refine wpQuiet_nil ?_
    rintro _ ⟨d, rfl⟩
    go_wp2
    go_ret
    exact ⟨ret_bool (by unfold fireB; simp [h0]), Ext.tr hE1 d.h⟩
  obtain ⟨⟨a0, a1⟩, _, _⟩ := fireP_bd h0
  cases h1 : inB x.airway 0 ((ays.length : Int) - 1)
  · have hq := ge_of_inB a0 h1
    have hq' : decide (x.airway < (ays.length : Int)) = false := by simp at hq ⊢; exact hq
    refine wp_region_later wz (by kernel_rfl) (by kernel_rfl) (Below.refl _ _) ?_
    repeat (go_big_quiet_step ((first | (go_at_call 39; exact ql (validMine j ays _ _ _ _ (hv.ext (Ext.tr hE1 (Later.h _))) hsA hnA) (vb hM)) | (go_at_call 40; exact ql (fireI x _) (vb h0)) | (go_at_call 41; exact qls (indexValidA _ _ _ _ _ hnA) (vb h1)))))
    refine wpQuiet_nil ?_
    rintro _ ⟨d, rfl⟩
    go_wp2
    go_ret
    exact ⟨ret_bool (by unfold fireB; simp [h0, hq']), Ext.tr hE1 d.h⟩
  have hq := ge_of_inB a0 h1
  have hq' : decide (x.airway < (ays.length : Int)) = true := by simp at hq ⊢; exact hq
  obtain ⟨i, hi⟩ := Int.eq_ofNat_of_zero_le a0
  have hil : i < ays.length := by simp at hq'; omega
  obtain ⟨b, off, rfl, hb1, hb2, hc⟩ := hcell (by omega)
  have hbw : b < w.heap.size := by omega
  have h1n : (i : Int) < ays.length := by omega
  have dc : ∀ d : Later wz, d.w.cell? ⟨b, off + i * 7 + 3, none⟩ = some (.int .i64 ays[i].leng) := fun d => ((bcell (Ext.tr hE1 d.h)).1 _ _ hbw).trans (Airway.cells hc i hil).2.2.2.1
  have HQ := hid (show fireB ays x = decide (x.atp ≤ ays[i].leng) by unfold fireB; rw [h0, hq', hi, lengAt_nat _ _ hil]; rfl)
  rw [hi] at h1
  have fa' : ∀ d : Later wz, d.w.cell? ⟨w.heap.size + 1, 0, none⟩ = some (.int .i64 (i : Int)) := fun d => by rw [← hi]; exact fa d
  have hxa : Value.agg #[.int .i64 (i : Int), .int .i64 x.atp, .int .i64 x.start] = .agg #[.int .i64 x.airway, .int .i64 x.atp, .int .i64 x.start] := by rw [hi]
  have HXA := hid hxa
  clear fa hi a0 a1 hq hq' hc hxa
  refine wp_region_later wz (by kernel_rfl) (by kernel_rfl) (Below.refl _ _) ?_
  repeat (go_big_quiet_step ((first | (go_at_call 39; exact ql (validMine j ays _ _ _ _ (hv.ext (Ext.tr hE1 (Later.h _))) hsA hnA) (vb hM)) | (go_at_call 40; rw [HXA.out]; exact ql (fireI x _) (vb h0)) | (go_at_call 41; exact qls (indexValidA _ _ _ _ _ hnA) (vb h1)))))
  refine wpQuiet_nil ?_
  rintro _ ⟨d, rfl⟩
  go_wp2
  go_ret
  exact ⟨ret_bool (by rw [HQ.out]; simp [hM]), Ext.tr hE1 d.h⟩
end Go.Proofs.Ytlilmopcikogpaa
