/- Contracts of LeaveTime in both packages: the public functions. -/
import Derived.Test.YtlilmopcikogpaaE17
namespace Go.Proofs.Ytlilmopcikogpaa
set_option linter.unusedVariables false
open Go.RowKit
def askF (j : Int) (ays : List Airway) (fs : List Int) (x : Fire) : Int := if mineB j ays && fireB ays x then (if flowsB (ays.length : Int) fs then 0 else 7) else 1
theorem askF_no {j : Int} {ays : List Airway} {x : Fire} (fs : List Int) (h : (mineB j ays && fireB ays x) = false) : askF j ays fs x = 1 := by unfold askF; rw [h]; rfl
theorem askF_order {j : Int} {ays : List Airway} {x : Fire} {fs : List Int} (h : (mineB j ays && fireB ays x) = true) (h2 : flowsB (ays.length : Int) fs = false) : askF j ays fs x = 7 := by unfold askF; rw [h, h2]; rfl
theorem askF_ok {j : Int} {ays : List Airway} {x : Fire} {fs : List Int} (h : (mineB j ays && fireB ays x) = true) (h2 : flowsB (ays.length : Int) fs = true) : askF j ays fs x = 0 := by unfold askF; rw [h, h2]; rfl
theorem askF_in {j : Int} {ays : List Airway} {fs : List Int} {x : Fire} (h : askF j ays fs x = 0) : ∃ i, FireIn ays fs x i ∧ i < ays.length ∧ i < fs.length := by
  cases h1 : (mineB j ays && fireB ays x)
  · rw [askF_no fs h1] at h; cases h
  · cases h2 : flowsB (ays.length : Int) fs
    · rw [askF_order h1 h2] at h; cases h
    · rw [Bool.and_eq_true] at h1
      obtain ⟨hM, hF⟩ := h1
      have hl := flows_len h2
      unfold fireB at hF; simp only [Bool.and_eq_true, decide_eq_true_eq] at hF
      obtain ⟨⟨hP, ha⟩, hle⟩ := hF
      obtain ⟨⟨a0, a1⟩, ⟨p0, p1⟩, ⟨t0, t1⟩⟩ := fireP_bd hP
      obtain ⟨i, hi⟩ := Int.eq_ofNat_of_zero_le a0
      have h3 : i < ays.length := by omega
      have h4 : i < fs.length := by omega
      rw [hi, lengAt_nat _ _ h3] at hle
      obtain ⟨_, _, hln, hsc, _, _⟩ := airB_bd (mineB_ok hM i h3).1
      exact ⟨i, ⟨hi, h3, h4, ⟨p0, hle⟩, ⟨t0, t1⟩, hln.2, hsc, flows_in h2 i h4⟩, h3, h4⟩
def leaveAt (ays : List Airway) (fs : List Int) (x : Fire) : Int := (do let a ← ays[x.airway.toNat]?; let q ← fs[x.airway.toNat]?; pure (leaveR a x q)).getD 0
def flowX (fs : List Int) (x : Fire) : Int := (fs[x.airway.toNat]?).getD 0
theorem leaveAt_eq {ays : List Airway} {fs : List Int} {x : Fire} {i : Nat} (h : FireIn ays fs x i) (h1 : i < ays.length) (h2 : i < fs.length) : leaveAt ays fs x = leaveR ays[i] x fs[i] := by
  unfold leaveAt; rw [h.1, Int.toNat_natCast, List.getElem?_eq_getElem h1, List.getElem?_eq_getElem h2]; rfl
theorem flowX_eq {ays : List Airway} {fs : List Int} {x : Fire} {i : Nat} (h : FireIn ays fs x i) (h2 : i < fs.length) : flowX fs x = fs[i] := by
  unfold flowX; rw [h.1, Int.toNat_natCast, List.getElem?_eq_getElem h2]; rfl
def leaveV (j : Int) (ays : List Airway) (fs : List Int) (x : Fire) : Int := if askF j ays fs x = 0 then leaveAt ays fs x else 0
def leaveC (j : Int) (ays : List Airway) (fs : List Int) (x : Fire) : Int := if askF j ays fs x = 0 then (if flowX fs x = 0 then 3 else 0) else askF j ays fs x
theorem l17Ask (j : Int) (ays : List Airway) (fs : List Int) (x : Fire) (A0 : Option Addr) (c0 bm om bf of lo hi lo2 hi2 : Nat) (v2 : Value) (w : World) (hm : MineAt w bm om j (.slice A0 ays.length c0)) (hx : Fire.At w bf of x) (hbf : bf < w.heap.size) (hv : Sl lo hi w 7 (.slice A0 ays.length c0) ays.length (flat Airway.enc ays)) (hsA : ∀ x ∈ ays, x.id.size ≤ maxLen) (hnA : ays.length ≤ 1048576) (hv2 : Sl lo2 hi2 w 1 v2 fs.length (flat encI fs)) (hn2 : fs.length ≤ 1048576) :
    Calls Try.prog 43 #[.pointer (some ⟨bm, om, none⟩), v2, .pointer (some ⟨bf, of, none⟩)] w fun e w' => e = .returned (.int .i64 (askF j ays fs x)) ∧ Ext w w' := by
  cases hM : mineB j ays
  · have HQ := hid (askF_no (j := j) (ays := ays) (x := x) fs (by rw [hM]; rfl))
    go_enter Try.func43, Try.ntmps43
    go_wp2_with (go_at_call 36; refine (cv (l04Ok j ays bm om _ _ _ _ hm hv hsA hnA) (vb hM)).mono ?_; rintro e w1 ⟨rfl, hE⟩)
    go_ret
    exact ⟨ret_int HQ.out.symm, hE⟩
  cases hS : fireB ays x
  · have HQ := hid (askF_no (j := j) (ays := ays) (x := x) fs (by rw [hM, hS]; rfl))
    go_enter Try.func43, Try.ntmps43
    go_wp2_with (first | (go_at_call 36; refine (cv (l04Ok j ays bm om _ _ _ _ hm hv hsA hnA) (vb hM)).mono ?_; rintro e w1 ⟨rfl, hE⟩) | (go_at_call 37; refine (cv (l17Fire j ays x A0 c0 bm om bf of _ _ _ (hm.ext hE) (hv.ext hE) (hx.ext hbf hE)) (vb hS)).mono ?_; rintro e w2 ⟨rfl, m, rfl⟩))
    go_ret
    exact ⟨ret_int HQ.out.symm, Ext.tr hE (Ext.drewN _ _)⟩
  have hMS : (mineB j ays && fireB ays x) = true := by rw [hM, hS]; rfl
  cases hF : flowsB (ays.length : Int) fs
  · have HQ := hid (askF_order hMS hF)
    go_enter Try.func43, Try.ntmps43
    go_wp2_with (first | (go_at_call 36; refine (cv (l04Ok j ays bm om _ _ _ _ hm hv hsA hnA) (vb hM)).mono ?_; rintro e w1 ⟨rfl, hE⟩) | (go_at_call 37; refine (cv (l17Fire j ays x A0 c0 bm om bf of _ _ _ (hm.ext hE) (hv.ext hE) (hx.ext hbf hE)) (vb hS)).mono ?_; rintro e w2 ⟨rfl, m, rfl⟩) | (go_at_call 82; refine (cv (l07Flows j ays.length A0 c0 fs bm om _ _ _ _ ((hm.ext hE).ext (Ext.drewN _ _)) ((hv2.ext hE).ext (Ext.drewN _ _)) hn2) (vb hF)).mono ?_; rintro e w3 ⟨rfl, rfl⟩))
    go_ret
    exact ⟨ret_int HQ.out.symm, Ext.tr hE (Ext.drewN _ _)⟩
  · have HQ := hid (askF_ok hMS hF)
    go_enter Try.func43, Try.ntmps43
    go_wp2_with (first | (go_at_call 36; refine (cv (l04Ok j ays bm om _ _ _ _ hm hv hsA hnA) (vb hM)).mono ?_; rintro e w1 ⟨rfl, hE⟩) | (go_at_call 37; refine (cv (l17Fire j ays x A0 c0 bm om bf of _ _ _ (hm.ext hE) (hv.ext hE) (hx.ext hbf hE)) (vb hS)).mono ?_; rintro e w2 ⟨rfl, m, rfl⟩) | (go_at_call 82; refine (cv (l07Flows j ays.length A0 c0 fs bm om _ _ _ _ ((hm.ext hE).ext (Ext.drewN _ _)) ((hv2.ext hE).ext (Ext.drewN _ _)) hn2) (vb hF)).mono ?_; rintro e w3 ⟨rfl, rfl⟩))
    go_ret
    exact ⟨ret_int HQ.out.symm, Ext.tr hE (Ext.drewN _ _)⟩
theorem fireCode (j : Int) (ays : List Airway) (fs : List Int) (x : Fire) (lo hi lo2 hi2 : Nat) (v v2 : Value) (w : World) (hv : Sl lo hi w 7 v ays.length (flat Airway.enc ays)) (hsA : ∀ x ∈ ays, x.id.size ≤ maxLen) (hnA : ays.length ≤ 1048576) (hv2 : Sl lo2 hi2 w 1 v2 fs.length (flat encI fs)) (hn2 : fs.length ≤ 1048576) :
    Calls Try.prog 45 #[.agg #[.int .i64 j, v], v2, .agg #[.int .i64 x.airway, .int .i64 x.atp, .int .i64 x.start], .int .i64 0] w fun e w' => e = .returned (.int .i64 (askF j ays fs x)) ∧ Ext w w' := by
  have hv0 := hv
  obtain ⟨_, _, A0, c0, rfl, _, _, _⟩ := hv0
  have hin : inB 0 0 36000 = true := by decide
  go_enter Try.func45, Try.ntmps45
  go_wp2_with fail
  generalize hG : World.alloc _ _ = wz
  have hE1 : Ext w wz := by rw [← hG]; exact Ext.tr (Ext.new _ _) (Ext.new _ _)
  have hm : MineAt wz w.heap.size 0 j (.slice A0 ays.length c0) := by subst hG; exact ⟨by go_simp, by go_simp⟩
  have hf : Fire.At wz (w.heap.size + 1) 0 x := by subst hG; exact ⟨by go_simp, by go_simp, by go_simp⟩
  have hfl : w.heap.size + 1 < wz.heap.size := by rw [← hG]; simp
  have m0 := hm.1
  have m1 := hm.2
  have g0 := hf.1
  have g1 := hf.2.1
  have g2 := hf.2.2
  have HM := hid hm
  have HF := hid hf
  clear hG hm hf
  cases hMS : (mineB j ays && fireB ays x)
  · have HQ := hid (askF_no fs hMS)
    go_wp2_with (go_at_call 13; refine (cv (implValidFire j ays x _ _ _ _ (hv.ext hE1) hsA hnA) (vb hMS)).mono ?_; rintro e w1 ⟨rfl, hE⟩; have HM1 := HM.out.ext hE; obtain ⟨k0, k1⟩ := HM1; clear m0 m1 g0 g1 g2)
    go_ret
    exact ⟨ret_int HQ.out.symm, Ext.tr hE1 hE⟩
  cases hF : flowsB (ays.length : Int) fs
  · have HQ := hid (askF_order hMS hF)
    go_wp2_with (first | (go_at_call 13; refine (cv (implValidFire j ays x _ _ _ _ (hv.ext hE1) hsA hnA) (vb hMS)).mono ?_; rintro e w1 ⟨rfl, hE⟩; have HM1 := HM.out.ext hE; obtain ⟨k0, k1⟩ := HM1; clear m0 m1 g0 g1 g2) | (go_at_call 70; refine (cv (within _ _ _ _) (vb hin)).mono ?_; rintro e w' ⟨rfl, rfl⟩) | (go_at_call 84; refine (cv (hasFlows j ays.length A0 c0 fs _ _ _ _ (hv2.ext (Ext.tr hE1 hE)) hn2) (vb hF)).mono ?_; rintro e w3 ⟨rfl, hE3⟩))
    go_ret
    exact ⟨ret_int HQ.out.symm, Ext.tr (Ext.tr hE1 hE) hE3⟩
  · have HQ := hid (askF_ok hMS hF)
    go_wp2_with (first | (go_at_call 13; refine (cv (implValidFire j ays x _ _ _ _ (hv.ext hE1) hsA hnA) (vb hMS)).mono ?_; rintro e w1 ⟨rfl, hE⟩; have HM1 := HM.out.ext hE; obtain ⟨k0, k1⟩ := HM1; clear m0 m1 g0 g1 g2) | (go_at_call 70; refine (cv (within _ _ _ _) (vb hin)).mono ?_; rintro e w' ⟨rfl, rfl⟩) | (go_at_call 84; refine (cv (hasFlows j ays.length A0 c0 fs _ _ _ _ (hv2.ext (Ext.tr hE1 hE)) hn2) (vb hF)).mono ?_; rintro e w3 ⟨rfl, hE3⟩))
    go_ret
    exact ⟨ret_int HQ.out.symm, Ext.tr (Ext.tr hE1 hE) hE3⟩
set_option maxRecDepth 100000 in
set_option maxHeartbeats 1000000 in
theorem specLeaveTime (j : Int) (ays : List Airway) (fs : List Int) (x : Fire) (lo hi lo2 hi2 : Nat) (v v2 : Value) (w : World) (hv : Sl lo hi w 7 v ays.length (flat Airway.enc ays)) (hsA : ∀ x ∈ ays, x.id.size ≤ maxLen) (hnA : ays.length ≤ 1048576) (hv2 : Sl lo2 hi2 w 1 v2 fs.length (flat encI fs)) (hn2 : fs.length ≤ 1048576) :
    Calls Try.prog 15 #[.agg #[.int .i64 j, v], v2, .agg #[.int .i64 x.airway, .int .i64 x.atp, .int .i64 x.start]] w fun e w' => e = .returned (.tuple #[.int .i64 (leaveV j ays fs x), .int .i64 (leaveC j ays fs x)]) ∧ Ext w w' := by
  have hv0 := hv
  obtain ⟨_, _, A0, c0, rfl, _, _, _⟩ := hv0
  go_enter Try.func15, Try.ntmps15
  go_wp2_with fail
  generalize hG : World.alloc _ _ = wz
  have hE1 : Ext w wz := by rw [← hG]; exact Ext.tr (Ext.new _ _) (Ext.new _ _)
  have hm : MineAt wz w.heap.size 0 j (.slice A0 ays.length c0) := by subst hG; exact ⟨by go_simp, by go_simp⟩
  have hf : Fire.At wz (w.heap.size + 1) 0 x := by subst hG; exact ⟨by go_simp, by go_simp, by go_simp⟩
  have hfl : w.heap.size + 1 < wz.heap.size := by rw [← hG]; simp
  clear hG
  by_cases ha : askF j ays fs x = 0
  · obtain ⟨i, hF, h1, h2⟩ := askF_in ha
    have hFI := hF
    have hi0 := hF.1
    have HV := hid (show leaveV j ays fs x = leaveR ays[i] x fs[i] by unfold leaveV; rw [if_pos ha, leaveAt_eq hF h1 h2])
    have HC := hid (show leaveC j ays fs x = (if fs[i] = 0 then 3 else 0) by unfold leaveC; rw [if_pos ha, flowX_eq hF h2])
    have HA := hid ha
    have HFI := hid hFI
    have HI0 := hid hi0
    have hv20 := hv2
    obtain ⟨hhi2, _, A2, c2, rfl, hnc2, hcm2, hcell2⟩ := hv20
    obtain ⟨b2, off2, rfl, hb21, hb22, hc2⟩ := hcell2 (by omega)
    have hb2w : b2 < w.heap.size := by omega
    have d0 := cellsI hc2 i h2
    have h2i : (i : Int) < fs.length := by omega
    clear ha hF hFI hi0 hc2
    refine (cv (l17Ask j ays fs x A0 c0 w.heap.size 0 (w.heap.size + 1) 0 _ _ _ _ _ _ hm hf hfl (hv.ext hE1) hsA hnA (hv2.ext hE1) hn2) (vi HA.out)).mono ?_
    rintro e w1 ⟨rfl, hE⟩
    have hE2 := Ext.tr hE1 hE
    have hm2 := hm.ext hE
    have hf2 := hf.ext hfl hE
    have hfl2 : w.heap.size + 1 < w1.heap.size := by have := hE.size; omega
    have f0 : w1.cell? ⟨w.heap.size + 1, 0, none⟩ = some (.int .i64 (i : Int)) := by rw [← HI0.out]; exact hf2.1
    have d1 : w1.cell? ⟨b2, off2 + i, none⟩ = some (.int .i64 fs[i]) := ((bcell hE2).1 _ _ hb2w).trans d0
    have HM2 := hid hm2
    have HF2 := hid hf2
    clear hm hf hm2 hf2 d0
    by_cases hq : fs[i] = 0
    · have HVQ := hid (HV.out.trans (show leaveR ays[i] x fs[i] = 0 by unfold leaveR; rw [if_pos hq]))
      have HCQ := hid (HC.out.trans (if_pos hq))
      have hqb : (fs[i] == 0) = true := by simpa using hq
      clear hq
      go_wp2
      go_ret2
      exact ⟨by rw [HVQ.out, HCQ.out]; rfl, hE2⟩
    · have HVQ := hid (HV.out.trans (show leaveR ays[i] x fs[i] = leaveI ays[i] x fs[i] by unfold leaveR; rw [if_neg hq]))
      have HCQ := hid (HC.out.trans (if_neg hq))
      have hqb : (fs[i] == 0) = false := by simpa using hq
      have HNQ := hid hq
      clear hq
      go_wp2_with (go_at_call 44; refine (l17Leave j ays fs x i A0 c0 w.heap.size 0 (w.heap.size + 1) 0 _ _ _ _ _ _ HM2.out HF2.out (hv.ext hE2) (hv2.ext hE2) HFI.out h1 h2 HNQ.out).mono ?_; rintro e w3 ⟨rfl, hE3⟩)
      go_ret2
      exact ⟨by rw [HVQ.out, HCQ.out]; rfl, Ext.tr hE2 hE3⟩
  · have HV := hid (show leaveV j ays fs x = 0 by unfold leaveV; rw [if_neg ha])
    have HC := hid (show leaveC j ays fs x = askF j ays fs x by unfold leaveC; rw [if_neg ha])
    refine (l17Ask j ays fs x A0 c0 w.heap.size 0 (w.heap.size + 1) 0 _ _ _ _ _ _ hm hf hfl (hv.ext hE1) hsA hnA (hv2.ext hE1) hn2).mono ?_
    rintro e w1 ⟨rfl, hE⟩
    clear hm hf
    go_wp2
    go_ret2
    exact ⟨by rw [HV.out, HC.out]; rfl, Ext.tr hE1 hE⟩
set_option maxRecDepth 100000 in
set_option maxHeartbeats 1000000 in
theorem implLeaveTime (j : Int) (ays : List Airway) (fs : List Int) (x : Fire) (lo hi lo2 hi2 : Nat) (v v2 : Value) (w : World) (hv : Sl lo hi w 7 v ays.length (flat Airway.enc ays)) (hsA : ∀ x ∈ ays, x.id.size ≤ maxLen) (hnA : ays.length ≤ 1048576) (hv2 : Sl lo2 hi2 w 1 v2 fs.length (flat encI fs)) (hn2 : fs.length ≤ 1048576) :
    Calls Try.prog 17 #[.agg #[.int .i64 j, v], v2, .agg #[.int .i64 x.airway, .int .i64 x.atp, .int .i64 x.start]] w fun e w' => e = .returned (.tuple #[.int .i64 (leaveV j ays fs x), .int .i64 (leaveC j ays fs x)]) ∧ Ext w w' := by
  have hv0 := hv
  obtain ⟨_, _, A0, c0, rfl, _, _, _⟩ := hv0
  go_enter Try.func17, Try.ntmps17
  go_wp2_with fail
  generalize hG : World.alloc _ _ = wz
  have hE1 : Ext w wz := by rw [← hG]; exact Ext.tr (Ext.new _ _) (Ext.new _ _)
  have hm : MineAt wz w.heap.size 0 j (.slice A0 ays.length c0) := by subst hG; exact ⟨by go_simp, by go_simp⟩
  have hf : Fire.At wz (w.heap.size + 1) 0 x := by subst hG; exact ⟨by go_simp, by go_simp, by go_simp⟩
  have hfl : w.heap.size + 1 < wz.heap.size := by rw [← hG]; simp
  clear hG
  have m0 := hm.1
  have m1 := hm.2
  have g0 := hf.1
  have g1 := hf.2.1
  have g2 := hf.2.2
  by_cases ha : askF j ays fs x = 0
  · obtain ⟨i, hF, h1, h2⟩ := askF_in ha
    have hFI := hF
    have hi0 := hF.1
    have HV := hid (show leaveV j ays fs x = leaveR ays[i] x fs[i] by unfold leaveV; rw [if_pos ha, leaveAt_eq hF h1 h2])
    have HC := hid (show leaveC j ays fs x = (if fs[i] = 0 then 3 else 0) by unfold leaveC; rw [if_pos ha, flowX_eq hF h2])
    have HA := hid ha
    have HFI := hid hFI
    have HI0 := hid hi0
    have hv20 := hv2
    obtain ⟨hhi2, _, A2, c2, rfl, hnc2, hcm2, hcell2⟩ := hv20
    obtain ⟨b2, off2, rfl, hb21, hb22, hc2⟩ := hcell2 (by omega)
    have hb2w : b2 < w.heap.size := by omega
    have d0 := cellsI hc2 i h2
    have h2i : (i : Int) < fs.length := by omega
    have HD0 := hid d0
    clear ha hF hFI hi0 hc2 d0
    have HM := hid hm
    have HF := hid hf
    clear hm hf
    refine (cv (fireCode j ays fs x _ _ _ _ _ _ _ (hv.ext hE1) hsA hnA (hv2.ext hE1) hn2) (vi HA.out)).mono ?_
    rintro e w1 ⟨rfl, hE⟩
    have hE2 := Ext.tr hE1 hE
    obtain ⟨k0, k1⟩ := HM.out.ext hE
    obtain ⟨l0, l1, l2⟩ := HF.out.ext hfl hE
    clear m0 m1 g0 g1 g2
    go_wp2_with fail
    refine (leaving j ays fs x i A0 c0 _ _ _ _ _ _ (hv.ext hE2) (hv2.ext hE2) HFI.out h1 h2).mono ?_
    rintro e w3 ⟨⟨en, rfl⟩, hE3⟩
    have hE4 := Ext.tr hE2 hE3
    have f0 : w3.cell? ⟨w.heap.size + 1, 0, none⟩ = some (.int .i64 (i : Int)) := by rw [← HI0.out]; exact (HF.out.ext hfl (Ext.tr hE hE3)).1
    have d1 : w3.cell? ⟨b2, off2 + i, none⟩ = some (.int .i64 fs[i]) := ((bcell hE4).1 _ _ hb2w).trans HD0.out
    clear k0 k1 l0 l1 l2
    by_cases hq : fs[i] = 0
    · have HVQ := hid (HV.out.trans (show leaveR ays[i] x fs[i] = 0 by unfold leaveR; rw [if_pos hq]))
      have HCQ := hid (HC.out.trans (if_pos hq))
      have hqb : (fs[i] != 0) = false := by simpa using hq
      clear hq
      go_wp2_with (go_at_call 47; refine (orNotFound _ _ _).mono ?_; rintro e w' ⟨rfl, rfl⟩)
      go_ret2
      exact ⟨by rw [HVQ.out, HCQ.out]; rfl, hE4⟩
    · have HVQ := hid HV.out
      have HCQ := hid (HC.out.trans (if_neg hq))
      have hqb : (fs[i] != 0) = true := by simpa using hq
      clear hq
      go_wp2_with (go_at_call 47; refine (orNotFound _ _ _).mono ?_; rintro e w' ⟨rfl, rfl⟩)
      go_ret2
      exact ⟨by rw [HVQ.out, HCQ.out]; rfl, hE4⟩
  · have HV := hid (show leaveV j ays fs x = 0 by unfold leaveV; rw [if_neg ha])
    have HC := hid (show leaveC j ays fs x = askF j ays fs x by unfold leaveC; rw [if_neg ha])
    clear hm hf
    refine (fireCode j ays fs x _ _ _ _ _ _ _ (hv.ext hE1) hsA hnA (hv2.ext hE1) hn2).mono ?_
    rintro e w1 ⟨rfl, hE⟩
    go_wp2
    go_ret2
    exact ⟨by rw [HV.out, HC.out]; rfl, Ext.tr hE1 hE⟩
end Go.Proofs.Ytlilmopcikogpaa
