/- Contracts of ShortfallOf in both packages. -/
import Derived.Test.YtojmfjdbggpllaaMWant
import Derived.Test.YtojmfjdbggpllaaFlows
import Derived.IntWalk
namespace Go.Proofs.Ytojmfjdbggpllaa
set_option linter.unusedVariables false
open Go.RowKit
def flowAt (fs : List Int) (i : Int) : Int := (fs[i.toNat]?).getD 0
theorem flowAt_nat (fs : List Int) (i : Nat) (h : i < fs.length) : flowAt fs i = fs[i] := by
  unfold flowAt; rw [Int.toNat_natCast, List.getElem?_eq_getElem h]; rfl
def missW (fs : List Int) (x : Want) : Int := maxI 0 (maxI (x.least - flowAt fs x.airway) (flowAt fs x.airway - x.most))
def WantIn (fs : List Int) (x : Want) : Prop := (0 ≤ x.airway ∧ x.airway < (fs.length : Int)) ∧ (-100000 ≤ x.least ∧ x.least ≤ 100000) ∧ (-100000 ≤ x.most ∧ x.most ≤ 100000)
theorem wants_in {fs : List Int} {xs : List Want} (h : wantsB (fs.length : Int) xs = true) : xs.length ≤ 12 ∧ ∀ k (h : k < xs.length), WantIn fs xs[k] := by
  unfold wantsB at h; simp only [Bool.and_eq_true, decide_eq_true_eq, Bool.not_eq_true'] at h
  refine ⟨h.1, fun k hk => ?_⟩
  have h2 := h.2
  rw [List.any_eq_false] at h2
  have := h2 _ (List.getElem_mem hk)
  unfold wantQ wantP inB at this; simp only [Bool.not_eq_true, Bool.not_eq_false', Bool.and_eq_true, decide_eq_true_eq] at this
  unfold WantIn; omega
theorem miss_bd {fs : List Int} {x : Want} (hf : ∀ k (h : k < fs.length), -100000 ≤ fs[k] ∧ fs[k] ≤ 100000) (hx : WantIn fs x) : 0 ≤ missW fs x ∧ missW fs x ≤ 200000 := by
  obtain ⟨⟨a0, a1⟩, hl, hm⟩ := hx
  obtain ⟨i, hi⟩ := Int.eq_ofNat_of_zero_le a0
  have h1 := hf i (by omega)
  unfold missW maxI; rw [hi, flowAt_nat _ _ (by omega)]
  split <;> split <;> omega
def shortTo (fs : List Int) (xs : List Want) : Nat → Int
  | 0 => 0
  | k + 1 => shortTo fs xs k + (if h : k < xs.length then missW fs xs[k] else 0)
theorem shortTo_succ {fs : List Int} {xs : List Want} {k : Nat} (h : k < xs.length) : shortTo fs xs (k + 1) = shortTo fs xs k + missW fs xs[k] := by rw [shortTo, dif_pos h]
theorem shortTo_bd {fs : List Int} {xs : List Want} (hf : ∀ k (h : k < fs.length), -100000 ≤ fs[k] ∧ fs[k] ≤ 100000) (hx : ∀ k (h : k < xs.length), WantIn fs xs[k]) (k : Nat) (hk : k ≤ xs.length) : 0 ≤ shortTo fs xs k ∧ shortTo fs xs k ≤ 200000 * k := by
  induction k with
  | zero => simp [shortTo]
  | succ k ih =>
    have := ih (by omega)
    have h2 := miss_bd hf (hx k (by omega))
    rw [shortTo_succ (by omega)]; omega
theorem l21Miss (fs : List Int) (x : Want) (b o lo hi : Nat) (v : Value) (w : World) (hf : ∀ k (h : k < fs.length), -100000 ≤ fs[k] ∧ fs[k] ≤ 100000) (hi' : WantIn fs x) (hx : Want.At w b o x) (hv : Sl lo hi w 1 v fs.length (flat encI fs)) :
    Calls Try.prog 114 #[v, .pointer (some ⟨b, o, none⟩)] w fun e w' => e = .returned (.int .i64 (missW fs x)) ∧ Ext w w' := by
  obtain ⟨⟨a0, a1⟩, ⟨l0, l1⟩, ⟨m0, m1⟩⟩ := hi'
  obtain ⟨i, hie⟩ := Int.eq_ofNat_of_zero_le a0
  have hil : i < fs.length := by omega
  obtain ⟨f0, f1⟩ := hf i hil
  obtain ⟨hhi, _, A, c, rfl, hnc, hcm, hcell⟩ := hv
  obtain ⟨bf, off, rfl, hb1, hb2, hc⟩ := hcell (by omega)
  obtain ⟨c0, c1, c2⟩ := hx
  have d0 := cellsI hc i hil
  rw [hie] at c0
  have HM := hid (show missW fs x = maxI 0 (maxI (x.least - fs[i]) (fs[i] - x.most)) by unfold missW; rw [hie, flowAt_nat _ _ hil])
  have hii : (i : Int) < fs.length := by omega
  clear hc hie a0 a1 hf
  go_enter Try.func114, Try.ntmps114
  go_wp2
  have w1 : IntKind.i64.wrap (x.least - fs[i]) = x.least - fs[i] := IntWalk.i64_in _ (by omega)
  have w2 : IntKind.i64.wrap (fs[i] - x.most) = fs[i] - x.most := IntWalk.i64_in _ (by omega)
  go_quiet ((go_at_call 128; exact Calls.quiet_of_same (qs (l00Max _ _ _))))
  go_wp2
  go_ret
  exact ⟨ret_int HM.out.symm, Ext.drewN _ _⟩
theorem missI (fs : List Int) (x : Want) (lo hi : Nat) (v : Value) (w : World) (hf : ∀ k (h : k < fs.length), -100000 ≤ fs[k] ∧ fs[k] ≤ 100000) (hi' : WantIn fs x) (hv : Sl lo hi w 1 v fs.length (flat encI fs)) :
    Calls Try.prog 116 #[.agg #[.int .i64 x.airway, .int .i64 x.least, .int .i64 x.most], v] w fun e w' => e = .returned (.int .i64 (missW fs x)) ∧ Ext w w' := by
  obtain ⟨⟨a0, a1⟩, ⟨l0, l1⟩, ⟨m0, m1⟩⟩ := hi'
  obtain ⟨i, hie⟩ := Int.eq_ofNat_of_zero_le a0
  have hil : i < fs.length := by omega
  obtain ⟨f0, f1⟩ := hf i hil
  obtain ⟨hhi, _, A, c, rfl, hnc, hcm, hcell⟩ := hv
  obtain ⟨bf, off, rfl, hb1, hb2, hc⟩ := hcell (by omega)
  have hbw : bf < w.heap.size := by omega
  have d0 := cellsI hc i hil
  have HM := hid (show missW fs x = maxI 0 (maxI (x.least - fs[i]) (fs[i] - x.most)) by unfold missW; rw [hie, flowAt_nat _ _ hil])
  have hii : (i : Int) < fs.length := by omega
  rw [hie]
  clear hc hie a0 a1 hf
  go_enter Try.func116, Try.ntmps116
  go_wp2
  all_goals
    go_ret
    refine ⟨ret_int ?_, by go_tidy; go_grown⟩
    rw [HM.out]; go_tidy; unfold maxI; grind
theorem l21Short (fs : List Int) (xs : List Want) (lo hi lo2 hi2 : Nat) (v v2 : Value) (w : World) (hf : ∀ k (h : k < fs.length), -100000 ≤ fs[k] ∧ fs[k] ≤ 100000) (hx : ∀ k (h : k < xs.length), WantIn fs xs[k]) (hn : xs.length ≤ 12) (hv : Sl lo hi w 1 v fs.length (flat encI fs)) (hv2 : Sl lo2 hi2 w 3 v2 xs.length (flat Want.enc xs)) :
    Calls Try.prog 86 #[v, v2] w fun e w' => e = .returned (.int .i64 (shortTo fs xs xs.length)) ∧ Ext w w' := by
  obtain ⟨hhi, _, A, c, rfl, hnc, hcm, hcell⟩ := hv2
  have HF := hid hf
  have HX := hid hx
  clear hf hx
  go_enter Try.func86, Try.ntmps86
  go_wp2
  go_loopw [5, 6] (fun s i wr => ∃ k : Nat, k ≤ xs.length ∧ i = .int .i64 k ∧ s = .int .i64 (shortTo fs xs k) ∧ Ext w wr) (fun _ i _ => xs.length - (intOf i).toNat)
  case atStart => exact ⟨0, by omega, rfl, rfl, Below.refl _ _⟩
  case round =>
    obtain ⟨k, hk, rfl, rfl, hE⟩ := hrel
    by_cases hlt : k < xs.length
    · obtain ⟨b, off, rfl, hb1, hb2, hc⟩ := hcell (by omega)
      have hbw : b < w.heap.size := by omega
      have hki : (k : Int) < xs.length := by omega
      have hat := Want.at_of hc hE hbw k hlt
      obtain ⟨g0, g1⟩ := shortTo_bd HF.out HX.out k hk
      obtain ⟨m0, m1⟩ := miss_bd HF.out (HX.out k hlt)
      have HS := hid (shortTo_succ (fs := fs) hlt)
      have HAT := hid hat
      clear hat hc
      go_wp2_with (go_at_call 114; refine (l21Miss fs xs[k] _ _ _ _ _ _ HF.out (HX.out k hlt) HAT.out (hv.ext hE)).mono ?_; rintro e w2 ⟨rfl, hE2⟩)
      go_roundw
      case rel => exact ⟨k + 1, by omega, by go_num, by rw [HS.out], Ext.tr hE hE2⟩
      case measure => simp [intOf]; omega
    · obtain rfl : k = xs.length := by omega
      go_wp2
      go_ret
      exact ⟨rfl, hE⟩
theorem shortfall (fs : List Int) (xs : List Want) (lo hi lo2 hi2 : Nat) (v v2 : Value) (w : World) (hf : ∀ k (h : k < fs.length), -100000 ≤ fs[k] ∧ fs[k] ≤ 100000) (hx : ∀ k (h : k < xs.length), WantIn fs xs[k]) (hn : xs.length ≤ 12) (hv : Sl lo hi w 1 v fs.length (flat encI fs)) (hv2 : Sl lo2 hi2 w 3 v2 xs.length (flat Want.enc xs)) :
    Calls Try.prog 88 #[v, v2] w fun e w' => e = .returned (.int .i64 (shortTo fs xs xs.length)) ∧ Ext w w' := by
  obtain ⟨hhi, _, A, c, rfl, hnc, hcm, hcell⟩ := hv2
  have HF := hid hf
  have HX := hid hx
  clear hf hx
  go_enter Try.func88, Try.ntmps88
  go_wp2
  go_loopw [5, 10] (fun s i wr => ∃ k : Nat, k ≤ xs.length ∧ i = .int .i64 k ∧ s = .int .i64 (shortTo fs xs k) ∧ Ext w wr) (fun _ i _ => xs.length - (intOf i).toNat)
  case atStart => exact ⟨0, by omega, rfl, rfl, Below.refl _ _⟩
  case round =>
    obtain ⟨k, hk, rfl, rfl, hE⟩ := hrel
    by_cases hlt : k < xs.length
    · obtain ⟨b, off, rfl, hb1, hb2, hc⟩ := hcell (by omega)
      have hbw : b < w.heap.size := by omega
      have hki : (k : Int) < xs.length := by omega
      obtain ⟨c0, c1, c2⟩ := Want.cells hc k hlt
      have hcc := (bcell hE).1
      obtain ⟨g0, g1⟩ := shortTo_bd HF.out HX.out k hk
      obtain ⟨m0, m1⟩ := miss_bd HF.out (HX.out k hlt)
      have HS := hid (shortTo_succ (fs := fs) hlt)
      clear hc
      go_wp2_with (go_at_call 116; refine (missI fs xs[k] _ _ _ _ HF.out (HX.out k hlt) (hv.ext (Ext.tr hE (by go_tidy; go_grown)))).mono ?_; rintro e w2 ⟨rfl, hE2⟩)
      go_roundw
      case rel => exact ⟨k + 1, by omega, by go_num, by rw [HS.out], Ext.tr hE (Ext.tr (Ext.new _ _) hE2)⟩
      case measure => simp [intOf]; omega
    · obtain rfl : k = xs.length := by omega
      go_wp2
      go_ret
      exact ⟨rfl, hE⟩
def askW (j : Int) (ays : List Airway) (fs : List Int) (xs : List Want) : Int := if mineB j ays && wantsB (ays.length : Int) xs then (if flowsB (ays.length : Int) fs then 0 else 7) else 1
theorem askW_no {j : Int} {ays : List Airway} {xs : List Want} (fs : List Int) (h : (mineB j ays && wantsB (ays.length : Int) xs) = false) : askW j ays fs xs = 1 := by unfold askW; rw [h]; rfl
theorem askW_order {j : Int} {ays : List Airway} {xs : List Want} {fs : List Int} (h : (mineB j ays && wantsB (ays.length : Int) xs) = true) (h2 : flowsB (ays.length : Int) fs = false) : askW j ays fs xs = 7 := by unfold askW; rw [h, h2]; rfl
theorem askW_ok {j : Int} {ays : List Airway} {xs : List Want} {fs : List Int} (h : (mineB j ays && wantsB (ays.length : Int) xs) = true) (h2 : flowsB (ays.length : Int) fs = true) : askW j ays fs xs = 0 := by unfold askW; rw [h, h2]; rfl
theorem askW_split {j : Int} {ays : List Airway} {xs : List Want} {fs : List Int} (h : askW j ays fs xs = 0) : (∀ k (h : k < fs.length), -100000 ≤ fs[k] ∧ fs[k] ≤ 100000) ∧ xs.length ≤ 12 ∧ (∀ k (h : k < xs.length), WantIn fs xs[k]) := by
  cases h1 : (mineB j ays && wantsB (ays.length : Int) xs)
  · rw [askW_no fs h1] at h; cases h
  · cases h2 : flowsB (ays.length : Int) fs
    · rw [askW_order h1 h2] at h; cases h
    · rw [Bool.and_eq_true] at h1
      have h3 := h1.2
      rw [← flows_len h2] at h3
      exact ⟨flows_in h2, wants_in h3⟩
def shortR (j : Int) (ays : List Airway) (fs : List Int) (xs : List Want) : Int := if askW j ays fs xs = 0 then shortTo fs xs xs.length else 0
theorem l21Ask (j : Int) (ays : List Airway) (fs : List Int) (xs : List Want) (A0 : Option Addr) (c0 bm om lo hi lo2 hi2 lo3 hi3 : Nat) (v2 v3 : Value) (w : World) (hm : MineAt w bm om j (.slice A0 ays.length c0)) (hv : Sl lo hi w 7 (.slice A0 ays.length c0) ays.length (flat Airway.enc ays)) (hsA : ∀ x ∈ ays, x.id.size ≤ maxLen) (hnA : ays.length ≤ 1048576) (hv2 : Sl lo2 hi2 w 1 v2 fs.length (flat encI fs)) (hn2 : fs.length ≤ 1048576) (hv3 : Sl lo3 hi3 w 3 v3 xs.length (flat Want.enc xs)) (hn3 : xs.length ≤ 1048576) :
    Calls Try.prog 85 #[.pointer (some ⟨bm, om, none⟩), v2, v3] w fun e w' => e = .returned (.int .i64 (askW j ays fs xs)) ∧ Ext w w' := by
  cases hM : mineB j ays
  · have HQ := hid (askW_no (j := j) (ays := ays) (xs := xs) fs (by rw [hM]; rfl))
    go_enter Try.func85, Try.ntmps85
    go_wp2_with (go_at_call 53; refine (cv (l04Ok j ays bm om _ _ _ _ hm hv hsA hnA) (vb hM)).mono ?_; rintro e w1 ⟨rfl, hE⟩)
    go_ret
    exact ⟨ret_int HQ.out.symm, hE⟩
  cases hS : wantsB (ays.length : Int) xs
  · have HQ := hid (askW_no (j := j) (ays := ays) (xs := xs) fs (by rw [hM, hS]; rfl))
    go_enter Try.func85, Try.ntmps85
    go_wp2_with (first | (go_at_call 53; refine (cv (l04Ok j ays bm om _ _ _ _ hm hv hsA hnA) (vb hM)).mono ?_; rintro e w1 ⟨rfl, hE⟩) | (go_at_call 54; refine (cv (wantsSpec j ays xs bm om _ _ _ _ _ _ _ hM (hm.ext hE) (hv.ext hE) hsA hnA (hv3.ext hE) hn3) (vb hS)).mono ?_; rintro e w2 ⟨rfl, hE2⟩))
    go_ret
    exact ⟨ret_int HQ.out.symm, Ext.tr hE hE2⟩
  have hMS : (mineB j ays && wantsB (ays.length : Int) xs) = true := by rw [hM, hS]; rfl
  cases hF : flowsB (ays.length : Int) fs
  · have HQ := hid (askW_order hMS hF)
    go_enter Try.func85, Try.ntmps85
    go_wp2_with (first | (go_at_call 53; refine (cv (l04Ok j ays bm om _ _ _ _ hm hv hsA hnA) (vb hM)).mono ?_; rintro e w1 ⟨rfl, hE⟩) | (go_at_call 54; refine (cv (wantsSpec j ays xs bm om _ _ _ _ _ _ _ hM (hm.ext hE) (hv.ext hE) hsA hnA (hv3.ext hE) hn3) (vb hS)).mono ?_; rintro e w2 ⟨rfl, hE2⟩) | (go_at_call 113; refine (cv (l07Flows j ays.length A0 c0 fs bm om _ _ _ _ (hm.ext (Ext.tr hE hE2)) (hv2.ext (Ext.tr hE hE2)) hn2) (vb hF)).mono ?_; rintro e w3 ⟨rfl, rfl⟩))
    go_ret
    exact ⟨ret_int HQ.out.symm, Ext.tr hE hE2⟩
  · have HQ := hid (askW_ok hMS hF)
    go_enter Try.func85, Try.ntmps85
    go_wp2_with (first | (go_at_call 53; refine (cv (l04Ok j ays bm om _ _ _ _ hm hv hsA hnA) (vb hM)).mono ?_; rintro e w1 ⟨rfl, hE⟩) | (go_at_call 54; refine (cv (wantsSpec j ays xs bm om _ _ _ _ _ _ _ hM (hm.ext hE) (hv.ext hE) hsA hnA (hv3.ext hE) hn3) (vb hS)).mono ?_; rintro e w2 ⟨rfl, hE2⟩) | (go_at_call 113; refine (cv (l07Flows j ays.length A0 c0 fs bm om _ _ _ _ (hm.ext (Ext.tr hE hE2)) (hv2.ext (Ext.tr hE hE2)) hn2) (vb hF)).mono ?_; rintro e w3 ⟨rfl, rfl⟩))
    go_ret
    exact ⟨ret_int HQ.out.symm, Ext.tr hE hE2⟩
theorem wantsCode (j : Int) (ays : List Airway) (fs : List Int) (xs : List Want) (lo hi lo2 hi2 lo3 hi3 : Nat) (v v2 v3 : Value) (w : World) (hv : Sl lo hi w 7 v ays.length (flat Airway.enc ays)) (hsA : ∀ x ∈ ays, x.id.size ≤ maxLen) (hnA : ays.length ≤ 1048576) (hv2 : Sl lo2 hi2 w 1 v2 fs.length (flat encI fs)) (hn2 : fs.length ≤ 1048576) (hv3 : Sl lo3 hi3 w 3 v3 xs.length (flat Want.enc xs)) (hn3 : xs.length ≤ 1048576) :
    Calls Try.prog 87 #[.agg #[.int .i64 j, v], v2, v3] w fun e w' => e = .returned (.int .i64 (askW j ays fs xs)) ∧ Ext w w' := by
  have hv0 := hv
  obtain ⟨_, _, A0, c0, rfl, _, _, _⟩ := hv0
  go_enter Try.func87, Try.ntmps87
  go_wp2_with fail
  generalize hG : w.alloc _ = wz
  have hE1 : Ext w wz := by rw [← hG]; exact Ext.new _ _
  have hm : MineAt wz w.heap.size 0 j (.slice A0 ays.length c0) := by subst hG; exact ⟨by go_simp, by go_simp⟩
  clear hG
  cases hMS : (mineB j ays && wantsB (ays.length : Int) xs)
  · have HQ := hid (askW_no fs hMS)
    refine (cv (wantsImpl j ays xs _ _ _ _ _ _ _ (hv.ext hE1) hsA hnA (hv3.ext hE1) hn3) (vb hMS)).mono ?_
    rintro e w1 ⟨rfl, hE⟩
    go_wp2
    go_ret
    exact ⟨ret_int HQ.out.symm, Ext.tr hE1 hE⟩
  refine (cv (wantsImpl j ays xs _ _ _ _ _ _ _ (hv.ext hE1) hsA hnA (hv3.ext hE1) hn3) (vb hMS)).mono ?_
  rintro e w1 ⟨rfl, hE⟩
  have hE2 := Ext.tr hE1 hE
  obtain ⟨m0, m1⟩ := hm.ext hE
  clear hm
  cases hF : flowsB (ays.length : Int) fs
  · have HQ := hid (askW_order hMS hF)
    go_wp2_with (go_at_call 115; refine (cv (hasFlows j ays.length A0 c0 fs _ _ _ _ (hv2.ext hE2) hn2) (vb hF)).mono ?_; rintro e w3 ⟨rfl, hE3⟩)
    go_ret
    exact ⟨ret_int HQ.out.symm, Ext.tr hE2 hE3⟩
  · have HQ := hid (askW_ok hMS hF)
    go_wp2_with (go_at_call 115; refine (cv (hasFlows j ays.length A0 c0 fs _ _ _ _ (hv2.ext hE2) hn2) (vb hF)).mono ?_; rintro e w3 ⟨rfl, hE3⟩)
    go_ret
    exact ⟨ret_int HQ.out.symm, Ext.tr hE2 hE3⟩
theorem specShortfallOf (j : Int) (ays : List Airway) (fs : List Int) (xs : List Want) (lo hi lo2 hi2 lo3 hi3 : Nat) (v v2 v3 : Value) (w : World) (hv : Sl lo hi w 7 v ays.length (flat Airway.enc ays)) (hsA : ∀ x ∈ ays, x.id.size ≤ maxLen) (hnA : ays.length ≤ 1048576) (hv2 : Sl lo2 hi2 w 1 v2 fs.length (flat encI fs)) (hn2 : fs.length ≤ 1048576) (hv3 : Sl lo3 hi3 w 3 v3 xs.length (flat Want.enc xs)) (hn3 : xs.length ≤ 1048576) :
    Calls Try.prog 41 #[.agg #[.int .i64 j, v], v2, v3] w fun e w' => e = .returned (.tuple #[.int .i64 (shortR j ays fs xs), .int .i64 (askW j ays fs xs)]) ∧ Ext w w' := by
  have hv0 := hv
  obtain ⟨_, _, A0, c0, rfl, _, _, _⟩ := hv0
  go_enter Try.func41, Try.ntmps41
  go_wp2_with fail
  generalize hG : w.alloc _ = wz
  have hE1 : Ext w wz := by rw [← hG]; exact Ext.new _ _
  have hm : MineAt wz w.heap.size 0 j (.slice A0 ays.length c0) := by subst hG; exact ⟨by go_simp, by go_simp⟩
  clear hG
  by_cases ha : askW j ays fs xs = 0
  · obtain ⟨hf, hl, hx⟩ := askW_split ha
    have HQ := hid (show shortR j ays fs xs = shortTo fs xs xs.length by unfold shortR; rw [if_pos ha])
    have HF := hid hf
    have HX := hid hx
    have HA := hid ha
    clear hf hx ha
    refine (cv (l21Ask j ays fs xs A0 c0 w.heap.size 0 _ _ _ _ _ _ _ _ _ hm (hv.ext hE1) hsA hnA (hv2.ext hE1) hn2 (hv3.ext hE1) hn3) (v' := .int .i64 0) (by rw [HA.out])).mono ?_
    rintro e w1 ⟨rfl, hE⟩
    have hE2 := Ext.tr hE1 hE
    clear hm
    go_wp2_with (go_at_call 86; refine (l21Short fs xs _ _ _ _ _ _ _ HF.out HX.out hl (hv2.ext hE2) (hv3.ext hE2)).mono ?_; rintro e w3 ⟨rfl, hE3⟩)
    go_ret2
    exact ⟨by rw [HQ.out, HA.out]; rfl, Ext.tr hE2 hE3⟩
  · have HQ := hid (show shortR j ays fs xs = 0 by unfold shortR; rw [if_neg ha])
    refine (l21Ask j ays fs xs A0 c0 w.heap.size 0 _ _ _ _ _ _ _ _ _ hm (hv.ext hE1) hsA hnA (hv2.ext hE1) hn2 (hv3.ext hE1) hn3).mono ?_
    rintro e w1 ⟨rfl, hE⟩
    clear hm
    go_wp2
    go_ret2
    exact ⟨by rw [HQ.out]; rfl, Ext.tr hE1 hE⟩
theorem implShortfallOf (j : Int) (ays : List Airway) (fs : List Int) (xs : List Want) (lo hi lo2 hi2 lo3 hi3 : Nat) (v v2 v3 : Value) (w : World) (hv : Sl lo hi w 7 v ays.length (flat Airway.enc ays)) (hsA : ∀ x ∈ ays, x.id.size ≤ maxLen) (hnA : ays.length ≤ 1048576) (hv2 : Sl lo2 hi2 w 1 v2 fs.length (flat encI fs)) (hn2 : fs.length ≤ 1048576) (hv3 : Sl lo3 hi3 w 3 v3 xs.length (flat Want.enc xs)) (hn3 : xs.length ≤ 1048576) :
    Calls Try.prog 42 #[.agg #[.int .i64 j, v], v2, v3] w fun e w' => e = .returned (.tuple #[.int .i64 (shortR j ays fs xs), .int .i64 (askW j ays fs xs)]) ∧ Ext w w' := by
  go_enter Try.func42, Try.ntmps42
  go_wp2_with fail
  generalize hG : w.alloc _ = wz
  have hE1 : Ext w wz := by rw [← hG]; exact Ext.new _ _
  clear hG
  by_cases ha : askW j ays fs xs = 0
  · obtain ⟨hf, hl, hx⟩ := askW_split ha
    have HQ := hid (show shortR j ays fs xs = shortTo fs xs xs.length by unfold shortR; rw [if_pos ha])
    have HF := hid hf
    have HX := hid hx
    have HA := hid ha
    clear hf hx ha
    refine (cv (wantsCode j ays fs xs _ _ _ _ _ _ _ _ _ _ (hv.ext hE1) hsA hnA (hv2.ext hE1) hn2 (hv3.ext hE1) hn3) (v' := .int .i64 0) (by rw [HA.out])).mono ?_
    rintro e w1 ⟨rfl, hE⟩
    have hE2 := Ext.tr hE1 hE
    go_wp2_with (go_at_call 88; refine (shortfall fs xs _ _ _ _ _ _ _ HF.out HX.out hl (hv2.ext hE2) (hv3.ext hE2)).mono ?_; rintro e w3 ⟨rfl, hE3⟩)
    go_ret2
    exact ⟨by rw [HQ.out, HA.out]; rfl, Ext.tr hE2 hE3⟩
  · have HQ := hid (show shortR j ays fs xs = 0 by unfold shortR; rw [if_neg ha])
    refine (wantsCode j ays fs xs _ _ _ _ _ _ _ _ _ _ (hv.ext hE1) hsA hnA (hv2.ext hE1) hn2 (hv3.ext hE1) hn3).mono ?_
    rintro e w1 ⟨rfl, hE⟩
    go_wp2
    go_ret2
    exact ⟨by rw [HQ.out]; rfl, Ext.tr hE1 hE⟩
end Go.Proofs.Ytojmfjdbggpllaa
