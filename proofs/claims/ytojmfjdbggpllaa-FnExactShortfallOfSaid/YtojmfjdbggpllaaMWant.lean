/- Contracts of the functions that tell whether a list of wants is valid for a mine, in both packages. -/
import Derived.Test.YtojmfjdbggpllaaXWant
import Derived.Test.YtojmfjdbggpllaaMine1
import Derived.Test.YtojmfjdbggpllaaCmp
import Derived.Test.YtojmfjdbggpllaaAnyL
namespace Go.Proofs.Ytojmfjdbggpllaa
set_option linter.unusedVariables false
open Go.RowKit
def wantP (x : Want) : Bool := inB x.airway 0 23 && inB x.least (-100000) 100000 && inB x.most x.least 100000
theorem wantP_bd {x : Want} (h : wantP x = true) : 0 ≤ x.airway := by
  unfold wantP inB at h; simp only [Bool.and_eq_true, decide_eq_true_eq] at h; omega
def wantQ (n : Int) (x : Want) : Bool := wantP x && inB x.airway 0 (n - 1)
def wantsB (n : Int) (xs : List Want) : Bool := decide (xs.length ≤ 12) && !(xs.any fun x => !wantQ n x)
theorem l03Flow (n : Int) (w : World) : Calls Try.prog 120 #[.int .i64 n] w fun e w' => e = .returned (.bool (inB n (-100000) 100000)) ∧ w = w' := by
  go_enter Try.func120, Try.ntmps120
  go_wp2_with (go_at_call 79; refine (l00In _ _ _ _).mono ?_; rintro e w' ⟨rfl, rfl⟩)
  go_ret
  exact ⟨rfl, rfl⟩
theorem flowOk (n : Int) (w : World) : Calls Try.prog 103 #[.int .i64 n] w fun e w' => e = .returned (.bool (inB n (-100000) 100000)) ∧ w = w' := by
  go_enter Try.func103, Try.ntmps103
  go_wp2_with (go_at_call 94; refine (within _ _ _ _).mono ?_; rintro e w' ⟨rfl, rfl⟩)
  go_ret
  exact ⟨rfl, rfl⟩
set_option maxHeartbeats 1000000 in
theorem wantPS (b o : Nat) (x : Want) (w : World) (hx : Want.At w b o x) :
    Calls Try.prog 98 #[.pointer (some ⟨b, o, none⟩)] w fun e w' => e = .returned (.bool (wantP x)) ∧ ∃ n, w' = w.drewN n := by
  obtain ⟨c0, c1, c2⟩ := hx
  cases h0 : inB x.airway 0 23
  · have u_ := True.intro
    go_enter Try.func98, Try.ntmps98
    go_wp2_with fail
    go_quiet ((first | (go_at_call 79; exact Calls.quiet_of_same (qv (l00In _ _ _ _) (vb h0)))))
    go_wp2
    go_ret
    exact ⟨ret_bool (by simp [wantP, *]), _, rfl⟩
  cases h1 : inB x.least (-100000) 100000
  · have u_ := True.intro
    go_enter Try.func98, Try.ntmps98
    go_wp2_with fail
    go_quiet ((first | (go_at_call 79; exact Calls.quiet_of_same (qv (l00In _ _ _ _) (vb h0))) | (go_at_call 120; exact Calls.quiet_of_same (qv (l03Flow _ _) (vb h1)))))
    go_wp2
    go_ret
    exact ⟨ret_bool (by simp [wantP, *]), _, rfl⟩
  cases h2 : inB x.most x.least 100000
  · have u_ := True.intro
    go_enter Try.func98, Try.ntmps98
    go_wp2_with fail
    go_quiet ((first | (go_at_call 79; exact Calls.quiet_of_same (qv (l00In _ _ _ _) (vb h0))) | (go_at_call 120; exact Calls.quiet_of_same (qv (l03Flow _ _) (vb h1))) | (go_at_call 79; exact Calls.quiet_of_same (qv (l00In _ _ _ _) (vb h2)))))
    go_wp2
    go_ret
    exact ⟨ret_bool (by simp [wantP, *]), _, rfl⟩
  go_enter Try.func98, Try.ntmps98
  go_wp2_with fail
  go_quiet ((first | (go_at_call 79; exact Calls.quiet_of_same (qv (l00In _ _ _ _) (vb h0))) | (go_at_call 120; exact Calls.quiet_of_same (qv (l03Flow _ _) (vb h1))) | (go_at_call 79; exact Calls.quiet_of_same (qv (l00In _ _ _ _) (vb h2)))))
  go_wp2
  go_ret
  exact ⟨ret_bool (by simp [wantP, *]), _, rfl⟩
theorem wantPI (x : Want) (w : World) :
    Calls Try.prog 60 #[.agg #[.int .i64 x.airway, .int .i64 x.least, .int .i64 x.most]] w fun e w' => e = .returned (.bool (wantP x)) ∧ Ext w w' := by
  go_enter Try.func60, Try.ntmps60
  go_wp2_with (first | (go_at_call 94; refine (within _ _ _ _).mono ?_; rintro e w' ⟨rfl, rfl⟩) | (go_at_call 103; refine (flowOk _ _).mono ?_; rintro e w' ⟨rfl, rfl⟩))
  all_goals (go_ret; refine ⟨ret_bool ?_, by go_tidy; go_grown⟩; go_tidy; grind [wantP])
theorem indexValidA (A : Option Addr) (n c : Nat) (k : Int) (w : World) (hn : n ≤ 1048576) :
    Calls Try.prog 61 #[.slice A n c, .int .i64 k] w fun e w' => e = .returned (.bool (inB k 0 ((n : Int) - 1))) ∧ w = w' := by
  go_enter Try.func61, Try.ntmps61
  go_wp2_with (go_at_call 94; refine (within _ _ _ _).mono ?_; rintro e w' ⟨rfl, rfl⟩)
  go_ret
  exact ⟨rfl, rfl⟩
theorem wantCl (A0 : Option Addr) (n c0 g : Nat) (j : Int) (x : Want) (w : World) (hm : MineAt w g 0 j (.slice A0 n c0)) (hn : n ≤ 1048576) :
    Calls Try.prog 59 #[.agg #[.int .i64 x.airway, .int .i64 x.least, .int .i64 x.most], .pointer (some ⟨g, 0, none⟩)] w fun e w' => e = .returned (.bool (!wantQ n x)) ∧ Ext w w' := by
  have hlt := hm.lt
  obtain ⟨m0, m1⟩ := hm
  cases h0 : wantP x
  · go_enter Try.func59, Try.ntmps59
    go_wp2_with (go_at_call 60; refine (cv (wantPI x _) (vb h0)).mono ?_; rintro e w1 ⟨rfl, hE⟩)
    go_ret
    exact ⟨ret_bool (by unfold wantQ; rw [h0]; rfl), Ext.tr (by go_tidy; go_grown) hE⟩
  · go_enter Try.func59, Try.ntmps59
    go_wp2_with (first | (go_at_call 60; refine (cv (wantPI x _) (vb h0)).mono ?_; rintro e w1 ⟨rfl, hE⟩; obtain ⟨hc, hf⟩ := bcell hE) | (go_at_call 61; refine (indexValidA _ _ _ _ _ hn).mono ?_; rintro e w' ⟨rfl, rfl⟩))
    go_ret
    exact ⟨ret_bool (by unfold wantQ; rw [h0]; simp), Ext.tr (by go_tidy; go_grown) hE⟩
theorem idxWant (A0 : Option Addr) (n c0 g : Nat) (j : Int) (xs : List Want) (lo hi : Nat) (v : Value) (w : World) (hm : MineAt w g 0 j (.slice A0 n c0)) (hn0 : n ≤ 1048576) (hv : Sl lo hi w 3 v xs.length (flat Want.enc xs)) (hn : xs.length ≤ 1048576) :
    Calls Try.prog 102 #[v, .func (.func 59) #[] #[.pointer (some ⟨g, 0, none⟩)]] w fun e w' => idxP (xs.any (fun x => !wantQ n x)) e ∧ Ext w w' := by
  obtain ⟨hhi, _, A, c, rfl, hnc, hcm, hcell⟩ := hv
  go_enter Try.func102, Try.ntmps102
  go_wp2
  go_loopw [8] (fun i wr => ∃ k : Nat, k ≤ xs.length ∧ i = .int .i64 k ∧ Hid (∀ j (h : j < xs.length), j < k → (fun x => !wantQ n x) xs[j] = false) ∧ Ext w wr) (fun i _ => xs.length - (intOf i).toNat)
  case atStart => exact ⟨0, Nat.zero_le _, rfl, hid (fun j h hj => absurd hj (by omega)), Below.refl _ _⟩
  case round =>
    obtain ⟨k, hk, rfl, hall, hE⟩ := hrel
    by_cases hlt : k < xs.length
    · obtain ⟨b', off, rfl, hb1, hb2, hc⟩ := hcell (by omega)
      obtain ⟨cc0, cc1, cc2⟩ := Want.cells hc k hlt
      clear hc
      have hcc := (bcell hE).1
      have hbw : b' < w.heap.size := by omega
      skip
      cases hp : (fun x => !wantQ n x) xs[k]
      all_goals have hp2 : (!wantQ n xs[k]) = _ := hp
      · go_wp2_with (go_at_call 59; refine (cv (wantCl A0 n c0 g j xs[k] _ (hm.ext hE) hn0) (vb hp2)).mono ?_; rintro e w2 ⟨rfl, hE2⟩)
        go_roundw
        case rel => exact ⟨k + 1, by omega, by go_num, hid (fun j h hj => by rcases Nat.lt_succ_iff_lt_or_eq.1 hj with h1 | rfl; exact hall.out j h h1; exact hp), Ext.tr hE hE2⟩
        case measure => simp [intOf]; omega
      · go_wp2_with (go_at_call 59; refine (cv (wantCl A0 n c0 g j xs[k] _ (hm.ext hE) hn0) (vb hp2)).mono ?_; rintro e w2 ⟨rfl, hE2⟩)
        go_ret
        exact ⟨idxP_yes k (List.any_eq_true.2 ⟨_, List.getElem_mem hlt, hp⟩), Ext.tr hE hE2⟩
    · obtain rfl : k = xs.length := by omega
      go_wp2
      go_ret
      exact ⟨idxP_no (any_no fun j h => hall.out j h h), hE⟩
theorem anyWant (A0 : Option Addr) (n c0 g : Nat) (j : Int) (xs : List Want) (lo hi : Nat) (v : Value) (w : World) (hm : MineAt w g 0 j (.slice A0 n c0)) (hn0 : n ≤ 1048576) (hv : Sl lo hi w 3 v xs.length (flat Want.enc xs)) (hn : xs.length ≤ 1048576) :
    Calls Try.prog 58 #[v, .func (.func 59) #[] #[.pointer (some ⟨g, 0, none⟩)]] w fun e w' => e = .returned (.bool (xs.any (fun x => !wantQ n x))) ∧ Ext w w' := by
  go_enter Try.func58, Try.ntmps58
  go_wp2_with (go_at_call 102; refine (idxWant A0 n c0 g j xs lo hi v _ hm hn0 hv hn).mono ?_; rintro e w' ⟨⟨r, rfl, hr⟩, hE⟩)
  all_goals
    go_ret
    refine ⟨ret_bool ?_, hE⟩
    go_tidy
    cases hA : xs.any (fun x => !wantQ n x) <;> rw [hA] at hr <;> simp at hr ⊢ <;> omega

set_option maxRecDepth 100000 in
set_option maxHeartbeats 1000000 in
theorem wantsSpec (j : Int) (ays : List Airway) (xs : List Want) (bm om lo hi lo2 hi2 : Nat) (v v2 : Value) (w : World) (hM : mineB j ays = true) (hm : MineAt w bm om j v) (hv : Sl lo hi w 7 v ays.length (flat Airway.enc ays)) (hsA : ∀ x ∈ ays, x.id.size ≤ maxLen) (hnA : ays.length ≤ 1048576) (hv2 : Sl lo2 hi2 w 3 v2 xs.length (flat Want.enc xs)) (hn : xs.length ≤ 1048576) :
    Calls Try.prog 54 #[.pointer (some ⟨bm, om, none⟩), v2] w fun e w' => e = .returned (.bool (wantsB (ays.length : Int) xs)) ∧ Ext w w' := by
  have hv0 := hv
  obtain ⟨_, _, A0, c0, rfl, _, _, _⟩ := hv0
  have hmA := fun W (hW : Ext w W) => (hm.ext hW).1
  have hmB := fun W (hW : Ext w W) => (hm.ext hW).2
  obtain ⟨hhi, _, A, c, rfl, hnc, hcm, hcell⟩ := hv2
  go_enter Try.func54, Try.ntmps54
  go_wp2
  obtain ⟨hj1, hj2⟩ := mineB_j hM
  go_loopw [5] (fun i wr => ∃ (k : Nat), k ≤ xs.length ∧ i = .int .i64 k ∧ Hid (∀ i (h : i < xs.length), i < k → (!wantQ ays.length xs[i]) = false) ∧ Ext w wr) (fun i _ => xs.length - (intOf i).toNat)
  case atStart => exact ⟨0, by omega, rfl, hid (fun i h hi => absurd hi (by omega)), Below.refl _ _⟩
  case round =>
    obtain ⟨k, hk, rfl, hok, hE⟩ := hrel
    by_cases hlt : k < xs.length
    · obtain ⟨b, off, rfl, hb1, hb2, hc⟩ := hcell (by omega)
      have hbw : b < w.heap.size := by omega
      have hki : (k : Int) < xs.length := by omega
      have at0 : ∀ d : Later wr, Want.At d.w b (off + k * 3) xs[k] := fun d => Want.at_of hc (Ext.tr hE d.h) hbw k hlt
      have ya : ∀ d : Later wr, d.w.cell? ⟨b, off + k * 3, none⟩ = some (.int .i64 xs[k].airway) := fun d => (at0 d).1
      have mb : ∀ d : Later wr, d.w.cell? ⟨bm, om + 1, none⟩ = some (.slice A0 ays.length c0) := fun d => hmB _ (Ext.tr hE d.h)
      clear hmA hmB
      cases h0 : wantP xs[k]
      · have hp : (!wantQ ays.length xs[k]) = true := by unfold wantQ; rw [h0]; rfl
        go_wp2
        refine wp_region_later wr (by kernel_rfl) (by kernel_rfl) (Below.refl _ _) ?_
        repeat (go_big_quiet_step ((first | (go_at_call 98; exact qld (wantPS _ _ xs[k] _ (at0 _)) (vb h0)))))
        refine wpQuiet_nil ?_
        rintro _ ⟨d, rfl⟩
        go_wp2
        go_ret
        exact ⟨ret_bool (by unfold wantsB; rw [List.any_eq_true.2 ⟨_, List.getElem_mem hlt, hp⟩]; simp), Ext.tr hE d.h⟩
      have hbd := wantP_bd h0
      cases h1 : inB xs[k].airway 0 (ays.length - 1)
      all_goals have hq := ge_of_inB hbd h1
      · have hp : (!wantQ ays.length xs[k]) = true := by unfold wantQ; rw [h0, h1]; rfl
        go_wp2
        refine wp_region_later wr (by kernel_rfl) (by kernel_rfl) (Below.refl _ _) ?_
        repeat (go_big_quiet_step ((first | (go_at_call 98; exact qld (wantPS _ _ xs[k] _ (at0 _)) (vb h0)))))
        refine wpQuiet_nil ?_
        rintro _ ⟨d, rfl⟩
        go_wp2
        go_ret
        exact ⟨ret_bool (by unfold wantsB; rw [List.any_eq_true.2 ⟨_, List.getElem_mem hlt, hp⟩]; simp), Ext.tr hE d.h⟩
      · have hp : (!wantQ ays.length xs[k]) = false := by unfold wantQ; rw [h0, h1]; rfl
        go_wp2
        refine wp_region_later wr (by kernel_rfl) (by kernel_rfl) (Below.refl _ _) ?_
        repeat (go_big_quiet_step ((first | (go_at_call 98; exact qld (wantPS _ _ xs[k] _ (at0 _)) (vb h0)))))
        refine wpQuiet_nil ?_
        rintro _ ⟨d, rfl⟩
        go_wp2
        go_roundw
        case rel => exact ⟨k + 1, by omega, by go_num, hid (fun i h hi => by rcases Nat.lt_succ_iff_lt_or_eq.1 hi with h1 | rfl; exact hok.out i h h1; exact hp), Ext.tr hE d.h⟩
        case measure => simp [intOf]; omega
    · obtain rfl : k = xs.length := by omega
      go_wp2
      go_ret
      exact ⟨ret_bool (by unfold wantsB; rw [any_no fun i h => hok.out i h h]; simp; omega), hE⟩
theorem wantsSpecW (j : Int) (ays : List Airway) (xs : List Want) (lo hi lo2 hi2 : Nat) (v v2 : Value) (w : World) (hv : Sl lo hi w 7 v ays.length (flat Airway.enc ays)) (hsA : ∀ x ∈ ays, x.id.size ≤ maxLen) (hnA : ays.length ≤ 1048576) (hv2 : Sl lo2 hi2 w 3 v2 xs.length (flat Want.enc xs)) (hn : xs.length ≤ 1048576) :
    Calls Try.prog 14 #[.agg #[.int .i64 j, v], v2] w fun e w' => e = .returned (.bool (mineB j ays && wantsB (ays.length : Int) xs)) ∧ Ext w w' := by
  go_enter Try.func14, Try.ntmps14
  go_wp2_with fail
  generalize hG : w.alloc _ = wz
  have hE1 : Ext w wz := by rw [← hG]; exact Ext.new _ _
  have hm : MineAt wz w.heap.size 0 j v := by subst hG; exact ⟨by go_simp, by go_simp⟩
  clear hG
  cases hM : mineB j ays
  · refine (cv (l04Ok j ays w.heap.size 0 _ _ _ _ hm (hv.ext hE1) hsA hnA) (vb hM)).mono ?_
    rintro e w1 ⟨rfl, hE⟩
    go_wp2
    go_ret
    exact ⟨ret_bool (by simp [hM]), Ext.tr hE1 hE⟩
  · refine (cv (l04Ok j ays w.heap.size 0 _ _ _ _ hm (hv.ext hE1) hsA hnA) (vb hM)).mono ?_
    rintro e w1 ⟨rfl, hE⟩
    have hE2 := Ext.tr hE1 hE
    go_wp2_with (go_at_call 54; refine (wantsSpec j ays xs w.heap.size 0 _ _ _ _ _ _ _ hM (hm.ext hE) (hv.ext hE2) hsA hnA (hv2.ext hE2) hn).mono ?_; rintro e w2 ⟨rfl, hE3⟩)
    go_ret
    exact ⟨ret_bool (by simp [hM]), Ext.tr hE2 hE3⟩
theorem wantsImpl (j : Int) (ays : List Airway) (xs : List Want) (lo hi lo2 hi2 : Nat) (v v2 : Value) (w : World) (hv : Sl lo hi w 7 v ays.length (flat Airway.enc ays)) (hsA : ∀ x ∈ ays, x.id.size ≤ maxLen) (hnA : ays.length ≤ 1048576) (hv2 : Sl lo2 hi2 w 3 v2 xs.length (flat Want.enc xs)) (hn : xs.length ≤ 1048576) :
    Calls Try.prog 17 #[.agg #[.int .i64 j, v], v2] w fun e w' => e = .returned (.bool (mineB j ays && wantsB (ays.length : Int) xs)) ∧ Ext w w' := by
  have hv0 := hv
  obtain ⟨_, _, A0, c0, rfl, _, _, _⟩ := hv0
  have hv1 := hv2
  obtain ⟨_, _, A1, c1, rfl, _, _, _⟩ := hv1
  have hmx : decide (xs.length ≤ 12) = decide ((xs.length : Int) ≤ 12) := by rw [decide_eq_decide]; omega
  cases hM : mineB j ays
  · go_enter Try.func17, Try.ntmps17
    go_wp2_with (go_at_call 57; refine (cv (validMine j ays _ _ _ _ (hv.ext (by go_tidy; go_grown)) hsA hnA) (vb hM)).mono ?_; rintro e w1 ⟨rfl, hE⟩)
    go_ret
    exact ⟨rfl, Ext.tr (by go_tidy; go_grown) hE⟩
  · by_cases h12 : 12 < xs.length
    · have h12' : ¬ (xs.length : Int) ≤ 12 := by omega
      go_enter Try.func17, Try.ntmps17
      go_wp2_with (go_at_call 57; refine (cv (validMine j ays _ _ _ _ (hv.ext (by go_tidy; go_grown)) hsA hnA) (vb hM)).mono ?_; rintro e w1 ⟨rfl, hE⟩)
      go_ret
      exact ⟨ret_bool (by unfold wantsB; simp; omega), Ext.tr (by go_tidy; go_grown) hE⟩
    have h12' : (xs.length : Int) ≤ 12 := by omega
    go_enter Try.func17, Try.ntmps17
    go_wp2_with fail
    generalize hG : w.alloc _ = wz
    have hE1 : Ext w wz := by rw [← hG]; exact Ext.new _ _
    have hm : MineAt wz w.heap.size 0 j (.slice A0 ays.length c0) := by subst hG; exact ⟨by go_simp, by go_simp⟩
    clear hG
    refine (cv (validMine j ays _ _ _ _ (hv.ext hE1) hsA hnA) (vb hM)).mono ?_
    rintro e w1 ⟨rfl, hE⟩
    have hE2 := Ext.tr hE1 hE
    have hm2 := hm.ext hE
    clear hm
    go_wp2_with (go_at_call 58; refine (anyWant A0 ays.length c0 w.heap.size j xs _ _ _ _ hm2 hnA (hv2.ext hE2) hn).mono ?_; rintro e w2 ⟨rfl, hE3⟩)
    go_ret
    exact ⟨ret_bool (by unfold wantsB; rw [hmx]; simp [h12']), Ext.tr hE2 hE3⟩
end Go.Proofs.Ytojmfjdbggpllaa
