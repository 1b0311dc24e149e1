/- Contracts of the functions that tell whether an airway and a mine are valid, in both packages. -/
import Derived.Test.YtlilmopcikogpaaXMine
import Derived.Test.YtlilmopcikogpaaCmp
namespace Go.Proofs.Ytlilmopcikogpaa
set_option linter.unusedVariables false
open Go.RowKit
def airB (x : Airway) : Bool := nameB x.id && inB x.frm 0 15 && inB x.tt 0 15 && !decide (x.frm = x.tt) && inB x.leng 1 10000 && inB x.sec 50 5000 && inB x.fric 1 1000 && inB x.shock 0 1000
theorem airB_bd {x : Airway} (h : airB x = true) : (0 ≤ x.frm ∧ x.frm ≤ 15) ∧ (0 ≤ x.tt ∧ x.tt ≤ 15) ∧ (1 ≤ x.leng ∧ x.leng ≤ 10000) ∧ (50 ≤ x.sec ∧ x.sec ≤ 5000) ∧ (1 ≤ x.fric ∧ x.fric ≤ 1000) ∧ (0 ≤ x.shock ∧ x.shock ≤ 1000) := by
  unfold airB inB at h; simp only [Bool.and_eq_true, decide_eq_true_eq] at h; omega
theorem l03Ok (b o : Nat) (x : Airway) (w : World) (hs : x.id.size ≤ maxLen) (hx : Airway.At w b o x) :
    Calls Try.prog 75 #[.pointer (some ⟨b, o, none⟩)] w fun e w' => e = .returned (.bool (airB x)) ∧ ∃ n, w' = w.drewN n := by
  obtain ⟨c0, c1, c2, c3, c4, c5, c6⟩ := hx
  cases h0 : nameB x.id
  · go_enter Try.func75, Try.ntmps75
    go_wp2_with fail
    go_quiet ((first | (go_at_call 99; exact Calls.quiet_of_same (qv (l01Name _ _ hs) (vb h0)))))
    go_wp2_with (first | (go_at_call 53; refine (l00In _ _ _ _).mono ?_; rintro e w' ⟨rfl, rfl⟩))
    all_goals (go_ret; refine ⟨ret_bool ?_, _, rfl⟩; go_tidy; grind [airB])
  cases h1 : inB x.frm 0 15
  · go_enter Try.func75, Try.ntmps75
    go_wp2_with fail
    go_quiet ((first | (go_at_call 99; exact Calls.quiet_of_same (qv (l01Name _ _ hs) (vb h0))) | (go_at_call 53; exact Calls.quiet_of_same (qv (l00In _ _ _ _) (vb h1)))))
    go_wp2_with (first | (go_at_call 53; refine (l00In _ _ _ _).mono ?_; rintro e w' ⟨rfl, rfl⟩))
    all_goals (go_ret; refine ⟨ret_bool ?_, _, rfl⟩; go_tidy; grind [airB])
  cases h2 : inB x.tt 0 15
  · go_enter Try.func75, Try.ntmps75
    go_wp2_with fail
    go_quiet ((first | (go_at_call 99; exact Calls.quiet_of_same (qv (l01Name _ _ hs) (vb h0))) | (go_at_call 53; exact Calls.quiet_of_same (qv (l00In _ _ _ _) (vb h1))) | (go_at_call 53; exact Calls.quiet_of_same (qv (l00In _ _ _ _) (vb h2)))))
    go_wp2_with (first | (go_at_call 53; refine (l00In _ _ _ _).mono ?_; rintro e w' ⟨rfl, rfl⟩))
    all_goals (go_ret; refine ⟨ret_bool ?_, _, rfl⟩; go_tidy; grind [airB])
  cases h3 : decide (x.frm = x.tt)
  · have hq : (x.frm == x.tt) = false := by simpa using h3
    go_enter Try.func75, Try.ntmps75
    go_wp2_with fail
    go_quiet ((first | (go_at_call 99; exact Calls.quiet_of_same (qv (l01Name _ _ hs) (vb h0))) | (go_at_call 53; exact Calls.quiet_of_same (qv (l00In _ _ _ _) (vb h1))) | (go_at_call 53; exact Calls.quiet_of_same (qv (l00In _ _ _ _) (vb h2)))))
    go_wp2_with (first | (go_at_call 53; refine (l00In _ _ _ _).mono ?_; rintro e w' ⟨rfl, rfl⟩))
    all_goals (go_ret; refine ⟨ret_bool ?_, _, rfl⟩; go_tidy; grind [airB])
  · have hq : (x.frm == x.tt) = true := by simpa using h3
    go_enter Try.func75, Try.ntmps75
    go_wp2_with fail
    go_quiet ((first | (go_at_call 99; exact Calls.quiet_of_same (qv (l01Name _ _ hs) (vb h0))) | (go_at_call 53; exact Calls.quiet_of_same (qv (l00In _ _ _ _) (vb h1))) | (go_at_call 53; exact Calls.quiet_of_same (qv (l00In _ _ _ _) (vb h2)))))
    go_wp2_with (first | (go_at_call 53; refine (l00In _ _ _ _).mono ?_; rintro e w' ⟨rfl, rfl⟩))
    all_goals (go_ret; refine ⟨ret_bool ?_, _, rfl⟩; go_tidy; grind [airB])
theorem junctionOk (n : Int) (w : World) :
    Calls Try.prog 90 #[.int .i64 n] w fun e w' => e = .returned (.bool (inB n 0 15)) ∧ w = w' := by
  go_enter Try.func90, Try.ntmps90
  go_wp2_with (go_at_call 70; refine (within _ _ _ _).mono ?_; rintro e w' ⟨rfl, rfl⟩)
  go_ret
  exact ⟨rfl, rfl⟩
set_option maxRecDepth 100000 in
theorem validAirway (x : Airway) (w : World) (hs : x.id.size ≤ maxLen) :
    Calls Try.prog 79 #[.agg #[.string x.id, .int .i64 x.frm, .int .i64 x.tt, .int .i64 x.leng, .int .i64 x.sec, .int .i64 x.fric, .int .i64 x.shock]] w fun e w' => e = .returned (.bool (airB x)) ∧ Ext w w' := by
  go_enter Try.func79, Try.ntmps79
  go_wp2_with (first | (go_at_call 89; refine (isName _ _ hs).mono ?_; rintro e w' ⟨rfl, rfl⟩) | (go_at_call 90; refine (junctionOk _ _).mono ?_; rintro e w' ⟨rfl, rfl⟩) | (go_at_call 70; refine (within _ _ _ _).mono ?_; rintro e w' ⟨rfl, rfl⟩))
  all_goals (go_ret; refine ⟨ret_bool ?_, by go_tidy; go_grown⟩; go_tidy; grind [airB])
def MineAt (w : World) (b o : Nat) (j : Int) (v : Value) : Prop := w.cell? ⟨b, o, none⟩ = some (.int .i64 j) ∧ w.cell? ⟨b, o + 1, none⟩ = some v
theorem MineAt.lt {w : World} {b o : Nat} {j : Int} {v : Value} (h : MineAt w b o j v) : b < w.heap.size := World.block_lt_of_cell? w _ h.1
theorem MineAt.ext {w w' : World} {b o : Nat} {j : Int} {v : Value} (h : MineAt w b o j v) (hE : Ext w w') : MineAt w' b o j v :=
  ⟨((bcell hE).1 _ _ h.lt).trans h.1, ((bcell hE).1 _ _ h.lt).trans h.2⟩
theorem l04Junction (b o : Nat) (j n : Int) (v : Value) (w : World) (hm : MineAt w b o j v) (hj : 1 ≤ j ∧ j ≤ 16) :
    Calls Try.prog 76 #[.pointer (some ⟨b, o, none⟩), .int .i64 n] w fun e w' => e = .returned (.bool (inB n 0 (j - 1))) ∧ w = w' := by
  obtain ⟨c0, c1⟩ := hm
  obtain ⟨hj1, hj2⟩ := hj
  go_enter Try.func76, Try.ntmps76
  go_wp2_with (go_at_call 53; refine (l00In _ _ _ _).mono ?_; rintro e w' ⟨rfl, rfl⟩)
  go_ret
  exact ⟨rfl, rfl⟩
theorem hasJunction (j n : Int) (v : Value) (w : World) (hj : 1 ≤ j ∧ j ≤ 16) :
    Calls Try.prog 50 #[.agg #[.int .i64 j, v], .int .i64 n] w fun e w' => e = .returned (.bool (inB n 0 (j - 1))) ∧ Ext w w' := by
  obtain ⟨hj1, hj2⟩ := hj
  go_enter Try.func50, Try.ntmps50
  go_wp2_with (go_at_call 70; refine (within _ _ _ _).mono ?_; rintro e w' ⟨rfl, rfl⟩)
  go_ret
  exact ⟨rfl, by go_tidy; go_grown⟩
def endsB (j : Int) (x : Airway) : Bool := inB x.frm 0 (j - 1) && inB x.tt 0 (j - 1)
theorem hasEnds (j : Int) (x : Airway) (v : Value) (w : World) (hj : 1 ≤ j ∧ j ≤ 16) :
    Calls Try.prog 80 #[.agg #[.int .i64 j, v], .agg #[.string x.id, .int .i64 x.frm, .int .i64 x.tt, .int .i64 x.leng, .int .i64 x.sec, .int .i64 x.fric, .int .i64 x.shock]] w fun e w' => e = .returned (.bool (endsB j x)) ∧ Ext w w' := by
  go_enter Try.func80, Try.ntmps80
  go_wp2_with fail
  refine (hasJunction j _ v _ hj).mono ?_
  rintro e w1 ⟨rfl, hE⟩
  obtain ⟨hc, hf⟩ := bcell hE
  cases h1 : inB x.frm 0 (j - 1)
  · go_wp2
    go_ret
    exact ⟨ret_bool (by unfold endsB; rw [h1]; rfl), Ext.tr (by go_tidy; go_grown) hE⟩
  · go_wp2_with (go_at_call 50; refine (hasJunction j _ v _ hj).mono ?_; rintro e w2 ⟨rfl, hE2⟩)
    go_ret
    exact ⟨ret_bool (by unfold endsB; rw [h1]; rfl), Ext.tr (Ext.tr (by go_tidy; go_grown) hE) hE2⟩
def mineAirB (j : Int) (x : Airway) : Bool := airB x && endsB j x
def Airway.lt (a b : Airway) : Bool := strLt a.id b.id
def mineB (j : Int) (xs : List Airway) : Bool := inB j 1 16 && (decide (xs.length ≤ 24) && allOk xs (mineAirB j) Airway.lt)
theorem mineB_j {j : Int} {xs : List Airway} (h : mineB j xs = true) : 1 ≤ j ∧ j ≤ 16 := by
  unfold mineB at h; rw [Bool.and_eq_true] at h; have := h.1; unfold inB at this; simp at this; exact this
theorem mineB_len {j : Int} {xs : List Airway} (h : mineB j xs = true) : xs.length ≤ 24 := by
  unfold mineB at h; simp only [Bool.and_eq_true, decide_eq_true_eq] at h; exact h.2.1
theorem mineB_ok {j : Int} {xs : List Airway} (h : mineB j xs = true) (k : Nat) (hk : k < xs.length) : airB xs[k] = true ∧ endsB j xs[k] = true := by
  unfold mineB at h; simp only [Bool.and_eq_true, decide_eq_true_eq] at h
  have := allOk_p h.2.2 k hk; unfold mineAirB at this; simpa using this
theorem ge_of_inB {a n : Int} {r : Bool} (h0 : 0 ≤ a) (h : inB a 0 (n - 1) = r) : decide (n ≤ a) = !r := by
  rw [← h]; unfold inB; by_cases hh : n ≤ a
  · simp [hh]; omega
  · simp [hh]; omega
set_option maxRecDepth 100000 in
set_option maxHeartbeats 1000000 in
theorem l04Ok (j : Int) (ays : List Airway) (bm om lo hi : Nat) (v : Value) (w : World) (hm : MineAt w bm om j v) (hv : Sl lo hi w 7 v ays.length (flat Airway.enc ays)) (hsA : ∀ x ∈ ays, x.id.size ≤ maxLen) (hnA : ays.length ≤ 1048576) :
    Calls Try.prog 36 #[.pointer (some ⟨bm, om, none⟩)] w fun e w' => e = .returned (.bool (mineB j ays)) ∧ Ext w w' := by
  cases hj : inB j 1 16
  · have HQ := hid (show mineB j ays = false by unfold mineB; rw [hj]; rfl)
    obtain ⟨m0, m1⟩ := hm
    go_enter Try.func36, Try.ntmps36
    go_wp2_with (go_at_call 53; refine (cv (l00In _ _ _ _) (vb hj)).mono ?_; rintro e w' ⟨rfl, rfl⟩)
    go_ret
    exact ⟨ret_bool HQ.out.symm, Below.refl _ _⟩
  obtain ⟨hj1, hj2⟩ : 1 ≤ j ∧ j ≤ 16 := by unfold inB at hj; simp at hj; exact hj
  have hm' := hm
  obtain ⟨m0, m1⟩ := hm
  obtain ⟨hhi, _, A, c, rfl, hnc, hcm, hcell⟩ := hv
  have hmA := fun W (hW : Ext w W) => (hm'.ext hW).1
  have hmB := fun W (hW : Ext w W) => (hm'.ext hW).2
  have hmE := fun W (hW : Ext w W) => hm'.ext hW
  have HMA := hid hmA
  have HMB := hid hmB
  have HME := hid hmE
  clear hm' hmA hmB hmE
  go_enter Try.func36, Try.ntmps36
  go_wp2_with (go_at_call 53; refine (cv (l00In _ _ _ _) (vb hj)).mono ?_; rintro e w' ⟨rfl, rfl⟩)
  clear m0 m1
  go_loopw [3] (fun i wr => ∃ (k : Nat), k ≤ ays.length ∧ i = .int .i64 k ∧ Hid (OkTo ays (mineAirB j) Airway.lt k) ∧ Ext w wr) (fun i _ => ays.length - (intOf i).toNat)
  case atStart => exact ⟨0, by omega, rfl, hid OkTo.zero, Below.refl _ _⟩
  case round =>
    obtain ⟨k, hk, rfl, hok, hE⟩ := hrel
    have m1 := HMB.out _ hE
    by_cases hlt : k < ays.length
    · obtain ⟨b, off, rfl, hb1, hb2, hc⟩ := hcell (by omega)
      have hsk : ays[k].id.size ≤ maxLen := hsA _ (List.getElem_mem hlt)
      have hbw : b < w.heap.size := by omega
      have hki : (k : Int) < ays.length := by omega
      have at0 : ∀ d : Later wr, Airway.At d.w b (off + k * 7) ays[k] := fun d => Airway.at_of hc (Ext.tr hE d.h) hbw k hlt
      have y0 : ∀ d : Later wr, d.w.cell? ⟨b, off + k * 7, none⟩ = some (.string ays[k].id) := fun d => (at0 d).1
      have ya : ∀ d : Later wr, d.w.cell? ⟨b, off + k * 7 + 1, none⟩ = some (.int .i64 ays[k].frm) := fun d => (at0 d).2.1
      have yb : ∀ d : Later wr, d.w.cell? ⟨b, off + k * 7 + 2, none⟩ = some (.int .i64 ays[k].tt) := fun d => (at0 d).2.2.1
      have ma : ∀ d : Later wr, d.w.cell? ⟨bm, om, none⟩ = some (.int .i64 j) := fun d => HMA.out _ (Ext.tr hE d.h)
      have mb : ∀ d : Later wr, d.w.cell? ⟨bm, om + 1, none⟩ = some (.slice (some ⟨b, off, none⟩) ays.length c) := fun d => HMB.out _ (Ext.tr hE d.h)
      cases h0 : airB ays[k]
      · have hp : mineAirB j ays[k] = false := by unfold mineAirB; rw [h0]; rfl
        go_wp2
        refine wp_region_later wr (by kernel_rfl) (by kernel_rfl) (Below.refl _ _) ?_
        repeat (go_big_quiet_step ((first | (go_at_call 75; exact qld (l03Ok _ _ ays[k] _ hsk (at0 _)) (vb h0)))))
        refine wpQuiet_nil ?_
        rintro _ ⟨d, rfl⟩
        go_wp2
        go_ret
        exact ⟨ret_bool (by unfold mineB; rw [allOk_noP hlt hp]; simp), Ext.tr hE d.h⟩
      cases h1 : inB ays[k].frm 0 (j - 1)
      · have hp : mineAirB j ays[k] = false := by unfold mineAirB endsB; rw [h0, h1]; rfl
        go_wp2
        refine wp_region_later wr (by kernel_rfl) (by kernel_rfl) (Below.refl _ _) ?_
        repeat (go_big_quiet_step ((first | (go_at_call 75; exact qld (l03Ok _ _ ays[k] _ hsk (at0 _)) (vb h0)) | (go_at_call 76; exact qls (l04Junction bm om j _ _ _ (HME.out _ (Ext.tr hE (Later.h _))) ⟨hj1, hj2⟩) (vb h1)))))
        refine wpQuiet_nil ?_
        rintro _ ⟨d, rfl⟩
        go_wp2
        go_ret
        exact ⟨ret_bool (by unfold mineB; rw [allOk_noP hlt hp]; simp), Ext.tr hE d.h⟩
      cases h2 : inB ays[k].tt 0 (j - 1)
      · have hp : mineAirB j ays[k] = false := by unfold mineAirB endsB; rw [h0, h1, h2]; rfl
        go_wp2
        refine wp_region_later wr (by kernel_rfl) (by kernel_rfl) (Below.refl _ _) ?_
        repeat (go_big_quiet_step ((first | (go_at_call 75; exact qld (l03Ok _ _ ays[k] _ hsk (at0 _)) (vb h0)) | (go_at_call 76; exact qls (l04Junction bm om j _ _ _ (HME.out _ (Ext.tr hE (Later.h _))) ⟨hj1, hj2⟩) (vb h1)) | (go_at_call 76; exact qls (l04Junction bm om j _ _ _ (HME.out _ (Ext.tr hE (Later.h _))) ⟨hj1, hj2⟩) (vb h2)))))
        refine wpQuiet_nil ?_
        rintro _ ⟨d, rfl⟩
        go_wp2
        go_ret
        exact ⟨ret_bool (by unfold mineB; rw [allOk_noP hlt hp]; simp), Ext.tr hE d.h⟩
      have hp : mineAirB j ays[k] = true := by unfold mineAirB endsB; rw [h0, h1, h2]; rfl
      by_cases hz : 0 < k
      · have hz' : (0 : Int) < k := by omega
        have y1 : ∀ d : Later wr, d.w.cell? ⟨b, off + (k - 1) * 7, none⟩ = some (.string (ays[k - 1]'(by omega)).id) := fun d => (Airway.at_of hc (Ext.tr hE d.h) hbw (k - 1) (by omega)).1
        cases hl : Airway.lt (ays[k - 1]'(by omega)) ays[k]
        all_goals have hl' : Op.bytesLess (ays[k - 1]'(by omega)).id.toList ays[k].id.toList = _ := hl
        · go_wp2
          refine wp_region_later wr (by kernel_rfl) (by kernel_rfl) (Below.refl _ _) ?_
          repeat (go_big_quiet_step ((first | (go_at_call 75; exact qld (l03Ok _ _ ays[k] _ hsk (at0 _)) (vb h0)) | (go_at_call 76; exact qls (l04Junction bm om j _ _ _ (HME.out _ (Ext.tr hE (Later.h _))) ⟨hj1, hj2⟩) (vb h1)) | (go_at_call 76; exact qls (l04Junction bm om j _ _ _ (HME.out _ (Ext.tr hE (Later.h _))) ⟨hj1, hj2⟩) (vb h2)))))
          refine wpQuiet_nil ?_
          rintro _ ⟨d, rfl⟩
          go_wp2
          go_ret
          exact ⟨ret_bool (by unfold mineB; rw [allOk_noL hlt hz hl]; simp), Ext.tr hE d.h⟩
        · go_wp2
          refine wp_region_later wr (by kernel_rfl) (by kernel_rfl) (Below.refl _ _) ?_
          repeat (go_big_quiet_step ((first | (go_at_call 75; exact qld (l03Ok _ _ ays[k] _ hsk (at0 _)) (vb h0)) | (go_at_call 76; exact qls (l04Junction bm om j _ _ _ (HME.out _ (Ext.tr hE (Later.h _))) ⟨hj1, hj2⟩) (vb h1)) | (go_at_call 76; exact qls (l04Junction bm om j _ _ _ (HME.out _ (Ext.tr hE (Later.h _))) ⟨hj1, hj2⟩) (vb h2)))))
          refine wpQuiet_nil ?_
          rintro _ ⟨d, rfl⟩
          go_wp2
          go_roundw
          case rel => exact ⟨k + 1, by omega, by go_num, hid (hok.out.succ hlt hp (fun _ => hl)), Ext.tr hE d.h⟩
          case measure => simp [intOf]; omega
      · have hz' : ¬ (0 : Int) < k := by omega
        go_wp2
        refine wp_region_later wr (by kernel_rfl) (by kernel_rfl) (Below.refl _ _) ?_
        repeat (go_big_quiet_step ((first | (go_at_call 75; exact qld (l03Ok _ _ ays[k] _ hsk (at0 _)) (vb h0)) | (go_at_call 76; exact qls (l04Junction bm om j _ _ _ (HME.out _ (Ext.tr hE (Later.h _))) ⟨hj1, hj2⟩) (vb h1)) | (go_at_call 76; exact qls (l04Junction bm om j _ _ _ (HME.out _ (Ext.tr hE (Later.h _))) ⟨hj1, hj2⟩) (vb h2)))))
        refine wpQuiet_nil ?_
        rintro _ ⟨d, rfl⟩
        go_wp2
        go_roundw
        case rel => exact ⟨k + 1, by omega, by go_num, hid (hok.out.succ hlt hp (fun h => absurd h hz)), Ext.tr hE d.h⟩
        case measure => simp [intOf]; omega
    · obtain rfl : k = ays.length := by omega
      go_wp2
      go_ret
      exact ⟨ret_bool (by unfold mineB; rw [hj, hok.out.end_, Bool.and_true, Bool.true_and]; exact decide_eq_decide.2 (by omega)), hE⟩
set_option maxRecDepth 100000 in
set_option maxHeartbeats 1000000 in
theorem validMine (j : Int) (ays : List Airway) (lo hi : Nat) (v : Value) (w : World) (hv : Sl lo hi w 7 v ays.length (flat Airway.enc ays)) (hsA : ∀ x ∈ ays, x.id.size ≤ maxLen) (hnA : ays.length ≤ 1048576) :
    Calls Try.prog 39 #[.agg #[.int .i64 j, v]] w fun e w' => e = .returned (.bool (mineB j ays)) ∧ Ext w w' := by
  obtain ⟨hhi, _, A, c, rfl, hnc, hcm, hcell⟩ := hv
  cases hj : inB j 1 16
  · have HQ := hid (show mineB j ays = false by unfold mineB; rw [hj]; rfl)
    go_enter Try.func39, Try.ntmps39
    go_wp2_with (go_at_call 70; refine (cv (within _ _ _ _) (vb hj)).mono ?_; rintro e w' ⟨rfl, rfl⟩)
    go_ret
    exact ⟨ret_bool HQ.out.symm, by go_tidy; go_grown⟩
  obtain ⟨hj1, hj2⟩ : 1 ≤ j ∧ j ≤ 16 := by unfold inB at hj; simp at hj; exact hj
  by_cases hmx : 24 < ays.length
  · have HQ := hid (show mineB j ays = false by unfold mineB; simp; omega)
    have hmx' : (24 : Int) < ays.length := by omega
    go_enter Try.func39, Try.ntmps39
    go_wp2_with (go_at_call 70; refine (cv (within _ _ _ _) (vb hj)).mono ?_; rintro e w' ⟨rfl, rfl⟩)
    go_ret
    exact ⟨ret_bool HQ.out.symm, by go_tidy; go_grown⟩
  have hmx' : ¬ (24 : Int) < ays.length := by omega
  go_enter Try.func39, Try.ntmps39
  go_wp2_with (go_at_call 70; refine (cv (within _ _ _ _) (vb hj)).mono ?_; rintro e w' ⟨rfl, rfl⟩)
  generalize hG : w.alloc _ = wz
  have hE1 : Ext w wz := by rw [← hG]; exact Ext.new _ _
  have ga : ∀ W, Ext wz W → W.cell? ⟨w.heap.size, 0, none⟩ = some (.int .i64 j) := fun W hW => (hW.cell (p := ⟨w.heap.size, 0, none⟩) (by rw [← hG]; simp)).trans (by rw [← hG]; simp)
  have gb : ∀ W, Ext wz W → W.cell? ⟨w.heap.size, 1, none⟩ = some (.slice A ays.length c) := fun W hW => (hW.cell (p := ⟨w.heap.size, 1, none⟩) (by rw [← hG]; simp)).trans (by rw [← hG]; simp)
  clear hG
  have HGa := hid ga
  have HGb := hid gb
  clear ga gb
  go_loopw [18] (fun i wr => ∃ (k : Nat), k ≤ ays.length ∧ i = .int .i64 k ∧ Hid (OkTo ays (mineAirB j) Airway.lt k) ∧ Ext wz wr) (fun i _ => ays.length - (intOf i).toNat)
  case atStart => exact ⟨0, by omega, rfl, hid OkTo.zero, Below.refl _ _⟩
  case round =>
    obtain ⟨k, hk, rfl, hok, hEz⟩ := hrel
    have hE : Ext w wr := Ext.tr hE1 hEz
    by_cases hlt : k < ays.length
    · obtain ⟨b, off, rfl, hb1, hb2, hc⟩ := hcell (by omega)
      have hsk : ays[k].id.size ≤ maxLen := hsA _ (List.getElem_mem hlt)
      have hbw : b < w.heap.size := by omega
      have hki : (k : Int) < ays.length := by omega
      obtain ⟨c1, c2, c3, c4, c5, c6, c7⟩ := Airway.cells hc k hlt
      obtain ⟨hcc, _⟩ := bcell hE
      cases h0 : airB ays[k]
      · have hp : mineAirB j ays[k] = false := by unfold mineAirB; rw [h0]; rfl
        go_wp2
        generalize hA : wr.alloc _ = B
        have hEB : Ext wz B := by rw [← hA]; exact Ext.tr hEz (Ext.new _ _)
        have hBz : wr.heap.size < B.heap.size := by rw [← hA]; simp
        have x0 : ∀ d : Later B, d.w.cell? ⟨wr.heap.size, 0, none⟩ = some (.string ays[k].id) := fun d => (d.h.cell (p := ⟨wr.heap.size, 0, none⟩) hBz).trans (by rw [← hA]; simp)
        have x1 : ∀ d : Later B, d.w.cell? ⟨wr.heap.size, 1, none⟩ = some (.int .i64 ays[k].frm) := fun d => (d.h.cell (p := ⟨wr.heap.size, 1, none⟩) hBz).trans (by rw [← hA]; simp)
        have x2 : ∀ d : Later B, d.w.cell? ⟨wr.heap.size, 2, none⟩ = some (.int .i64 ays[k].tt) := fun d => (d.h.cell (p := ⟨wr.heap.size, 2, none⟩) hBz).trans (by rw [← hA]; simp)
        have x3 : ∀ d : Later B, d.w.cell? ⟨wr.heap.size, 3, none⟩ = some (.int .i64 ays[k].leng) := fun d => (d.h.cell (p := ⟨wr.heap.size, 3, none⟩) hBz).trans (by rw [← hA]; simp)
        have x4 : ∀ d : Later B, d.w.cell? ⟨wr.heap.size, 4, none⟩ = some (.int .i64 ays[k].sec) := fun d => (d.h.cell (p := ⟨wr.heap.size, 4, none⟩) hBz).trans (by rw [← hA]; simp)
        have x5 : ∀ d : Later B, d.w.cell? ⟨wr.heap.size, 5, none⟩ = some (.int .i64 ays[k].fric) := fun d => (d.h.cell (p := ⟨wr.heap.size, 5, none⟩) hBz).trans (by rw [← hA]; simp)
        have x6 : ∀ d : Later B, d.w.cell? ⟨wr.heap.size, 6, none⟩ = some (.int .i64 ays[k].shock) := fun d => (d.h.cell (p := ⟨wr.heap.size, 6, none⟩) hBz).trans (by rw [← hA]; simp)
        have ga : ∀ d : Later B, d.w.cell? ⟨w.heap.size, 0, none⟩ = some (.int .i64 j) := fun d => HGa.out _ (Ext.tr hEB d.h)
        have gb : ∀ d : Later B, d.w.cell? ⟨w.heap.size, 1, none⟩ = some (.slice (some ⟨b, off, none⟩) ays.length c) := fun d => HGb.out _ (Ext.tr hEB d.h)
        clear hA hcc c1 c2 c3 c4 c5 c6 c7
        refine wp_region_later B (by kernel_rfl) (by kernel_rfl) (Below.refl _ _) ?_
        repeat (go_big_quiet_step ((first | (go_at_call 79; exact ql (validAirway ays[k] _ hsk) (vb h0)))))
        refine wpQuiet_nil ?_
        rintro _ ⟨d, rfl⟩
        go_wp2
        go_ret
        exact ⟨ret_bool (by unfold mineB; rw [allOk_noP hlt hp]; simp), Ext.tr hE1 (Ext.tr hEB d.h)⟩
      cases h1 : endsB j ays[k]
      · have hp : mineAirB j ays[k] = false := by unfold mineAirB; rw [h0, h1]; rfl
        go_wp2
        generalize hA : wr.alloc _ = B
        have hEB : Ext wz B := by rw [← hA]; exact Ext.tr hEz (Ext.new _ _)
        have hBz : wr.heap.size < B.heap.size := by rw [← hA]; simp
        have x0 : ∀ d : Later B, d.w.cell? ⟨wr.heap.size, 0, none⟩ = some (.string ays[k].id) := fun d => (d.h.cell (p := ⟨wr.heap.size, 0, none⟩) hBz).trans (by rw [← hA]; simp)
        have x1 : ∀ d : Later B, d.w.cell? ⟨wr.heap.size, 1, none⟩ = some (.int .i64 ays[k].frm) := fun d => (d.h.cell (p := ⟨wr.heap.size, 1, none⟩) hBz).trans (by rw [← hA]; simp)
        have x2 : ∀ d : Later B, d.w.cell? ⟨wr.heap.size, 2, none⟩ = some (.int .i64 ays[k].tt) := fun d => (d.h.cell (p := ⟨wr.heap.size, 2, none⟩) hBz).trans (by rw [← hA]; simp)
        have x3 : ∀ d : Later B, d.w.cell? ⟨wr.heap.size, 3, none⟩ = some (.int .i64 ays[k].leng) := fun d => (d.h.cell (p := ⟨wr.heap.size, 3, none⟩) hBz).trans (by rw [← hA]; simp)
        have x4 : ∀ d : Later B, d.w.cell? ⟨wr.heap.size, 4, none⟩ = some (.int .i64 ays[k].sec) := fun d => (d.h.cell (p := ⟨wr.heap.size, 4, none⟩) hBz).trans (by rw [← hA]; simp)
        have x5 : ∀ d : Later B, d.w.cell? ⟨wr.heap.size, 5, none⟩ = some (.int .i64 ays[k].fric) := fun d => (d.h.cell (p := ⟨wr.heap.size, 5, none⟩) hBz).trans (by rw [← hA]; simp)
        have x6 : ∀ d : Later B, d.w.cell? ⟨wr.heap.size, 6, none⟩ = some (.int .i64 ays[k].shock) := fun d => (d.h.cell (p := ⟨wr.heap.size, 6, none⟩) hBz).trans (by rw [← hA]; simp)
        have ga : ∀ d : Later B, d.w.cell? ⟨w.heap.size, 0, none⟩ = some (.int .i64 j) := fun d => HGa.out _ (Ext.tr hEB d.h)
        have gb : ∀ d : Later B, d.w.cell? ⟨w.heap.size, 1, none⟩ = some (.slice (some ⟨b, off, none⟩) ays.length c) := fun d => HGb.out _ (Ext.tr hEB d.h)
        clear hA hcc c1 c2 c3 c4 c5 c6 c7
        refine wp_region_later B (by kernel_rfl) (by kernel_rfl) (Below.refl _ _) ?_
        repeat (go_big_quiet_step ((first | (go_at_call 79; exact ql (validAirway ays[k] _ hsk) (vb h0)) | (go_at_call 80; exact ql (hasEnds j ays[k] _ _ ⟨hj1, hj2⟩) (vb h1)))))
        refine wpQuiet_nil ?_
        rintro _ ⟨d, rfl⟩
        go_wp2
        go_ret
        exact ⟨ret_bool (by unfold mineB; rw [allOk_noP hlt hp]; simp), Ext.tr hE1 (Ext.tr hEB d.h)⟩
      have hp : mineAirB j ays[k] = true := by unfold mineAirB; rw [h0, h1]; rfl
      by_cases hz : 0 < k
      · have hz' : (0 : Int) < k := by omega
        cases hl : Airway.lt (ays[k - 1]'(by omega)) ays[k]
        all_goals have hl' := strLt_le (ays[k - 1]'(by omega)).id ays[k].id
        all_goals rw [show strLt (ays[k - 1]'(by omega)).id ays[k].id = _ from hl] at hl'
        · have hl2 : (Op.bytesLess ays[k].id.toList (ays[k - 1]'(by omega)).id.toList || ays[k].id.toList == (ays[k - 1]'(by omega)).id.toList) = true := hl'
          go_wp2
          generalize hA : wr.alloc _ = B
          have hEB : Ext wz B := by rw [← hA]; exact Ext.tr hEz (Ext.new _ _)
          have hBz : wr.heap.size < B.heap.size := by rw [← hA]; simp
          have x0 : ∀ d : Later B, d.w.cell? ⟨wr.heap.size, 0, none⟩ = some (.string ays[k].id) := fun d => (d.h.cell (p := ⟨wr.heap.size, 0, none⟩) hBz).trans (by rw [← hA]; simp)
          have x1 : ∀ d : Later B, d.w.cell? ⟨wr.heap.size, 1, none⟩ = some (.int .i64 ays[k].frm) := fun d => (d.h.cell (p := ⟨wr.heap.size, 1, none⟩) hBz).trans (by rw [← hA]; simp)
          have x2 : ∀ d : Later B, d.w.cell? ⟨wr.heap.size, 2, none⟩ = some (.int .i64 ays[k].tt) := fun d => (d.h.cell (p := ⟨wr.heap.size, 2, none⟩) hBz).trans (by rw [← hA]; simp)
          have x3 : ∀ d : Later B, d.w.cell? ⟨wr.heap.size, 3, none⟩ = some (.int .i64 ays[k].leng) := fun d => (d.h.cell (p := ⟨wr.heap.size, 3, none⟩) hBz).trans (by rw [← hA]; simp)
          have x4 : ∀ d : Later B, d.w.cell? ⟨wr.heap.size, 4, none⟩ = some (.int .i64 ays[k].sec) := fun d => (d.h.cell (p := ⟨wr.heap.size, 4, none⟩) hBz).trans (by rw [← hA]; simp)
          have x5 : ∀ d : Later B, d.w.cell? ⟨wr.heap.size, 5, none⟩ = some (.int .i64 ays[k].fric) := fun d => (d.h.cell (p := ⟨wr.heap.size, 5, none⟩) hBz).trans (by rw [← hA]; simp)
          have x6 : ∀ d : Later B, d.w.cell? ⟨wr.heap.size, 6, none⟩ = some (.int .i64 ays[k].shock) := fun d => (d.h.cell (p := ⟨wr.heap.size, 6, none⟩) hBz).trans (by rw [← hA]; simp)
          have ga : ∀ d : Later B, d.w.cell? ⟨w.heap.size, 0, none⟩ = some (.int .i64 j) := fun d => HGa.out _ (Ext.tr hEB d.h)
          have gb : ∀ d : Later B, d.w.cell? ⟨w.heap.size, 1, none⟩ = some (.slice (some ⟨b, off, none⟩) ays.length c) := fun d => HGb.out _ (Ext.tr hEB d.h)
          clear hA hcc c1 c2 c3 c4 c5 c6 c7
          have y1 : ∀ d : Later B, d.w.cell? ⟨b, off + (k - 1) * 7, none⟩ = some (.string (ays[k - 1]'(by omega)).id) := fun d => (Airway.at_of hc (Ext.tr hE1 (Ext.tr hEB d.h)) hbw (k - 1) (by omega)).1
          refine wp_region_later B (by kernel_rfl) (by kernel_rfl) (Below.refl _ _) ?_
          repeat (go_big_quiet_step ((first | (go_at_call 79; exact ql (validAirway ays[k] _ hsk) (vb h0)) | (go_at_call 80; exact ql (hasEnds j ays[k] _ _ ⟨hj1, hj2⟩) (vb h1)))))
          refine wpQuiet_nil ?_
          rintro _ ⟨d, rfl⟩
          go_wp2
          go_ret
          exact ⟨ret_bool (by unfold mineB; rw [allOk_noL hlt hz hl]; simp), Ext.tr hE1 (Ext.tr hEB d.h)⟩
        · have hl2 : (Op.bytesLess ays[k].id.toList (ays[k - 1]'(by omega)).id.toList || ays[k].id.toList == (ays[k - 1]'(by omega)).id.toList) = false := hl'
          go_wp2
          generalize hA : wr.alloc _ = B
          have hEB : Ext wz B := by rw [← hA]; exact Ext.tr hEz (Ext.new _ _)
          have hBz : wr.heap.size < B.heap.size := by rw [← hA]; simp
          have x0 : ∀ d : Later B, d.w.cell? ⟨wr.heap.size, 0, none⟩ = some (.string ays[k].id) := fun d => (d.h.cell (p := ⟨wr.heap.size, 0, none⟩) hBz).trans (by rw [← hA]; simp)
          have x1 : ∀ d : Later B, d.w.cell? ⟨wr.heap.size, 1, none⟩ = some (.int .i64 ays[k].frm) := fun d => (d.h.cell (p := ⟨wr.heap.size, 1, none⟩) hBz).trans (by rw [← hA]; simp)
          have x2 : ∀ d : Later B, d.w.cell? ⟨wr.heap.size, 2, none⟩ = some (.int .i64 ays[k].tt) := fun d => (d.h.cell (p := ⟨wr.heap.size, 2, none⟩) hBz).trans (by rw [← hA]; simp)
          have x3 : ∀ d : Later B, d.w.cell? ⟨wr.heap.size, 3, none⟩ = some (.int .i64 ays[k].leng) := fun d => (d.h.cell (p := ⟨wr.heap.size, 3, none⟩) hBz).trans (by rw [← hA]; simp)
          have x4 : ∀ d : Later B, d.w.cell? ⟨wr.heap.size, 4, none⟩ = some (.int .i64 ays[k].sec) := fun d => (d.h.cell (p := ⟨wr.heap.size, 4, none⟩) hBz).trans (by rw [← hA]; simp)
          have x5 : ∀ d : Later B, d.w.cell? ⟨wr.heap.size, 5, none⟩ = some (.int .i64 ays[k].fric) := fun d => (d.h.cell (p := ⟨wr.heap.size, 5, none⟩) hBz).trans (by rw [← hA]; simp)
          have x6 : ∀ d : Later B, d.w.cell? ⟨wr.heap.size, 6, none⟩ = some (.int .i64 ays[k].shock) := fun d => (d.h.cell (p := ⟨wr.heap.size, 6, none⟩) hBz).trans (by rw [← hA]; simp)
          have ga : ∀ d : Later B, d.w.cell? ⟨w.heap.size, 0, none⟩ = some (.int .i64 j) := fun d => HGa.out _ (Ext.tr hEB d.h)
          have gb : ∀ d : Later B, d.w.cell? ⟨w.heap.size, 1, none⟩ = some (.slice (some ⟨b, off, none⟩) ays.length c) := fun d => HGb.out _ (Ext.tr hEB d.h)
          clear hA hcc c1 c2 c3 c4 c5 c6 c7
          have y1 : ∀ d : Later B, d.w.cell? ⟨b, off + (k - 1) * 7, none⟩ = some (.string (ays[k - 1]'(by omega)).id) := fun d => (Airway.at_of hc (Ext.tr hE1 (Ext.tr hEB d.h)) hbw (k - 1) (by omega)).1
          refine wp_region_later B (by kernel_rfl) (by kernel_rfl) (Below.refl _ _) ?_
          repeat (go_big_quiet_step ((first | (go_at_call 79; exact ql (validAirway ays[k] _ hsk) (vb h0)) | (go_at_call 80; exact ql (hasEnds j ays[k] _ _ ⟨hj1, hj2⟩) (vb h1)))))
          refine wpQuiet_nil ?_
          rintro _ ⟨d, rfl⟩
          go_wp2
          go_roundw
          case rel => exact ⟨k + 1, by omega, by go_num, hid (hok.out.succ hlt hp (fun _ => hl)), Ext.tr hEB d.h⟩
          case measure => simp [intOf]; omega
      · have hz' : ¬ (0 : Int) < k := by omega
        go_wp2
        generalize hA : wr.alloc _ = B
        have hEB : Ext wz B := by rw [← hA]; exact Ext.tr hEz (Ext.new _ _)
        have hBz : wr.heap.size < B.heap.size := by rw [← hA]; simp
        have x0 : ∀ d : Later B, d.w.cell? ⟨wr.heap.size, 0, none⟩ = some (.string ays[k].id) := fun d => (d.h.cell (p := ⟨wr.heap.size, 0, none⟩) hBz).trans (by rw [← hA]; simp)
        have x1 : ∀ d : Later B, d.w.cell? ⟨wr.heap.size, 1, none⟩ = some (.int .i64 ays[k].frm) := fun d => (d.h.cell (p := ⟨wr.heap.size, 1, none⟩) hBz).trans (by rw [← hA]; simp)
        have x2 : ∀ d : Later B, d.w.cell? ⟨wr.heap.size, 2, none⟩ = some (.int .i64 ays[k].tt) := fun d => (d.h.cell (p := ⟨wr.heap.size, 2, none⟩) hBz).trans (by rw [← hA]; simp)
        have x3 : ∀ d : Later B, d.w.cell? ⟨wr.heap.size, 3, none⟩ = some (.int .i64 ays[k].leng) := fun d => (d.h.cell (p := ⟨wr.heap.size, 3, none⟩) hBz).trans (by rw [← hA]; simp)
        have x4 : ∀ d : Later B, d.w.cell? ⟨wr.heap.size, 4, none⟩ = some (.int .i64 ays[k].sec) := fun d => (d.h.cell (p := ⟨wr.heap.size, 4, none⟩) hBz).trans (by rw [← hA]; simp)
        have x5 : ∀ d : Later B, d.w.cell? ⟨wr.heap.size, 5, none⟩ = some (.int .i64 ays[k].fric) := fun d => (d.h.cell (p := ⟨wr.heap.size, 5, none⟩) hBz).trans (by rw [← hA]; simp)
        have x6 : ∀ d : Later B, d.w.cell? ⟨wr.heap.size, 6, none⟩ = some (.int .i64 ays[k].shock) := fun d => (d.h.cell (p := ⟨wr.heap.size, 6, none⟩) hBz).trans (by rw [← hA]; simp)
        have ga : ∀ d : Later B, d.w.cell? ⟨w.heap.size, 0, none⟩ = some (.int .i64 j) := fun d => HGa.out _ (Ext.tr hEB d.h)
        have gb : ∀ d : Later B, d.w.cell? ⟨w.heap.size, 1, none⟩ = some (.slice (some ⟨b, off, none⟩) ays.length c) := fun d => HGb.out _ (Ext.tr hEB d.h)
        clear hA hcc c1 c2 c3 c4 c5 c6 c7
        refine wp_region_later B (by kernel_rfl) (by kernel_rfl) (Below.refl _ _) ?_
        repeat (go_big_quiet_step ((first | (go_at_call 79; exact ql (validAirway ays[k] _ hsk) (vb h0)) | (go_at_call 80; exact ql (hasEnds j ays[k] _ _ ⟨hj1, hj2⟩) (vb h1)))))
        refine wpQuiet_nil ?_
        rintro _ ⟨d, rfl⟩
        go_wp2
        go_roundw
        case rel => exact ⟨k + 1, by omega, by go_num, hid (hok.out.succ hlt hp (fun h => absurd h hz)), Ext.tr hEB d.h⟩
        case measure => simp [intOf]; omega
    · obtain rfl : k = ays.length := by omega
      go_wp2
      go_ret
      exact ⟨ret_bool (by unfold mineB; rw [hj, hok.out.end_]; symm; simp; omega), hE⟩

end Go.Proofs.Ytlilmopcikogpaa
