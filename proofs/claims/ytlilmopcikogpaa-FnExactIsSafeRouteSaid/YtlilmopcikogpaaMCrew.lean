/- Contracts of the functions that tell whether a list of Crew is valid for a mine, in both packages. -/
import Derived.Test.YtlilmopcikogpaaXCrew
import Derived.Test.YtlilmopcikogpaaMine1
import Derived.Test.YtlilmopcikogpaaCmp
namespace Go.Proofs.Ytlilmopcikogpaa
set_option linter.unusedVariables false
open Go.RowKit
def crewP (x : Crew) : Bool := nameB x.id && inB x.junction 0 15 && inB x.speed 10 300
theorem crewP_bd {x : Crew} (h : crewP x = true) : 0 ≤ x.junction := by
  unfold crewP inB at h; simp only [Bool.and_eq_true, decide_eq_true_eq] at h; omega

theorem crewPS (b o : Nat) (x : Crew) (w : World) (hs : x.id.size ≤ maxLen) (hx : Crew.At w b o x) :
    Calls Try.prog 88 #[.pointer (some ⟨b, o, none⟩)] w fun e w' => e = .returned (.bool (crewP x)) ∧ w = w' := by
  obtain ⟨c0, c1, c2⟩ := hx
  go_enter Try.func88, Try.ntmps88
  go_wp2_with (first | (go_at_call 99; refine (l01Name _ _ hs).mono ?_; rintro e w' ⟨rfl, rfl⟩) | (go_at_call 53; refine (l00In _ _ _ _).mono ?_; rintro e w' ⟨rfl, rfl⟩))
  all_goals (go_ret; refine ⟨ret_bool ?_, rfl⟩; go_tidy; grind [crewP])
theorem crewPI (x : Crew) (w : World) (hs : x.id.size ≤ maxLen) :
    Calls Try.prog 49 #[.agg #[.string x.id, .int .i64 x.junction, .int .i64 x.speed]] w fun e w' => e = .returned (.bool (crewP x)) ∧ Ext w w' := by
  go_enter Try.func49, Try.ntmps49
  go_wp2_with (first | (go_at_call 89; refine (isName _ _ hs).mono ?_; rintro e w' ⟨rfl, rfl⟩) | (go_at_call 70; refine (within _ _ _ _).mono ?_; rintro e w' ⟨rfl, rfl⟩) | (go_at_call 90; refine (junctionOk _ _).mono ?_; rintro e w' ⟨rfl, rfl⟩))
  all_goals (go_ret; refine ⟨ret_bool ?_, by go_tidy; go_grown⟩; go_tidy; grind [crewP])
theorem indexValidA (A : Option Addr) (n c : Nat) (k : Int) (w : World) (hn : n ≤ 1048576) :
    Calls Try.prog 41 #[.slice A n c, .int .i64 k] w fun e w' => e = .returned (.bool (inB k 0 ((n : Int) - 1))) ∧ w = w' := by
  go_enter Try.func41, Try.ntmps41
  go_wp2_with (go_at_call 70; refine (within _ _ _ _).mono ?_; rintro e w' ⟨rfl, rfl⟩)
  go_ret
  exact ⟨rfl, rfl⟩
def crewsP (n : Int) (x : Crew) : Bool := crewP x && inB x.junction 0 (n - 1)
def Crew.lt (a b : Crew) : Bool := strLt a.id b.id
def crewsB (n : Int) (xs : List Crew) : Bool := decide (xs.length ≤ 8) && allOk xs (crewsP n) Crew.lt
set_option maxRecDepth 100000 in
set_option maxHeartbeats 1000000 in
theorem crewsSpec (j : Int) (ays : List Airway) (xs : List Crew) (bm om lo hi lo2 hi2 : Nat) (v v2 : Value) (w : World) (hM : mineB j ays = true) (hm : MineAt w bm om j v) (hv : Sl lo hi w 7 v ays.length (flat Airway.enc ays)) (hsA : ∀ x ∈ ays, x.id.size ≤ maxLen) (hnA : ays.length ≤ 1048576) (hv2 : Sl lo2 hi2 w 3 v2 xs.length (flat Crew.enc xs)) (hs : ∀ x ∈ xs, x.id.size ≤ maxLen) (hn : xs.length ≤ 1048576) :
    Calls Try.prog 48 #[.pointer (some ⟨bm, om, none⟩), v2] w fun e w' => e = .returned (.bool (crewsB j xs)) ∧ Ext w w' := by
  have hv0 := hv
  obtain ⟨_, _, A0, c0, rfl, _, _, _⟩ := hv0
  have hmA := fun W (hW : Ext w W) => (hm.ext hW).1
  have hmB := fun W (hW : Ext w W) => (hm.ext hW).2
  obtain ⟨hhi, _, A, c, rfl, hnc, hcm, hcell⟩ := hv2
  go_enter Try.func48, Try.ntmps48
  go_wp2
  have hE0 : Ext w w := Below.refl _ _
  have hj1 := mineB_j hM
  obtain ⟨hj1, hj2⟩ := hj1
  go_loopw [5] (fun i wr => ∃ (k : Nat), k ≤ xs.length ∧ i = .int .i64 k ∧ Hid (OkTo xs (crewsP j) Crew.lt k) ∧ Ext w wr) (fun i _ => xs.length - (intOf i).toNat)
  case atStart => exact ⟨0, by omega, rfl, hid OkTo.zero, hE0⟩
  case round =>
    obtain ⟨k, hk, rfl, hok, hE⟩ := hrel
    by_cases hlt : k < xs.length
    · obtain ⟨b, off, rfl, hb1, hb2, hc⟩ := hcell (by omega)
      have hsk : xs[k].id.size ≤ maxLen := hs _ (List.getElem_mem hlt)
      have hbw : b < w.heap.size := by omega
      have hki : (k : Int) < xs.length := by omega
      have at0 : ∀ d : Later wr, Crew.At d.w b (off + k * 3) xs[k] := fun d => Crew.at_of hc (Ext.tr hE d.h) hbw k hlt
      have y0 : ∀ d : Later wr, d.w.cell? ⟨b, off + k * 3, none⟩ = some (.string xs[k].id) := fun d => (at0 d).1
      have ya : ∀ d : Later wr, d.w.cell? ⟨b, off + k * 3 + 1, none⟩ = some (.int .i64 xs[k].junction) := fun d => (at0 d).2.1
      have ma : ∀ d : Later wr, d.w.cell? ⟨bm, om, none⟩ = some (.int .i64 j) := fun d => hmA _ (Ext.tr hE d.h)
      have mb : ∀ d : Later wr, d.w.cell? ⟨bm, om + 1, none⟩ = some (.slice A0 ays.length c0) := fun d => hmB _ (Ext.tr hE d.h)
      clear hmA hmB
      cases h0 : crewP xs[k]
      · have hp : crewsP j xs[k] = false := by unfold crewsP; rw [h0]; rfl
        go_wp2
        refine wp_region_later wr (by kernel_rfl) (by kernel_rfl) (Below.refl _ _) ?_
        repeat (go_big_quiet_step ((first | (go_at_call 88; exact qls (crewPS _ _ xs[k] _ hsk (at0 _)) (vb h0)))))
        refine wpQuiet_nil ?_
        rintro _ ⟨d, rfl⟩
        go_wp2
        go_ret
        exact ⟨ret_bool (by unfold crewsB; rw [allOk_noP hlt hp]; simp), Ext.tr hE d.h⟩
      have hbd := crewP_bd h0
      cases h1 : inB xs[k].junction 0 (j - 1)
      all_goals have hq := ge_of_inB hbd h1
      · have hp : crewsP j xs[k] = false := by unfold crewsP; rw [h0, h1]; rfl
        go_wp2
        refine wp_region_later wr (by kernel_rfl) (by kernel_rfl) (Below.refl _ _) ?_
        repeat (go_big_quiet_step ((first | (go_at_call 88; exact qls (crewPS _ _ xs[k] _ hsk (at0 _)) (vb h0)))))
        refine wpQuiet_nil ?_
        rintro _ ⟨d, rfl⟩
        go_wp2
        go_ret
        exact ⟨ret_bool (by unfold crewsB; rw [allOk_noP hlt hp]; simp), Ext.tr hE d.h⟩
      have hp : crewsP j xs[k] = true := by unfold crewsP; rw [h0, h1]; rfl
      by_cases hz : 0 < k
      · have hz' : (0 : Int) < k := by omega
        have y1 : ∀ d : Later wr, d.w.cell? ⟨b, off + (k - 1) * 3, none⟩ = some (.string (xs[k - 1]'(by omega)).id) := fun d => (Crew.at_of hc (Ext.tr hE d.h) hbw (k - 1) (by omega)).1
        cases hl : Crew.lt (xs[k - 1]'(by omega)) xs[k]
        all_goals have hl' : Op.bytesLess (xs[k - 1]'(by omega)).id.toList xs[k].id.toList = _ := hl
        · go_wp2
          refine wp_region_later wr (by kernel_rfl) (by kernel_rfl) (Below.refl _ _) ?_
          repeat (go_big_quiet_step ((first | (go_at_call 88; exact qls (crewPS _ _ xs[k] _ hsk (at0 _)) (vb h0)))))
          refine wpQuiet_nil ?_
          rintro _ ⟨d, rfl⟩
          go_wp2
          go_ret
          exact ⟨ret_bool (by unfold crewsB; rw [allOk_noL hlt hz hl]; simp), Ext.tr hE d.h⟩
        · go_wp2
          refine wp_region_later wr (by kernel_rfl) (by kernel_rfl) (Below.refl _ _) ?_
          repeat (go_big_quiet_step ((first | (go_at_call 88; exact qls (crewPS _ _ xs[k] _ hsk (at0 _)) (vb h0)))))
          refine wpQuiet_nil ?_
          rintro _ ⟨d, rfl⟩
          go_wp2
          go_roundw
          case rel => exact ⟨k + 1, by omega, by go_num, hid (hok.out.succ hlt hp (fun _ => hl)), Ext.tr hE d.h⟩
          case measure => simp [intOf]; omega
      · have hz' : ¬ (0 : Int) < k := by omega
        go_wp2
        refine wp_region_later wr (by kernel_rfl) (by kernel_rfl) (Below.refl _ _) ?_
        repeat (go_big_quiet_step ((first | (go_at_call 88; exact qls (crewPS _ _ xs[k] _ hsk (at0 _)) (vb h0)))))
        refine wpQuiet_nil ?_
        rintro _ ⟨d, rfl⟩
        go_wp2
        go_roundw
        case rel => exact ⟨k + 1, by omega, by go_num, hid (hok.out.succ hlt hp (fun h => absurd h hz)), Ext.tr hE d.h⟩
        case measure => simp [intOf]; omega
    · obtain rfl : k = xs.length := by omega
      go_wp2
      go_ret
      exact ⟨ret_bool (by unfold crewsB; rw [hok.out.end_, Bool.and_true]; exact decide_eq_decide.2 (by omega)), hE⟩
theorem crewsSpecW (j : Int) (ays : List Airway) (xs : List Crew) (lo hi lo2 hi2 : Nat) (v v2 : Value) (w : World) (hv : Sl lo hi w 7 v ays.length (flat Airway.enc ays)) (hsA : ∀ x ∈ ays, x.id.size ≤ maxLen) (hnA : ays.length ≤ 1048576) (hv2 : Sl lo2 hi2 w 3 v2 xs.length (flat Crew.enc xs)) (hs : ∀ x ∈ xs, x.id.size ≤ maxLen) (hn : xs.length ≤ 1048576) :
    Calls Try.prog 20 #[.agg #[.int .i64 j, v], v2] w fun e w' => e = .returned (.bool (mineB j ays && crewsB j xs)) ∧ Ext w w' := by
  go_enter Try.func20, Try.ntmps20
  go_wp2_with fail
  generalize hG : w.alloc _ = wz
  have hE1 : Ext w wz := by rw [← hG]; exact Ext.new _ _
  have hm : MineAt wz w.heap.size 0 j v := by subst hG; exact ⟨by go_simp, by go_simp⟩
  clear hG
  cases hM : mineB j ays
  · refine (cv (l04Ok j ays w.heap.size 0 _ _ _ _ hm (hv.ext hE1) hsA hnA) (vb hM)).mono ?_
    rintro e w1 ⟨rfl, hE⟩
    go_wp2
    go_ret
    exact ⟨ret_bool (by simp [hM]), Ext.tr hE1 hE⟩
  · refine (cv (l04Ok j ays w.heap.size 0 _ _ _ _ hm (hv.ext hE1) hsA hnA) (vb hM)).mono ?_
    rintro e w1 ⟨rfl, hE⟩
    have hE2 := Ext.tr hE1 hE
    go_wp2_with (go_at_call 48; refine (crewsSpec j ays xs w.heap.size 0 _ _ _ _ _ _ _ hM (hm.ext hE) (hv.ext hE2) hsA hnA (hv2.ext hE2) hs hn).mono ?_; rintro e w2 ⟨rfl, hE3⟩)
    go_ret
    exact ⟨ret_bool (by simp [hM]), Ext.tr hE2 hE3⟩
set_option maxRecDepth 100000 in
set_option maxHeartbeats 1000000 in
theorem crewsImpl (j : Int) (ays : List Airway) (xs : List Crew) (lo hi lo2 hi2 : Nat) (v v2 : Value) (w : World) (hv : Sl lo hi w 7 v ays.length (flat Airway.enc ays)) (hsA : ∀ x ∈ ays, x.id.size ≤ maxLen) (hnA : ays.length ≤ 1048576) (hv2 : Sl lo2 hi2 w 3 v2 xs.length (flat Crew.enc xs)) (hs : ∀ x ∈ xs, x.id.size ≤ maxLen) (hn : xs.length ≤ 1048576) :
    Calls Try.prog 22 #[.agg #[.int .i64 j, v], v2] w fun e w' => e = .returned (.bool (mineB j ays && crewsB j xs)) ∧ Ext w w' := by
  cases hM : mineB j ays
  · go_enter Try.func22, Try.ntmps22
    go_wp2_with (go_at_call 39; refine (cv (validMine j ays _ _ v _ (hv.ext (by go_tidy; go_grown)) hsA hnA) (vb hM)).mono ?_; rintro e w1 ⟨rfl, hE0⟩)
    go_ret
    exact ⟨rfl, Ext.tr (by go_tidy; go_grown) hE0⟩
  obtain ⟨hj1, hj2⟩ := mineB_j hM
  have hv0 := hv
  obtain ⟨_, _, A0, c0, rfl, _, _, _⟩ := hv0
  obtain ⟨hhi, _, A, c, rfl, hnc, hcm, hcell⟩ := hv2
  by_cases hmx : 8 < xs.length
  · have HQ := hid (show crewsB j xs = false by unfold crewsB; simp; omega)
    have hmx' : (8 : Int) < xs.length := by omega
    go_enter Try.func22, Try.ntmps22
    go_wp2_with (go_at_call 39; refine (cv (validMine j ays _ _ _ _ (hv.ext (by go_tidy; go_grown)) hsA hnA) (vb hM)).mono ?_; rintro e w1 ⟨rfl, hE0⟩)
    go_ret
    exact ⟨ret_bool (by rw [HQ.out]; rfl), Ext.tr (by go_tidy; go_grown) hE0⟩
  have hmx' : ¬ (8 : Int) < xs.length := by omega
  go_enter Try.func22, Try.ntmps22
  go_wp2_with (go_at_call 39; refine (cv (validMine j ays _ _ _ _ (hv.ext (by go_tidy; go_grown)) hsA hnA) (vb hM)).mono ?_; (generalize hG : w.alloc _ = wz); rintro e w1 ⟨rfl, hE0⟩)
  have hE1 : Ext w wz := by rw [← hG]; exact Ext.new _ _
  have ga : ∀ W, Ext wz W → W.cell? ⟨w.heap.size, 0, none⟩ = some (.int .i64 j) := fun W hW => (hW.cell (p := ⟨w.heap.size, 0, none⟩) (by rw [← hG]; simp)).trans (by rw [← hG]; simp)
  have gb : ∀ W, Ext wz W → W.cell? ⟨w.heap.size, 1, none⟩ = some (.slice A0 ays.length c0) := fun W hW => (hW.cell (p := ⟨w.heap.size, 1, none⟩) (by rw [← hG]; simp)).trans (by rw [← hG]; simp)
  clear hG
  have HGa := hid ga
  have HGb := hid gb
  clear ga gb
  go_loopw [17] (fun i wr => ∃ (k : Nat), k ≤ xs.length ∧ i = .int .i64 k ∧ Hid (OkTo xs (crewsP j) Crew.lt k) ∧ Ext wz wr) (fun i _ => xs.length - (intOf i).toNat)
  case atStart => exact ⟨0, by omega, rfl, hid OkTo.zero, hE0⟩
  case round =>
    obtain ⟨k, hk, rfl, hok, hEz⟩ := hrel
    have hE : Ext w wr := Ext.tr hE1 hEz
    by_cases hlt : k < xs.length
    · obtain ⟨b, off, rfl, hb1, hb2, hc⟩ := hcell (by omega)
      have hsk : xs[k].id.size ≤ maxLen := hs _ (List.getElem_mem hlt)
      have hbw : b < w.heap.size := by omega
      have hki : (k : Int) < xs.length := by omega
      obtain ⟨c1, c2, c3⟩ := Crew.cells hc k hlt
      obtain ⟨hcc, _⟩ := bcell hE
      cases h0 : crewP xs[k]
      · have hp : crewsP j xs[k] = false := by unfold crewsP; rw [h0]; rfl
        go_wp2
        generalize hA : wr.alloc _ = B
        have hEB : Ext wz B := by rw [← hA]; exact Ext.tr hEz (Ext.new _ _)
        have hBz : wr.heap.size < B.heap.size := by rw [← hA]; simp
        have x0 : ∀ d : Later B, d.w.cell? ⟨wr.heap.size, 0, none⟩ = some (.string xs[k].id) := fun d => (d.h.cell (p := ⟨wr.heap.size, 0, none⟩) hBz).trans (by rw [← hA]; simp)
        have x1 : ∀ d : Later B, d.w.cell? ⟨wr.heap.size, 1, none⟩ = some (.int .i64 xs[k].junction) := fun d => (d.h.cell (p := ⟨wr.heap.size, 1, none⟩) hBz).trans (by rw [← hA]; simp)
        have x2 : ∀ d : Later B, d.w.cell? ⟨wr.heap.size, 2, none⟩ = some (.int .i64 xs[k].speed) := fun d => (d.h.cell (p := ⟨wr.heap.size, 2, none⟩) hBz).trans (by rw [← hA]; simp)
        have ga : ∀ d : Later B, d.w.cell? ⟨w.heap.size, 0, none⟩ = some (.int .i64 j) := fun d => HGa.out _ (Ext.tr hEB d.h)
        have gb : ∀ d : Later B, d.w.cell? ⟨w.heap.size, 1, none⟩ = some (.slice A0 ays.length c0) := fun d => HGb.out _ (Ext.tr hEB d.h)
        clear hA hcc c1 c2 c3
        refine wp_region_later B (by kernel_rfl) (by kernel_rfl) (Below.refl _ _) ?_
        repeat (go_big_quiet_step ((first | (go_at_call 49; exact ql (crewPI xs[k] _ hsk) (vb h0)))))
        refine wpQuiet_nil ?_
        rintro _ ⟨d, rfl⟩
        go_wp2
        go_ret
        exact ⟨ret_bool (by unfold crewsB; rw [allOk_noP hlt hp]; simp), Ext.tr hE1 (Ext.tr hEB d.h)⟩
      cases h1 : inB xs[k].junction 0 (j - 1)
      · have hp : crewsP j xs[k] = false := by unfold crewsP; rw [h0, h1]; rfl
        go_wp2
        generalize hA : wr.alloc _ = B
        have hEB : Ext wz B := by rw [← hA]; exact Ext.tr hEz (Ext.new _ _)
        have hBz : wr.heap.size < B.heap.size := by rw [← hA]; simp
        have x0 : ∀ d : Later B, d.w.cell? ⟨wr.heap.size, 0, none⟩ = some (.string xs[k].id) := fun d => (d.h.cell (p := ⟨wr.heap.size, 0, none⟩) hBz).trans (by rw [← hA]; simp)
        have x1 : ∀ d : Later B, d.w.cell? ⟨wr.heap.size, 1, none⟩ = some (.int .i64 xs[k].junction) := fun d => (d.h.cell (p := ⟨wr.heap.size, 1, none⟩) hBz).trans (by rw [← hA]; simp)
        have x2 : ∀ d : Later B, d.w.cell? ⟨wr.heap.size, 2, none⟩ = some (.int .i64 xs[k].speed) := fun d => (d.h.cell (p := ⟨wr.heap.size, 2, none⟩) hBz).trans (by rw [← hA]; simp)
        have ga : ∀ d : Later B, d.w.cell? ⟨w.heap.size, 0, none⟩ = some (.int .i64 j) := fun d => HGa.out _ (Ext.tr hEB d.h)
        have gb : ∀ d : Later B, d.w.cell? ⟨w.heap.size, 1, none⟩ = some (.slice A0 ays.length c0) := fun d => HGb.out _ (Ext.tr hEB d.h)
        clear hA hcc c1 c2 c3
        refine wp_region_later B (by kernel_rfl) (by kernel_rfl) (Below.refl _ _) ?_
        repeat (go_big_quiet_step ((first | (go_at_call 49; exact ql (crewPI xs[k] _ hsk) (vb h0)) | (go_at_call 50; exact ql (hasJunction j _ _ _ ⟨hj1, hj2⟩) (vb h1)))))
        refine wpQuiet_nil ?_
        rintro _ ⟨d, rfl⟩
        go_wp2
        go_ret
        exact ⟨ret_bool (by unfold crewsB; rw [allOk_noP hlt hp]; simp), Ext.tr hE1 (Ext.tr hEB d.h)⟩
      have hp : crewsP j xs[k] = true := by unfold crewsP; rw [h0, h1]; rfl
      by_cases hz : 0 < k
      · have hz' : (0 : Int) < k := by omega
        cases hl : Crew.lt (xs[k - 1]'(by omega)) xs[k]
        all_goals have hl' := strLt_le (xs[k - 1]'(by omega)).id xs[k].id
        all_goals rw [show strLt (xs[k - 1]'(by omega)).id xs[k].id = _ from hl] at hl'
        · have hl2 : (Op.bytesLess xs[k].id.toList (xs[k - 1]'(by omega)).id.toList || xs[k].id.toList == (xs[k - 1]'(by omega)).id.toList) = true := hl'
          go_wp2
          generalize hA : wr.alloc _ = B
          have hEB : Ext wz B := by rw [← hA]; exact Ext.tr hEz (Ext.new _ _)
          have hBz : wr.heap.size < B.heap.size := by rw [← hA]; simp
          have x0 : ∀ d : Later B, d.w.cell? ⟨wr.heap.size, 0, none⟩ = some (.string xs[k].id) := fun d => (d.h.cell (p := ⟨wr.heap.size, 0, none⟩) hBz).trans (by rw [← hA]; simp)
          have x1 : ∀ d : Later B, d.w.cell? ⟨wr.heap.size, 1, none⟩ = some (.int .i64 xs[k].junction) := fun d => (d.h.cell (p := ⟨wr.heap.size, 1, none⟩) hBz).trans (by rw [← hA]; simp)
          have x2 : ∀ d : Later B, d.w.cell? ⟨wr.heap.size, 2, none⟩ = some (.int .i64 xs[k].speed) := fun d => (d.h.cell (p := ⟨wr.heap.size, 2, none⟩) hBz).trans (by rw [← hA]; simp)
          have ga : ∀ d : Later B, d.w.cell? ⟨w.heap.size, 0, none⟩ = some (.int .i64 j) := fun d => HGa.out _ (Ext.tr hEB d.h)
          have gb : ∀ d : Later B, d.w.cell? ⟨w.heap.size, 1, none⟩ = some (.slice A0 ays.length c0) := fun d => HGb.out _ (Ext.tr hEB d.h)
          clear hA hcc c1 c2 c3
          have y1 : ∀ d : Later B, d.w.cell? ⟨b, off + (k - 1) * 3, none⟩ = some (.string (xs[k - 1]'(by omega)).id) := fun d => (Crew.at_of hc (Ext.tr hE1 (Ext.tr hEB d.h)) hbw (k - 1) (by omega)).1
          refine wp_region_later B (by kernel_rfl) (by kernel_rfl) (Below.refl _ _) ?_
          repeat (go_big_quiet_step ((first | (go_at_call 49; exact ql (crewPI xs[k] _ hsk) (vb h0)) | (go_at_call 50; exact ql (hasJunction j _ _ _ ⟨hj1, hj2⟩) (vb h1)))))
          refine wpQuiet_nil ?_
          rintro _ ⟨d, rfl⟩
          go_wp2
          go_ret
          exact ⟨ret_bool (by unfold crewsB; rw [allOk_noL hlt hz hl]; simp), Ext.tr hE1 (Ext.tr hEB d.h)⟩
        · have hl2 : (Op.bytesLess xs[k].id.toList (xs[k - 1]'(by omega)).id.toList || xs[k].id.toList == (xs[k - 1]'(by omega)).id.toList) = false := hl'
          go_wp2
          generalize hA : wr.alloc _ = B
          have hEB : Ext wz B := by rw [← hA]; exact Ext.tr hEz (Ext.new _ _)
          have hBz : wr.heap.size < B.heap.size := by rw [← hA]; simp
          have x0 : ∀ d : Later B, d.w.cell? ⟨wr.heap.size, 0, none⟩ = some (.string xs[k].id) := fun d => (d.h.cell (p := ⟨wr.heap.size, 0, none⟩) hBz).trans (by rw [← hA]; simp)
          have x1 : ∀ d : Later B, d.w.cell? ⟨wr.heap.size, 1, none⟩ = some (.int .i64 xs[k].junction) := fun d => (d.h.cell (p := ⟨wr.heap.size, 1, none⟩) hBz).trans (by rw [← hA]; simp)
          have x2 : ∀ d : Later B, d.w.cell? ⟨wr.heap.size, 2, none⟩ = some (.int .i64 xs[k].speed) := fun d => (d.h.cell (p := ⟨wr.heap.size, 2, none⟩) hBz).trans (by rw [← hA]; simp)
          have ga : ∀ d : Later B, d.w.cell? ⟨w.heap.size, 0, none⟩ = some (.int .i64 j) := fun d => HGa.out _ (Ext.tr hEB d.h)
          have gb : ∀ d : Later B, d.w.cell? ⟨w.heap.size, 1, none⟩ = some (.slice A0 ays.length c0) := fun d => HGb.out _ (Ext.tr hEB d.h)
          clear hA hcc c1 c2 c3
          have y1 : ∀ d : Later B, d.w.cell? ⟨b, off + (k - 1) * 3, none⟩ = some (.string (xs[k - 1]'(by omega)).id) := fun d => (Crew.at_of hc (Ext.tr hE1 (Ext.tr hEB d.h)) hbw (k - 1) (by omega)).1
          refine wp_region_later B (by kernel_rfl) (by kernel_rfl) (Below.refl _ _) ?_
          repeat (go_big_quiet_step ((first | (go_at_call 49; exact ql (crewPI xs[k] _ hsk) (vb h0)) | (go_at_call 50; exact ql (hasJunction j _ _ _ ⟨hj1, hj2⟩) (vb h1)))))
          refine wpQuiet_nil ?_
          rintro _ ⟨d, rfl⟩
          go_wp2
          go_roundw
          case rel => exact ⟨k + 1, by omega, by go_num, hid (hok.out.succ hlt hp (fun _ => hl)), Ext.tr hEB d.h⟩
          case measure => simp [intOf]; omega
      · have hz' : ¬ (0 : Int) < k := by omega
        go_wp2
        generalize hA : wr.alloc _ = B
        have hEB : Ext wz B := by rw [← hA]; exact Ext.tr hEz (Ext.new _ _)
        have hBz : wr.heap.size < B.heap.size := by rw [← hA]; simp
        have x0 : ∀ d : Later B, d.w.cell? ⟨wr.heap.size, 0, none⟩ = some (.string xs[k].id) := fun d => (d.h.cell (p := ⟨wr.heap.size, 0, none⟩) hBz).trans (by rw [← hA]; simp)
        have x1 : ∀ d : Later B, d.w.cell? ⟨wr.heap.size, 1, none⟩ = some (.int .i64 xs[k].junction) := fun d => (d.h.cell (p := ⟨wr.heap.size, 1, none⟩) hBz).trans (by rw [← hA]; simp)
        have x2 : ∀ d : Later B, d.w.cell? ⟨wr.heap.size, 2, none⟩ = some (.int .i64 xs[k].speed) := fun d => (d.h.cell (p := ⟨wr.heap.size, 2, none⟩) hBz).trans (by rw [← hA]; simp)
        have ga : ∀ d : Later B, d.w.cell? ⟨w.heap.size, 0, none⟩ = some (.int .i64 j) := fun d => HGa.out _ (Ext.tr hEB d.h)
        have gb : ∀ d : Later B, d.w.cell? ⟨w.heap.size, 1, none⟩ = some (.slice A0 ays.length c0) := fun d => HGb.out _ (Ext.tr hEB d.h)
        clear hA hcc c1 c2 c3
        refine wp_region_later B (by kernel_rfl) (by kernel_rfl) (Below.refl _ _) ?_
        repeat (go_big_quiet_step ((first | (go_at_call 49; exact ql (crewPI xs[k] _ hsk) (vb h0)) | (go_at_call 50; exact ql (hasJunction j _ _ _ ⟨hj1, hj2⟩) (vb h1)))))
        refine wpQuiet_nil ?_
        rintro _ ⟨d, rfl⟩
        go_wp2
        go_roundw
        case rel => exact ⟨k + 1, by omega, by go_num, hid (hok.out.succ hlt hp (fun h => absurd h hz)), Ext.tr hEB d.h⟩
        case measure => simp [intOf]; omega
    · obtain rfl : k = xs.length := by omega
      go_wp2
      go_ret
      exact ⟨ret_bool (by unfold crewsB; rw [hok.out.end_]; simp; omega), hE⟩
end Go.Proofs.Ytlilmopcikogpaa
