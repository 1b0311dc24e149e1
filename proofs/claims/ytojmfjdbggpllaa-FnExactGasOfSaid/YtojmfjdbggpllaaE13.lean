/- Contracts of GasOf in both packages. -/
import Derived.Test.YtojmfjdbggpllaaMSource
namespace Go.Proofs.Ytojmfjdbggpllaa
set_option linter.unusedVariables false
open Go.RowKit
def gasTo (xs : List Source) (a : Int) : Nat → Int
  | 0 => 0
  | k + 1 => gasTo xs a k + (if h : k < xs.length then (if xs[k].airway = a then xs[k].rate else 0) else 0)
theorem gasTo_yes {xs : List Source} {a : Int} {k : Nat} (h : k < xs.length) (e : xs[k].airway = a) : gasTo xs a (k + 1) = gasTo xs a k + xs[k].rate := by
  rw [gasTo, dif_pos h, if_pos e]
theorem gasTo_no {xs : List Source} {a : Int} {k : Nat} (h : k < xs.length) (e : ¬ xs[k].airway = a) : gasTo xs a (k + 1) = gasTo xs a k := by
  rw [gasTo, dif_pos h, if_neg e]; omega
theorem gasTo_bd {xs : List Source} {a : Int} (hr : ∀ k (h : k < xs.length), 0 ≤ xs[k].rate ∧ xs[k].rate ≤ 10000000) (k : Nat) (hk : k ≤ xs.length) : 0 ≤ gasTo xs a k ∧ gasTo xs a k ≤ 10000000 * k := by
  induction k with
  | zero => simp [gasTo]
  | succ k ih =>
    have := ih (by omega)
    have h2 := hr k (by omega)
    by_cases e : xs[k].airway = a
    · rw [gasTo_yes (by omega) e]; omega
    · rw [gasTo_no (by omega) e]; omega
theorem sources_rate {n : Int} {xs : List Source} (h : sourcesB n xs = true) : xs.length ≤ 8 ∧ ∀ k (h : k < xs.length), 0 ≤ xs[k].rate ∧ xs[k].rate ≤ 10000000 := by
  unfold sourcesB at h; simp only [Bool.and_eq_true, decide_eq_true_eq] at h
  refine ⟨h.1, fun k hk => ?_⟩
  have := allOk_p h.2 k hk
  unfold sourcesP sourceP inB at this; simp only [Bool.and_eq_true, decide_eq_true_eq] at this; omega
theorem l13Gas (xs : List Source) (a : Int) (lo hi : Nat) (v : Value) (w : World) (hv : Sl lo hi w 3 v xs.length (flat Source.enc xs)) (hn : xs.length ≤ 8) (hr : ∀ k (h : k < xs.length), 0 ≤ xs[k].rate ∧ xs[k].rate ≤ 10000000) :
    Calls Try.prog 80 #[v, .int .i64 a] w fun e w' => e = .returned (.int .i64 (gasTo xs a xs.length)) ∧ Ext w w' := by
  obtain ⟨hhi, _, A, c, rfl, hnc, hcm, hcell⟩ := hv
  go_enter Try.func80, Try.ntmps80
  go_wp2
  go_loop [5, 6] (fun s i => ∃ k : Nat, k ≤ xs.length ∧ i = .int .i64 k ∧ s = .int .i64 (gasTo xs a k)) (fun _ i => xs.length - (intOf i).toNat)
  case atStart => exact ⟨0, by omega, rfl, rfl⟩
  case round =>
    obtain ⟨k, hk, rfl, rfl⟩ := hrel
    by_cases hlt : k < xs.length
    · obtain ⟨b, off, rfl, hb1, hb2, hc⟩ := hcell (by omega)
      obtain ⟨c0, c1, c2⟩ := Source.cells hc k hlt
      clear hc
      obtain ⟨g0, g1⟩ := gasTo_bd (a := a) hr k hk
      obtain ⟨r0, r1⟩ := hr k hlt
      by_cases he : xs[k].airway = a
      · have HS := hid (gasTo_yes hlt he)
        have he' : (xs[k].airway == a) = true := by simp [he]
        have HE := hid he
        clear he
        go_wp2
        go_round
        case rel => exact ⟨k + 1, by omega, by go_num, by rw [HS.out]⟩
        case measure => simp [intOf]; omega
      · have HS := hid (gasTo_no hlt he)
        have he' : (xs[k].airway == a) = false := by simp [he]
        go_wp2
        go_round
        case rel => exact ⟨k + 1, by omega, by go_num, by rw [HS.out]⟩
        case measure => simp [intOf]; omega
    · obtain rfl : k = xs.length := by omega
      go_wp2
      go_ret
      exact ⟨rfl, Below.refl _ _⟩
theorem implGas (xs : List Source) (a : Int) (lo hi : Nat) (v : Value) (w : World) (hv : Sl lo hi w 3 v xs.length (flat Source.enc xs)) (hn : xs.length ≤ 8) (hr : ∀ k (h : k < xs.length), 0 ≤ xs[k].rate ∧ xs[k].rate ≤ 10000000) :
    Calls Try.prog 81 #[v, .int .i64 a] w fun e w' => e = .returned (.int .i64 (gasTo xs a xs.length)) ∧ Ext w w' := by
  obtain ⟨hhi, _, A, c, rfl, hnc, hcm, hcell⟩ := hv
  go_enter Try.func81, Try.ntmps81
  go_wp2
  go_loopw [5, 10] (fun s i wr => ∃ k : Nat, k ≤ xs.length ∧ i = .int .i64 k ∧ s = .int .i64 (gasTo xs a k) ∧ Ext w wr) (fun _ i _ => xs.length - (intOf i).toNat)
  case atStart => exact ⟨0, by omega, rfl, rfl, Below.refl _ _⟩
  case round =>
    obtain ⟨k, hk, rfl, rfl, hE⟩ := hrel
    by_cases hlt : k < xs.length
    · obtain ⟨b, off, rfl, hb1, hb2, hc⟩ := hcell (by omega)
      obtain ⟨c0, c1, c2⟩ := Source.cells hc k hlt
      clear hc
      have hcc := (bcell hE).1
      have hbw : b < w.heap.size := by omega
      obtain ⟨g0, g1⟩ := gasTo_bd (a := a) hr k hk
      obtain ⟨r0, r1⟩ := hr k hlt
      by_cases he : xs[k].airway = a
      · have HS := hid (gasTo_yes hlt he)
        have he' : (xs[k].airway == a) = true := by simp [he]
        have HE := hid he
        clear he
        go_wp2
        go_roundw
        case rel => exact ⟨k + 1, by omega, by go_num, by rw [HS.out], Ext.tr hE (Ext.new _ _)⟩
        case measure => simp [intOf]; omega
      · have HS := hid (gasTo_no hlt he)
        have he' : (xs[k].airway == a) = false := by simp [he]
        go_wp2
        go_roundw
        case rel => exact ⟨k + 1, by omega, by go_num, by rw [HS.out], Ext.tr hE (Ext.new _ _)⟩
        case measure => simp [intOf]; omega
    · obtain rfl : k = xs.length := by omega
      go_wp2
      go_ret
      exact ⟨rfl, hE⟩
def gasR (j : Int) (ays : List Airway) (xs : List Source) (a : Int) : Int × Int :=
  if mineB j ays && sourcesB (ays.length : Int) xs then (if inB a 0 ((ays.length : Int) - 1) then (gasTo xs a xs.length, 0) else (0, 2)) else (0, 1)
theorem gasR_no {j : Int} {ays : List Airway} {xs : List Source} (a : Int) (h : (mineB j ays && sourcesB (ays.length : Int) xs) = false) : gasR j ays xs a = (0, 1) := by unfold gasR; rw [h]; rfl
theorem gasR_range {j : Int} {ays : List Airway} {xs : List Source} {a : Int} (h : (mineB j ays && sourcesB (ays.length : Int) xs) = true) (h2 : inB a 0 ((ays.length : Int) - 1) = false) : gasR j ays xs a = (0, 2) := by unfold gasR; rw [h, h2]; rfl
theorem gasR_ok {j : Int} {ays : List Airway} {xs : List Source} {a : Int} (h : (mineB j ays && sourcesB (ays.length : Int) xs) = true) (h2 : inB a 0 ((ays.length : Int) - 1) = true) : gasR j ays xs a = (gasTo xs a xs.length, 0) := by unfold gasR; rw [h, h2]; rfl
set_option maxRecDepth 100000 in
theorem specGasOf (j : Int) (ays : List Airway) (xs : List Source) (a : Int) (lo hi lo2 hi2 : Nat) (v v2 : Value) (w : World) (hv : Sl lo hi w 7 v ays.length (flat Airway.enc ays)) (hsA : ∀ x ∈ ays, x.id.size ≤ maxLen) (hnA : ays.length ≤ 1048576) (hv2 : Sl lo2 hi2 w 3 v2 xs.length (flat Source.enc xs)) (hs : ∀ x ∈ xs, x.id.size ≤ maxLen) (hn : xs.length ≤ 1048576) :
    Calls Try.prog 35 #[.agg #[.int .i64 j, v], v2, .int .i64 a] w fun e w' => e = .returned (.tuple #[.int .i64 (gasR j ays xs a).1, .int .i64 (gasR j ays xs a).2]) ∧ Ext w w' := by
  have hv0 := hv
  obtain ⟨_, _, A0, c0, rfl, _, _, _⟩ := hv0
  go_enter Try.func35, Try.ntmps35
  go_wp2_with fail
  generalize hG : w.alloc _ = wz
  have hE1 : Ext w wz := by rw [← hG]; exact Ext.new _ _
  have hm : MineAt wz w.heap.size 0 j (.slice A0 ays.length c0) := by subst hG; exact ⟨by go_simp, by go_simp⟩
  clear hG
  cases hM : mineB j ays
  · have HQ := hid (gasR_no (j := j) (ays := ays) (xs := xs) a (by rw [hM]; rfl))
    refine (cv (l04Ok j ays w.heap.size 0 _ _ _ _ hm (hv.ext hE1) hsA hnA) (vb hM)).mono ?_
    rintro e w1 ⟨rfl, hE⟩
    go_wp2
    go_ret2
    exact ⟨by rw [HQ.out]; rfl, Ext.tr hE1 hE⟩
  refine (cv (l04Ok j ays w.heap.size 0 _ _ _ _ hm (hv.ext hE1) hsA hnA) (vb hM)).mono ?_
  rintro e w1 ⟨rfl, hE⟩
  have hE2 := Ext.tr hE1 hE
  have hm1 := hm.ext hE
  clear hm
  cases hS : sourcesB (ays.length : Int) xs
  · have HQ := hid (gasR_no (j := j) (ays := ays) (xs := xs) a (by rw [hM, hS]; rfl))
    go_wp2_with (go_at_call 65; refine (cv (sourcesSpec j ays xs w.heap.size 0 _ _ _ _ _ _ _ hM hm1 (hv.ext hE2) hsA hnA (hv2.ext hE2) hs hn) (vb hS)).mono ?_; rintro e w2 ⟨rfl, hE3⟩)
    go_ret2
    exact ⟨by rw [HQ.out]; rfl, Ext.tr hE2 hE3⟩
  have hMS : (mineB j ays && sourcesB (ays.length : Int) xs) = true := by rw [hM, hS]; rfl
  obtain ⟨hl8, hr⟩ := sources_rate hS
  have HR := hid hr
  clear hr
  cases hI : inB a 0 ((ays.length : Int) - 1)
  · have HQ := hid (gasR_range hMS hI)
    go_wp2_with (first | (go_at_call 65; refine (cv (sourcesSpec j ays xs w.heap.size 0 _ _ _ _ _ _ _ hM hm1 (hv.ext hE2) hsA hnA (hv2.ext hE2) hs hn) (vb hS)).mono ?_; rintro e w2 ⟨rfl, hE3⟩; obtain ⟨m0, m1⟩ := hm1.ext hE3) | (go_at_call 79; refine (cv (l00In _ _ _ _) (vb hI)).mono ?_; rintro e w' ⟨rfl, rfl⟩))
    go_ret2
    exact ⟨by rw [HQ.out]; rfl, Ext.tr hE2 hE3⟩
  · have HQ := hid (gasR_ok hMS hI)
    go_wp2_with (first | (go_at_call 65; refine (cv (sourcesSpec j ays xs w.heap.size 0 _ _ _ _ _ _ _ hM hm1 (hv.ext hE2) hsA hnA (hv2.ext hE2) hs hn) (vb hS)).mono ?_; rintro e w2 ⟨rfl, hE3⟩; obtain ⟨m0, m1⟩ := hm1.ext hE3) | (go_at_call 79; refine (cv (l00In _ _ _ _) (vb hI)).mono ?_; rintro e w' ⟨rfl, rfl⟩) | (go_at_call 80; refine (l13Gas xs a _ _ _ _ (hv2.ext (Ext.tr hE2 hE3)) hl8 HR.out).mono ?_; rintro e w3 ⟨rfl, hE4⟩))
    go_ret2
    exact ⟨by rw [HQ.out]; rfl, Ext.tr (Ext.tr hE2 hE3) hE4⟩
set_option maxRecDepth 100000 in
theorem implGasOf (j : Int) (ays : List Airway) (xs : List Source) (a : Int) (lo hi lo2 hi2 : Nat) (v v2 : Value) (w : World) (hv : Sl lo hi w 7 v ays.length (flat Airway.enc ays)) (hsA : ∀ x ∈ ays, x.id.size ≤ maxLen) (hnA : ays.length ≤ 1048576) (hv2 : Sl lo2 hi2 w 3 v2 xs.length (flat Source.enc xs)) (hs : ∀ x ∈ xs, x.id.size ≤ maxLen) (hn : xs.length ≤ 1048576) :
    Calls Try.prog 36 #[.agg #[.int .i64 j, v], v2, .int .i64 a] w fun e w' => e = .returned (.tuple #[.int .i64 (gasR j ays xs a).1, .int .i64 (gasR j ays xs a).2]) ∧ Ext w w' := by
  have hv0 := hv
  obtain ⟨_, _, A0, c0, rfl, _, _, _⟩ := hv0
  go_enter Try.func36, Try.ntmps36
  go_wp2_with fail
  generalize hG : w.alloc _ = wz
  have hE1 : Ext w wz := by rw [← hG]; exact Ext.new _ _
  have hm : MineAt wz w.heap.size 0 j (.slice A0 ays.length c0) := by subst hG; exact ⟨by go_simp, by go_simp⟩
  clear hG
  cases hMS : (mineB j ays && sourcesB (ays.length : Int) xs)
  · have HQ := hid (gasR_no a hMS)
    refine (cv (sourcesImpl j ays xs _ _ _ _ _ _ _ (hv.ext hE1) hsA hnA (hv2.ext hE1) hs hn) (vb hMS)).mono ?_
    rintro e w1 ⟨rfl, hE⟩
    go_wp2
    go_ret2
    exact ⟨by rw [HQ.out]; rfl, Ext.tr hE1 hE⟩
  refine (cv (sourcesImpl j ays xs _ _ _ _ _ _ _ (hv.ext hE1) hsA hnA (hv2.ext hE1) hs hn) (vb hMS)).mono ?_
  rintro e w1 ⟨rfl, hE⟩
  have hE2 := Ext.tr hE1 hE
  obtain ⟨m0, m1⟩ := hm.ext hE
  clear hm
  obtain ⟨hl8, hr⟩ := sources_rate (by rw [Bool.and_eq_true] at hMS; exact hMS.2)
  have HR := hid hr
  clear hr
  cases hI : inB a 0 ((ays.length : Int) - 1)
  · have HQ := hid (gasR_range hMS hI)
    go_wp2_with (go_at_call 61; refine (cv (indexValidA _ _ _ _ _ hnA) (vb hI)).mono ?_; rintro e w' ⟨rfl, rfl⟩)
    go_ret2
    exact ⟨by rw [HQ.out]; rfl, hE2⟩
  · have HQ := hid (gasR_ok hMS hI)
    go_wp2_with (first | (go_at_call 61; refine (cv (indexValidA _ _ _ _ _ hnA) (vb hI)).mono ?_; rintro e w' ⟨rfl, rfl⟩) | (go_at_call 81; refine (implGas xs a _ _ _ _ (hv2.ext hE2) hl8 HR.out).mono ?_; rintro e w3 ⟨rfl, hE4⟩))
    go_ret2
    exact ⟨by rw [HQ.out]; rfl, Ext.tr hE2 hE4⟩
end Go.Proofs.Ytojmfjdbggpllaa
