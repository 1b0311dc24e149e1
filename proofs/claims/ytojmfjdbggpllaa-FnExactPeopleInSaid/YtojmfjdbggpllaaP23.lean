/- Contracts of PeopleIn in both packages. -/
import Derived.Test.YtojmfjdbggpllaaE23
import Derived.Test.YtojmfjdbggpllaaRise
namespace Go.Proofs.Ytojmfjdbggpllaa
set_option linter.unusedVariables false
open Go.RowKit
def peopleAt (xs : List Job) (i : Int) : Int := ((xs[i.toNat]?).map Job.people).getD 0
theorem peopleAt_nat (xs : List Job) (i : Nat) (h : i < xs.length) : peopleAt xs i = xs[i].people := by
  unfold peopleAt; rw [Int.toNat_natCast, List.getElem?_eq_getElem h]; rfl
def pplTo (xs : List Job) (some : List Int) : Nat → Int
  | 0 => 0
  | k + 1 => pplTo xs some k + (if h : k < some.length then peopleAt xs some[k] else 0)
theorem pplTo_succ {xs : List Job} {some : List Int} {k i : Nat} (h : k < some.length) (hi : i < xs.length) (e : some[k] = (i : Int)) : pplTo xs some (k + 1) = pplTo xs some k + xs[i].people := by
  rw [pplTo, dif_pos h, e, peopleAt_nat _ _ hi]
theorem pplTo_bd {n : Nat} {xs : List Job} {some : List Int} (hj : JobsIn n xs) (hs : ∀ k (h : k < some.length), 0 ≤ some[k] ∧ some[k] ≤ (xs.length : Int) - 1) (k : Nat) (hk : k ≤ some.length) : 0 ≤ pplTo xs some k ∧ pplTo xs some k ≤ 40 * k := by
  induction k with
  | zero => simp [pplTo]
  | succ k ih =>
    have := ih (by omega)
    obtain ⟨h0, h1⟩ := hs k (by omega)
    obtain ⟨i, hi⟩ := Int.eq_ofNat_of_zero_le h0
    have h2 := hj.2 i (by omega)
    rw [pplTo_succ (by omega) (i := i) (by omega) hi]; omega
def pplR (j : Int) (ays : List Airway) (xs : List Job) (some : List Int) : Int × Int :=
  if mineB j ays && jobsB (ays.length : Int) xs then (if risesB some 0 ((xs.length : Int) - 1) then (pplTo xs some some.length, 0) else (0, 7)) else (0, 1)
theorem pplR_no {j : Int} {ays : List Airway} {xs : List Job} (some : List Int) (h : (mineB j ays && jobsB (ays.length : Int) xs) = false) : pplR j ays xs some = (0, 1) := by unfold pplR; rw [h]; rfl
theorem pplR_order {j : Int} {ays : List Airway} {xs : List Job} {some : List Int} (h : (mineB j ays && jobsB (ays.length : Int) xs) = true) (h2 : risesB some 0 ((xs.length : Int) - 1) = false) : pplR j ays xs some = (0, 7) := by unfold pplR; rw [h, h2]; rfl
theorem pplR_ok {j : Int} {ays : List Airway} {xs : List Job} {some : List Int} (h : (mineB j ays && jobsB (ays.length : Int) xs) = true) (h2 : risesB some 0 ((xs.length : Int) - 1) = true) : pplR j ays xs some = (pplTo xs some some.length, 0) := by unfold pplR; rw [h, h2]; rfl
theorem someOk (xs : List Job) (some : List Int) (A : Option Addr) (c lo hi : Nat) (v : Value) (w : World) (hx : xs.length ≤ 1048576) (hv : Sl lo hi w 1 v some.length (flat encI some)) (hn : some.length ≤ 1048576) :
    Calls Try.prog 83 #[.slice A xs.length c, v] w fun e w' => e = .returned (.bool (risesB some 0 ((xs.length : Int) - 1))) ∧ Ext w w' := by
  rw [rises_eq]
  cases h : incB some
  · go_enter Try.func83, Try.ntmps83
    go_wp2_with (go_at_call 111; refine (cv (increasing some _ _ _ _ hv hn) (vb h)).mono ?_; rintro e w1 ⟨rfl, hE⟩)
    go_ret
    exact ⟨rfl, hE⟩
  · go_enter Try.func83, Try.ntmps83
    go_wp2_with (first | (go_at_call 111; refine (cv (increasing some _ _ _ _ hv hn) (vb h)).mono ?_; rintro e w1 ⟨rfl, hE⟩) | (go_at_call 112; refine (allWithin some _ _ _ _ _ _ (hv.ext hE) hn).mono ?_; rintro e w2 ⟨rfl, hE2⟩))
    go_ret
    exact ⟨ret_bool (by simp), Ext.tr hE hE2⟩
def picked (xs : List Job) (some : List Int) : Nat → List Job
  | 0 => []
  | k + 1 => picked xs some k ++ (if h : k < some.length then ((xs[(some[k]).toNat]?).map fun x => [x]).getD [] else [])
theorem picked_succ {xs : List Job} {some : List Int} {k i : Nat} (h : k < some.length) (hi : i < xs.length) (e : some[k] = (i : Int)) : picked xs some (k + 1) = picked xs some k ++ [xs[i]] := by
  rw [picked, dif_pos h, e, Int.toNat_natCast, List.getElem?_eq_getElem hi]; rfl
theorem picked_len {xs : List Job} {some : List Int} (hs : ∀ k (h : k < some.length), 0 ≤ some[k] ∧ some[k] ≤ (xs.length : Int) - 1) (k : Nat) (hk : k ≤ some.length) : (picked xs some k).length = k := by
  induction k with
  | zero => rfl
  | succ k ih =>
    obtain ⟨h0, h1⟩ := hs k (by omega)
    obtain ⟨i, hi⟩ := Int.eq_ofNat_of_zero_le h0
    rw [picked_succ (by omega) (i := i) (by omega) hi, List.length_append, ih (by omega)]; rfl
theorem picked_at {xs : List Job} {some : List Int} (hs : ∀ k (h : k < some.length), 0 ≤ some[k] ∧ some[k] ≤ (xs.length : Int) - 1) (n : Nat) (hn : n ≤ some.length) (k : Nat) (hk : k < (picked xs some n).length) : ∃ i : Nat, ∃ hi : i < xs.length, ∃ hk' : k < some.length, some[k] = (i : Int) ∧ (picked xs some n)[k] = xs[i] := by
  induction n with
  | zero => simp [picked] at hk
  | succ n ih =>
    obtain ⟨h0, h1⟩ := hs n (by omega)
    obtain ⟨i, hi⟩ := Int.eq_ofNat_of_zero_le h0
    have hii : i < xs.length := by omega
    have e := picked_succ (xs := xs) (by omega : n < some.length) hii hi
    have hl := picked_len hs n (by omega)
    have hl2 := picked_len hs (n + 1) (by omega)
    by_cases hkn : k < n
    · obtain ⟨i', hi', hk', e1, e2⟩ := ih (by omega) (by omega)
      refine ⟨i', hi', hk', e1, ?_⟩
      rw [List.getElem_of_eq e, List.getElem_append_left (by omega), e2]
    · obtain rfl : k = n := by omega
      refine ⟨i, hii, by omega, hi, ?_⟩
      rw [List.getElem_of_eq e, List.getElem_append_right (by omega)]
      simp
theorem jobsOf (xs : List Job) (some : List Int) (lo hi lo2 hi2 : Nat) (v v2 : Value) (w : World) (hv : Sl lo hi w 4 v xs.length (flat Job.enc xs)) (hn : xs.length ≤ 1048576) (hv2 : Sl lo2 hi2 w 1 v2 some.length (flat encI some)) (hn2 : some.length ≤ 1048576) (hs : ∀ k (h : k < some.length), 0 ≤ some[k] ∧ some[k] ≤ (xs.length : Int) - 1) :
    Calls Try.prog 84 #[v, v2] w fun e w' => (∃ v', e = .returned v' ∧ Own w.heap.size w'.heap.size w' 106 4 v' some.length (flat Job.enc (picked xs some some.length))) ∧ Ext w w' := by
  obtain ⟨hhi, _, A, c, rfl, hnc, hcm, hcell⟩ := hv
  obtain ⟨hhi2, _, A2, c2, rfl, hnc2, hcm2, hcell2⟩ := hv2
  go_enter Try.func84, Try.ntmps84
  go_wp2
  go_loopw [5, 10] (fun u i wr => ∃ (k : Nat), k ≤ some.length ∧ i = .int .i64 k ∧ wr.ownsRow w.heap.size 106 4 u k (flat Job.enc (picked xs some k)) ∧ Ext w wr) (fun _ i _ => some.length - (intOf i).toNat)
  case atStart => exact ⟨0, by omega, rfl, World.ownsRow_nil _ _ _ _, Below.refl _ _⟩
  case round =>
    obtain ⟨k, hk, rfl, hown, hE⟩ := hrel
    have hz3 := hE.size
    by_cases hlt : k < some.length
    · obtain ⟨h0, h1⟩ := hs k hlt
      obtain ⟨i, hi⟩ := Int.eq_ofNat_of_zero_le h0
      have hii : i < xs.length := by omega
      have hii' : (i : Int) < xs.length := by omega
      obtain ⟨b, off, rfl, hb1, hb2, hc⟩ := hcell (by omega)
      obtain ⟨b3, o3, rfl, hb31, hb32, hc3⟩ := hcell2 (by omega)
      have hbw : b < w.heap.size := by omega
      have hb3w : b3 < w.heap.size := by omega
      have d0 := cellsI hc3 k hlt
      rw [hi] at d0
      obtain ⟨e0, e1, e2, e3⟩ := Job.cells hc i hii
      have hcc := (bcell hE).1
      have HP := hid (picked_succ hlt hii hi)
      clear hc hc3 hi h0 h1
      go_wp2_with (at_builtin; refine wp_append1 wr rfl (.tmp 14) (.tmp 19) _ rfl w.heap.size 106 4 40 _ Try.underlying48 infoJob rfl (by omega) (by omega) _ _ _ hown rfl [.string xs[i].id, .int .i64 xs[i].airway, .int .i64 xs[i].people, .int .i64 xs[i].power] rfl (by simp [Value.oneCell']) _ rfl rfl (by omega) hz3 ?_; intro v' w' ho' hb')
      go_roundw
      case rel => exact ⟨k + 1, by omega, by go_num, by rw [HP.out, flat_snoc]; exact ho', hE.trans hb'⟩
      case measure => simp [intOf]; omega
    · obtain rfl : k = some.length := by omega
      go_wp2
      go_ret
      exact ⟨⟨_, rfl, Own.of hown (by omega)⟩, hE⟩
set_option maxRecDepth 100000 in
set_option maxHeartbeats 1000000 in
theorem specPeopleIn (j : Int) (ays : List Airway) (xs : List Job) (some : List Int) (lo hi lo2 hi2 lo3 hi3 : Nat) (v v2 v3 : Value) (w : World) (hv : Sl lo hi w 7 v ays.length (flat Airway.enc ays)) (hsA : ∀ x ∈ ays, x.id.size ≤ maxLen) (hnA : ays.length ≤ 1048576) (hv2 : Sl lo2 hi2 w 4 v2 xs.length (flat Job.enc xs)) (hs : ∀ x ∈ xs, x.id.size ≤ maxLen) (hn : xs.length ≤ 1048576) (hv3 : Sl lo3 hi3 w 1 v3 some.length (flat encI some)) (hn3 : some.length ≤ 1048576) :
    Calls Try.prog 37 #[.agg #[.int .i64 j, v], v2, v3] w fun e w' => e = .returned (.tuple #[.int .i64 (pplR j ays xs some).1, .int .i64 (pplR j ays xs some).2]) ∧ Ext w w' := by
  have hv0 := hv
  obtain ⟨_, _, A0, c0, rfl, _, _, _⟩ := hv0
  go_enter Try.func37, Try.ntmps37
  go_wp2_with fail
  generalize hG : w.alloc _ = wz
  have hE1 : Ext w wz := by rw [← hG]; exact Ext.new _ _
  have hm : MineAt wz w.heap.size 0 j (.slice A0 ays.length c0) := by subst hG; exact ⟨by go_simp, by go_simp⟩
  clear hG
  cases hM : mineB j ays
  · have HQ := hid (pplR_no (j := j) (ays := ays) (xs := xs) some (by rw [hM]; rfl))
    refine (cv (l04Ok j ays w.heap.size 0 _ _ _ _ hm (hv.ext hE1) hsA hnA) (vb hM)).mono ?_
    rintro e w1 ⟨rfl, hE⟩
    go_wp2
    go_ret2
    exact ⟨by rw [HQ.out]; rfl, Ext.tr hE1 hE⟩
  refine (cv (l04Ok j ays w.heap.size 0 _ _ _ _ hm (hv.ext hE1) hsA hnA) (vb hM)).mono ?_
  rintro e w1 ⟨rfl, hE⟩
  have hE2 := Ext.tr hE1 hE
  have hm1 := hm.ext hE
  clear hm
  cases hS : jobsB (ays.length : Int) xs
  · have HQ := hid (pplR_no (j := j) (ays := ays) (xs := xs) some (by rw [hM, hS]; rfl))
    go_wp2_with (go_at_call 70; refine (cv (jobsSpec j ays xs w.heap.size 0 _ _ _ _ _ _ _ hM hm1 (hv.ext hE2) hsA hnA (hv2.ext hE2) hs hn) (vb hS)).mono ?_; rintro e w2 ⟨rfl, hE3⟩)
    go_ret2
    exact ⟨by rw [HQ.out]; rfl, Ext.tr hE2 hE3⟩
  have hMS : (mineB j ays && jobsB (ays.length : Int) xs) = true := by rw [hM, hS]; rfl
  have hji := jobs_in hS
  have hv20 := hv2
  obtain ⟨hhi2, _, A2, c2, rfl, hnc2, hcm2, hcell2⟩ := hv20
  cases hI : risesB some 0 ((xs.length : Int) - 1)
  · have HQ := hid (pplR_order hMS hI)
    go_wp2_with (first | (go_at_call 70; refine (cv (jobsSpec j ays xs w.heap.size 0 _ _ _ _ _ _ _ hM hm1 (hv.ext hE2) hsA hnA (hv2.ext hE2) hs hn) (vb hS)).mono ?_; rintro e w2 ⟨rfl, hE3⟩; have hE4 := Ext.tr hE2 hE3) | (go_at_call 82; refine (cv (l00Rises some _ _ _ _ _ _ (hv3.ext hE4) hn3) (vb hI)).mono ?_; rintro e w3 ⟨rfl, hE5⟩))
    go_ret2
    exact ⟨by rw [HQ.out]; rfl, Ext.tr hE4 hE5⟩
  have HQ := hid (pplR_ok hMS hI)
  have hss : ∀ k (h : k < some.length), 0 ≤ some[k] ∧ some[k] ≤ (xs.length : Int) - 1 := fun k h => rises_in hI k h
  have HSS := hid hss
  clear hss
  have hv30 := hv3
  obtain ⟨hhi3, _, A3, c3, rfl, hnc3, hcm3, hcell3⟩ := hv30
  go_wp2_with (first | (go_at_call 70; refine (cv (jobsSpec j ays xs w.heap.size 0 _ _ _ _ _ _ _ hM hm1 (hv.ext hE2) hsA hnA (hv2.ext hE2) hs hn) (vb hS)).mono ?_; rintro e w2 ⟨rfl, hE3⟩; have hE4 := Ext.tr hE2 hE3) | (go_at_call 82; refine (cv (l00Rises some _ _ _ _ _ _ (hv3.ext hE4) hn3) (vb hI)).mono ?_; rintro e w3 ⟨rfl, hE5⟩))
  have hE6 := Ext.tr hE4 hE5
  go_loop [8, 9] (fun s i => ∃ k : Nat, k ≤ some.length ∧ i = .int .i64 k ∧ s = .int .i64 (pplTo xs some k)) (fun _ i => some.length - (intOf i).toNat)
  case atStart => exact ⟨0, by omega, rfl, rfl⟩
  case round =>
    obtain ⟨k, hk, rfl, rfl⟩ := hrel
    by_cases hlt : k < some.length
    · obtain ⟨h0, h1⟩ := HSS.out k hlt
      obtain ⟨i, hi⟩ := Int.eq_ofNat_of_zero_le h0
      have hii : i < xs.length := by omega
      have hii' : (i : Int) < xs.length := by omega
      obtain ⟨b, off, rfl, hb1, hb2, hc⟩ := hcell2 (by omega)
      obtain ⟨b3, o3, rfl, hb31, hb32, hc3⟩ := hcell3 (by omega)
      have hbw : b < w.heap.size := by omega
      have hb3w : b3 < w.heap.size := by omega
      have hcc := (bcell hE6).1
      have d0 := cellsI hc3 k hlt
      rw [hi] at d0
      obtain ⟨e0, e1, e2, e3⟩ := Job.cells hc i hii
      obtain ⟨g0, g1⟩ := pplTo_bd hji HSS.out k hk
      obtain ⟨_, ⟨p0, p1⟩, _⟩ := hji.2 i hii
      have HP := hid (pplTo_succ (xs := xs) hlt hii hi)
      clear hc hc3 hi h0 h1
      go_wp2
      go_round
      case rel => exact ⟨k + 1, by omega, by go_num, by rw [HP.out]⟩
      case measure => simp [intOf]; omega
    · obtain rfl : k = some.length := by omega
      go_wp2
      go_ret2
      exact ⟨by rw [HQ.out]; rfl, hE6⟩
set_option maxRecDepth 100000 in
set_option maxHeartbeats 1000000 in
theorem implPeopleIn (j : Int) (ays : List Airway) (xs : List Job) (some : List Int) (lo hi lo2 hi2 lo3 hi3 : Nat) (v v2 v3 : Value) (w : World) (hv : Sl lo hi w 7 v ays.length (flat Airway.enc ays)) (hsA : ∀ x ∈ ays, x.id.size ≤ maxLen) (hnA : ays.length ≤ 1048576) (hv2 : Sl lo2 hi2 w 4 v2 xs.length (flat Job.enc xs)) (hs : ∀ x ∈ xs, x.id.size ≤ maxLen) (hn : xs.length ≤ 1048576) (hv3 : Sl lo3 hi3 w 1 v3 some.length (flat encI some)) (hn3 : some.length ≤ 1048576) :
    Calls Try.prog 39 #[.agg #[.int .i64 j, v], v2, v3] w fun e w' => e = .returned (.tuple #[.int .i64 (pplR j ays xs some).1, .int .i64 (pplR j ays xs some).2]) ∧ Ext w w' := by
  have hv20 := hv2
  obtain ⟨hhi2, _, A2, c2, rfl, hnc2, hcm2, hcell2⟩ := hv20
  go_enter Try.func39, Try.ntmps39
  go_wp2_with fail
  generalize hG : w.alloc _ = wz
  have hE1 : Ext w wz := by rw [← hG]; exact Ext.new _ _
  clear hG
  cases hMS : (mineB j ays && jobsB (ays.length : Int) xs)
  · have HQ := hid (pplR_no some hMS)
    refine (cv (jobsImpl j ays xs _ _ _ _ _ _ _ (hv.ext hE1) hsA hnA (hv2.ext hE1) hs hn) (vb hMS)).mono ?_
    rintro e w1 ⟨rfl, hE⟩
    go_wp2
    go_ret2
    exact ⟨by rw [HQ.out]; rfl, Ext.tr hE1 hE⟩
  have hji := jobs_in (n := ays.length) (xs := xs) (by rw [Bool.and_eq_true] at hMS; exact hMS.2)
  refine (cv (jobsImpl j ays xs _ _ _ _ _ _ _ (hv.ext hE1) hsA hnA (hv2.ext hE1) hs hn) (vb hMS)).mono ?_
  rintro e w1 ⟨rfl, hE⟩
  have hE2 := Ext.tr hE1 hE
  cases hI : risesB some 0 ((xs.length : Int) - 1)
  · have HQ := hid (pplR_order hMS hI)
    go_wp2_with (go_at_call 83; refine (cv (someOk xs some _ _ _ _ _ _ hn (hv3.ext hE2) hn3) (vb hI)).mono ?_; rintro e w3 ⟨rfl, hE5⟩)
    go_ret2
    exact ⟨by rw [HQ.out]; rfl, Ext.tr hE2 hE5⟩
  have HQ := hid (pplR_ok hMS hI)
  have hss : ∀ k (h : k < some.length), 0 ≤ some[k] ∧ some[k] ≤ (xs.length : Int) - 1 := fun k h => rises_in hI k h
  have HSS := hid hss
  clear hss
  go_wp2_with (first | (go_at_call 83; refine (cv (someOk xs some _ _ _ _ _ _ hn (hv3.ext hE2) hn3) (vb hI)).mono ?_; rintro e w3 ⟨rfl, hE5⟩; have hE6 := Ext.tr hE2 hE5) | (go_at_call 84; refine (jobsOf xs some _ _ _ _ _ _ _ (hv2.ext hE6) hn (hv3.ext hE6) hn3 HSS.out).mono ?_; rintro e w4 ⟨⟨v4, rfl, hO⟩, hE7⟩; have hl := hO.sl; obtain ⟨hhi4, _, A4, c4, rfl, hnc4, hcm4, hcell4⟩ := hl; clear hO))
  have hE8 := Ext.tr hE6 hE7
  go_loopw [8, 25] (fun s i wr => ∃ k : Nat, k ≤ some.length ∧ i = .int .i64 k ∧ s = .int .i64 (pplTo xs some k) ∧ Ext w4 wr) (fun _ i _ => some.length - (intOf i).toNat)
  case atStart => exact ⟨0, by omega, rfl, rfl, Below.refl _ _⟩
  case round =>
    obtain ⟨k, hk, rfl, rfl, hEr⟩ := hrel
    by_cases hlt : k < some.length
    · have hpl := picked_len HSS.out some.length (Nat.le_refl _)
      obtain ⟨i, hii, hk', hi, he⟩ := picked_at HSS.out some.length (Nat.le_refl _) k (by omega)
      obtain ⟨b, off, rfl, hb1, hb2, hc⟩ := hcell4 (by omega)
      have hbw : b < w4.heap.size := by omega
      have hcc := (bcell hEr).1
      obtain ⟨e0, e1, e2, e3⟩ := Job.cells hc k (by omega)
      rw [he] at e0 e1 e2 e3
      obtain ⟨g0, g1⟩ := pplTo_bd hji HSS.out k hk
      obtain ⟨_, ⟨p0, p1⟩, _⟩ := hji.2 i hii
      have HP := hid (pplTo_succ (xs := xs) hlt hii hi)
      clear hc hi he hpl
      go_wp2
      go_roundw
      case rel => exact ⟨k + 1, by omega, by go_num, by rw [HP.out], Ext.tr hEr (Ext.new _ _)⟩
      case measure => simp [intOf]; omega
    · obtain rfl : k = some.length := by omega
      go_wp2
      go_ret2
      exact ⟨by rw [HQ.out]; rfl, Ext.tr hE8 hEr⟩
end Go.Proofs.Ytojmfjdbggpllaa
