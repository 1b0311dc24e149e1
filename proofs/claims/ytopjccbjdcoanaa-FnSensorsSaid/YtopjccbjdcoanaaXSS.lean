/- Lists of lists of numbers: the contracts of the laws' functions that measure, copy, compare, mark and hold them. -/
import Derived.Test.YtopjccbjdcoanaaNums
import Derived.Test.YtopjccbjdcoanaaMark
import Derived.Test.YtopjccbjdcoanaaNest
import Derived.Deep.RegionHeld3
namespace Go.Proofs.Ytopjccbjdcoanaa
set_option linter.unusedVariables false
open Go.RowKit
def encSS (p : List Int × Value) : List Value := [p.2]
theorem encSS_len (p : List Int × Value) : (encSS p).length = 1 := rfl
def nSS : Nest (List Int) := ⟨1, encSS, 1, List.length, fun x => flat encI x⟩
abbrev SlSS (lo hi : Nat) (w : World) (v : Value) (xs : List (List Int)) : Prop := SlN nSS lo hi w v xs
abbrev OwnSS (lo hi : Nat) (w : World) (v : Value) (xs : List (List Int)) : Prop := OwnN nSS 27 2 lo hi w v xs
theorem SlSS.opn {lo hi : Nat} {w : World} {v : Value} {xs : List (List Int)} (h : SlSS lo hi w v xs) :
    ∃ ys : List (List Int × Value), ys.map Prod.fst = xs ∧ Sl lo hi w 1 v xs.length (flat encSS ys) ∧ ∀ p ∈ ys, Sl lo hi w 1 p.2 p.1.length (flat encI p.1) := h
theorem SS.at_ {xs : List (List Int)} {ys : List (List Int × Value)} (hys : ys.map Prod.fst = xs) {lo hi : Nat} {w W : World} {b off : Nat} (hin : ∀ p ∈ ys, Sl lo hi w 1 p.2 p.1.length (flat encI p.1))
    (hc : ∀ j u, (flat encSS ys)[j]? = some u → w.cell? ⟨b, off + j, none⟩ = some u) (hW : Ext w W) (hb : b < w.heap.size) (i : Nat) (hlt : i < xs.length) :
    ∃ A c, W.cell? ⟨b, off + i, none⟩ = some (.slice A xs[i].length c) ∧ Sl lo hi W 1 (.slice A xs[i].length c) xs[i].length (flat encI xs[i]) := by
  obtain ⟨hl, hg⟩ := fst_get hys
  have hiy : i < ys.length := by omega
  have hs := hin ys[i] (List.getElem_mem hiy)
  have e0 := ((bcell hW).1 b (off + (i * 1 + 0)) hb).trans (cell_flat encSS_len hc i hiy 0 _ (by omega) rfl)
  simp only [Nat.mul_one, Nat.add_zero] at e0
  rw [hg i hiy hlt] at hs
  have hs' := hs
  obtain ⟨_, _, A, c, he, _⟩ := hs
  rw [he] at e0 hs'
  exact ⟨A, c, e0, hs'.ext hW⟩
theorem szInt64S (xs : List Int) (lo hi : Nat) (v : Value) (l : Int) (w : World) (hv : Sl lo hi w 1 v xs.length (flat encI xs)) (hl : 0 ≤ l ∧ l ≤ 1048576) :
    Calls Try.prog 72 #[v, .int .i64 l] w fun e w' => e = .returned (.int .i64 (szF l xs.length)) ∧ Ext w w' := by
  obtain ⟨_, _, A, c, rfl, hnc, hcm, _⟩ := hv
  obtain ⟨hl1, hl2⟩ := hl
  unfold maxLen at hcm
  go_enter Try.func72, Try.ntmps72
  go_wp2
  all_goals (go_ret; refine ⟨ret_int ?_, by go_tidy; go_grown⟩; go_tidy; unfold szF; split <;> omega)
theorem szInt64SS (xs : List (List Int)) (lo hi : Nat) (v : Value) (l : Int) (w : World) (hv : SlSS lo hi w v xs) (hl : 0 ≤ l ∧ l ≤ 1048576) :
    Calls Try.prog 27 #[v, .int .i64 l] w fun e w' => (∃ r, e = .returned (.int .i64 r) ∧ (0 ≤ r → r ≤ 1048576 ∧ totN nSS xs + xs.length ≤ 1048576)) ∧ Ext w w' := by
  obtain ⟨ys, hys, ⟨hhi, _, A, c, rfl, hnc, hcm, hcell⟩, hin⟩ := hv.opn
  have HY := hid hys
  clear hys hv
  obtain ⟨hl1, hl2⟩ := hl
  unfold maxLen at hcm
  by_cases h0 : l - xs.length < 0
  · go_enter Try.func27, Try.ntmps27
    go_wp2
    go_ret
    exact ⟨⟨-1, rfl, by omega⟩, by go_tidy; go_grown⟩
  · go_enter Try.func27, Try.ntmps27
    go_wp2
    go_loopw [1, 5] (fun l' i wr => ∃ (k : Nat) (m : Int), k ≤ xs.length ∧ i = .int .i64 k ∧ l' = .int .i64 m ∧ (0 ≤ m ∧ m + totN nSS (xs.take k) + xs.length ≤ 1048576) ∧ Ext w wr) (fun _ i _ => xs.length - (intOf i).toNat)
    case atStart => exact ⟨0, _, by omega, rfl, rfl, by simp [totN]; omega, Below.refl _ _⟩
    case round =>
      obtain ⟨k, m, hk, rfl, rfl, ⟨hm0, hm1⟩, hE⟩ := hrel
      by_cases hlt : k < xs.length
      · obtain ⟨b, off, rfl, hb1, hb2, hc⟩ := hcell (by omega)
        have hbw : b < w.heap.size := by omega
        obtain ⟨Au, cu, c0, hu⟩ := SS.at_ HY.out hin hc hE hbw k hlt
        clear hc
        have HT := hid (show totN nSS (xs.take (k + 1)) = totN nSS (xs.take k) + xs[k].length from totN_succ nSS xs k hlt)
        by_cases hz : szF m xs[k].length < 0
        · go_wp2_with fail
          refine (szInt64S xs[k] lo hi _ _ _ hu ⟨hm0, by omega⟩).mono ?_
          rintro e w2 ⟨rfl, hE2⟩
          go_wp2
          go_ret
          exact ⟨⟨-1, rfl, by omega⟩, Ext.tr hE hE2⟩
        · have hz1 := szF_bd m xs[k].length hz
          obtain ⟨hz2, hz3⟩ := hz1
          go_wp2_with fail
          refine (szInt64S xs[k] lo hi _ _ _ hu ⟨hm0, by omega⟩).mono ?_
          rintro e w2 ⟨rfl, hE2⟩
          rw [hz2]
          clear hz hz2
          go_wp2
          go_roundw
          case rel => exact ⟨k + 1, _, by omega, by go_num, rfl, by have := HT.out; omega, Ext.tr hE hE2⟩
          case measure => simp [intOf]; omega
      · obtain rfl : k = xs.length := by omega
        rw [List.take_length] at hm1
        go_wp2
        go_ret
        exact ⟨⟨m, rfl, fun _ => ⟨by omega, by omega⟩⟩, hE⟩
set_option maxRecDepth 100000 in
theorem eqInt64SS (xs : List (List Int)) (lo hi lo' hi' : Nat) (v v' : Value) (w : World) (hv : SlSS lo hi w v xs) (hv' : SlSS lo' hi' w v' xs) (hn : xs.length ≤ 2097152 ∧ totN nSS xs ≤ 2097152) :
    Calls Try.prog 22 #[v, v'] w fun e w' => e = .returned (.bool true) ∧ Ext w w' := by
  obtain ⟨ys, hys, ⟨hhi, _, A, c, rfl, hnc, hcm, hcell⟩, hin⟩ := hv.opn
  obtain ⟨ys', hys', ⟨hhi', _, A', c', rfl, hnc', hcm', hcell'⟩, hin'⟩ := hv'.opn
  have HY := hid hys
  have HY' := hid hys'
  obtain ⟨hn1, hn2⟩ := hn
  clear hys hys' hv hv'
  go_enter Try.func22, Try.ntmps22
  go_wp2
  go_loopw [5] (fun i wr => ∃ (k : Nat), k ≤ xs.length ∧ i = .int .i64 k ∧ Ext w wr) (fun i _ => xs.length - (intOf i).toNat)
  case atStart => exact ⟨0, by omega, rfl, Below.refl _ _⟩
  case round =>
    obtain ⟨k, hk, rfl, hE⟩ := hrel
    by_cases hlt : k < xs.length
    · obtain ⟨b, off, rfl, hb1, hb2, hc⟩ := hcell (by omega)
      obtain ⟨b', off', rfl, hb1', hb2', hc'⟩ := hcell' (by omega)
      have hbw : b < w.heap.size := by omega
      have hbw' : b' < w.heap.size := by omega
      obtain ⟨Au, cu, c0, hu⟩ := SS.at_ HY.out hin hc hE hbw k hlt
      obtain ⟨Bu, du, d0, hu'⟩ := SS.at_ HY'.out hin' hc' hE hbw' k hlt
      clear hc hc'
      have hsn : xs[k].length ≤ 2097152 := Nat.le_trans (totN_mem nSS xs k hlt) hn2
      have hki : (k : Int) < xs.length := by omega
      go_wp2
      go_still_tail 8, (by kernel_rfl)
      change wpList _ _ _ _ _ wr.drew
      have hE1 : Ext w wr.drew := Ext.tr hE (Ext.drewN wr 1)
      go_wp2_with (go_at_call 23; refine (eqInt64S xs[k] lo hi lo' hi' _ _ _ (hu.ext (Ext.drewN wr 1)) (hu'.ext (Ext.drewN wr 1)) hsn).mono ?_; rintro e w2 ⟨rfl, hE2⟩)
      have hE3 := Ext.tr hE1 hE2
      go_roundw
      case rel => exact ⟨k + 1, by omega, by go_num, hE3⟩
      case measure => simp [intOf]; omega
    · go_wp2
      go_ret
      exact ⟨rfl, hE⟩
theorem infoSS : (Try.prog.info? 27).map (fun i => (i.zero, i.size, i.bytes)) = some (some (.slice none 0 0), 1, 24) := by kernel_rfl
set_option maxRecDepth 100000 in
theorem toInt64SS (xs : List (List Int)) (lo hi : Nat) (v : Value) (w : World) (hv : SlSS lo hi w v xs) (hn : totN nSS xs + xs.length ≤ 1048576) :
    Calls Try.prog 29 #[v] w fun e w' => (∃ v', e = .returned v' ∧ OwnSS w.heap.size w'.heap.size w' v' xs) ∧ Ext w w' := by
  obtain ⟨ys, hys, ⟨hhi, _, A, c, rfl, hnc, hcm, hcell⟩, hin⟩ := hv.opn
  have HY := hid hys
  clear hys hv
  unfold maxLen at hcm
  have hmk := run_made 24 27 _ 1 24 Try.underlying24 infoSS xs.length (by omega) (by unfold maxLen; omega)
  simp only [Nat.mul_one] at hmk
  go_enter Try.func29, Try.ntmps29
  go_wp2
  clear hmk
  go_loopw [4] (fun i wr => ∃ (k : Nat) (zs : List (List Int × Value)), k ≤ xs.length ∧ i = .int .i64 k ∧ Hid (zs.map Prod.fst = xs.take k) ∧ Part wr w.heap.size 27 xs.length k (flat encSS zs) ∧ Hid (∀ p ∈ zs, Own (w.heap.size + 1) wr.heap.size wr 2 1 p.2 p.1.length (flat encI p.1)) ∧ Hid ((zs.map Prod.snd).Pairwise Apart) ∧ Ext w wr ∧ w.heap.size < wr.heap.size) (fun i _ => xs.length - (intOf i).toNat)
  case atStart => exact ⟨0, [], by omega, rfl, hid rfl, by have := Part.zeros w 27 (.slice none 0 0) xs.length 1 (flat encSS []); simpa using this, hid (fun p hp => absurd hp (by simp)), hid (by simp), Ext.new _ _, by simp⟩
  case round =>
    obtain ⟨k, zs, hk, rfl, HZ, hP, HO, HA, hE, hlo⟩ := hrel
    by_cases hlt : k < xs.length
    · obtain ⟨b, off, rfl, hb1, hb2, hc⟩ := hcell (by omega)
      have hbw : b < w.heap.size := by omega
      obtain ⟨Au, cu, c0, hu⟩ := SS.at_ HY.out hin hc hE hbw k hlt
      clear hc
      have hsn : xs[k].length ≤ 1048576 := by have : xs[k].length ≤ totN nSS xs := totN_mem nSS xs k hlt; omega
      go_wp2_with fail
      refine (toInt64S xs[k] lo hi _ _ hu hsn).mono ?_
      rintro e w2 ⟨⟨u2, rfl, hO⟩, hE2⟩
      have hl := hO.sl
      obtain ⟨_, _, A1, c1', rfl, _, _, _⟩ := hl
      have hB := hP.ext hE2
      obtain ⟨u0, g0⟩ := hB.cell k (by omega)
      have f0 := hB.frozen
      have hE3 := Ext.tr hE hE2
      have hz2 := hE2.size
      clear c0
      go_wp2
      have KK : KeepI w.heap.size (w.heap.size + 1) w2 (w2.setCell ⟨w.heap.size, k, none⟩ (.slice A1 xs[k].length c1')) := (KeepI.refl _ _ _).set_ (by omega) (by omega) _
      have hlz : zs.length = k := by have := congrArg List.length HZ.out; simpa [Nat.min_eq_left hk] using this
      have ez := flat_app_at encSS_len zs (xs[k], .slice A1 xs[k].length c1') 0 (by omega)
      rw [hlz] at ez
      go_roundw
      case rel =>
        refine ⟨k + 1, zs ++ [(xs[k], .slice A1 xs[k].length c1')], by omega, by go_num, hid ?_, (hB.list (fun j hj => flat_app_get encSS_len zs _ j (by omega))).set_ (by omega) (by simp only [Nat.mul_one, Nat.add_zero] at ez; exact ez), hid ?_, hid ?_, KK.ext hE3 (Nat.le_refl _), Nat.lt_of_lt_of_le hlo (Nat.le_trans hz2 KK.size)⟩
        · rw [List.map_append, HZ.out, List.take_succ_eq_append_getElem hlt]; rfl
        · intro p hp
          rw [List.mem_append] at hp
          rcases hp with hp | hp
          · exact (((HO.out p hp).ext hE2).keep KK (.inr (Nat.le_refl _))).more (Nat.le_refl _) (Nat.le_trans hz2 KK.size) (Nat.le_refl _)
          · simp at hp; subst hp
            exact (hO.keep KK (.inr (by omega))).more (by omega) KK.size (Nat.le_refl _)
        · rw [List.map_append, List.pairwise_append]
          refine ⟨HA.out, by simp, fun a ha b hb => ?_⟩
          simp at hb; subst hb
          obtain ⟨p, hp, rfl⟩ := List.mem_map.1 ha
          exact (HO.out p hp).apart hO (.inl (Nat.le_refl _))
      case measure => simp [intOf]; omega
    · obtain rfl : k = xs.length := by omega
      go_wp2
      go_ret
      have hz := HZ.out
      rw [List.take_length] at hz
      have hzl : zs.length = xs.length := by rw [← hz]; simp
      have ho := Part.ownF (K := 1) (by simpa using hP) (by omega) (by rw [flat_length encSS_len, hzl])
      refine ⟨⟨_, rfl, Nat.le_refl _, ⟨by omega, by omega⟩, zs, hz, ho.more (Nat.le_refl _) hlo (Nat.le_refl _), fun p hp => (HO.out p hp).more (by omega) (Nat.le_refl _) (Nat.le_refl _), ?_⟩, hE⟩
      rw [List.pairwise_cons]
      refine ⟨fun u hu => ?_, HA.out⟩
      obtain ⟨p, hp, rfl⟩ := List.mem_map.1 hu
      exact ho.apart (HO.out p hp) (.inl (Nat.le_refl _))
/-! ### marks -/
def qS (k0 : Int) (xs : List (List Int)) (j : Nat) : Int := k0 + (totN nSS (xs.take j) : Int)
theorem qS_succ (k0 : Int) (xs : List (List Int)) (j : Nat) (h : j < xs.length) : qS k0 xs (j + 1) = qS k0 xs j + (xs[j].length : Int) := by
  unfold qS
  have : totN nSS (xs.take (j + 1)) = totN nSS (xs.take j) + xs[j].length := totN_succ nSS xs j h
  rw [this]; omega
theorem qS_zero (k0 : Int) (xs : List (List Int)) : qS k0 xs 0 = k0 := by unfold qS; simp [totN]
theorem qS_end (k0 : Int) (xs : List (List Int)) : qS k0 xs xs.length = k0 + (totN nSS xs : Int) := by unfold qS; rw [List.take_length]
theorem qS_le (k0 : Int) (xs : List (List Int)) (j : Nat) : k0 ≤ qS k0 xs j ∧ qS k0 xs j ≤ k0 + (totN nSS xs : Int) := by
  unfold qS
  have := totN_le nSS xs j
  omega
def markRow (q : Int) (n : Nat) : List Int := (List.range n).map fun i : Nat => q + (i : Int)
theorem markRow_len (q : Int) (n : Nat) : (markRow q n).length = n := by unfold markRow; simp
theorem flat_markRow (q : Int) (n : Nat) : flat encI (markRow q n) = markInts q n := by
  unfold markRow markInts flat
  rw [List.flatMap_map]; rfl
def rowAt (xs : List (List Int)) (j : Nat) : List Int := xs.getD j []
theorem rowAt_get (xs : List (List Int)) (j : Nat) (h : j < xs.length) : rowAt xs j = xs[j] := by unfold rowAt; rw [List.getD_eq_getElem?_getD, List.getElem?_eq_getElem h]; rfl
def mkR (k0 : Int) (xs : List (List Int)) (j : Nat) : List Int := markRow (qS k0 xs j) (rowAt xs j).length
def markRows (k0 : Int) (xs : List (List Int)) : List (List Int) := (List.range xs.length).map (mkR k0 xs)
theorem markRows_len (k0 : Int) (xs : List (List Int)) : (markRows k0 xs).length = xs.length := by unfold markRows; simp
theorem mkR_len (k0 : Int) (xs : List (List Int)) (j : Nat) (h : j < xs.length) : (mkR k0 xs j).length = xs[j].length := by
  unfold mkR; rw [markRow_len, rowAt_get xs j h]
theorem markRows_get (k0 : Int) (xs : List (List Int)) (j : Nat) (h : j < (markRows k0 xs).length) : (markRows k0 xs)[j] = mkR k0 xs j := by simp only [markRows, List.getElem_map, List.getElem_range]
theorem markRows_tot (k0 : Int) (xs : List (List Int)) : totN nSS (markRows k0 xs) = totN nSS xs := by
  unfold totN
  congr 1
  apply List.ext_getElem
  · simp [markRows_len]
  · intro j h1 h2
    simp only [List.getElem_map]
    have hj : j < xs.length := by simpa using h2
    rw [markRows_get]; exact mkR_len k0 xs j hj
set_option maxRecDepth 100000 in
set_option maxHeartbeats 1000000 in
theorem markInt64SS (k0 : Int) (lo hi : Nat) (v : Value) (xs : List (List Int)) (w : World) (hv : OwnSS lo hi w v xs) (h0 : 0 < k0) (hk : k0 + (totN nSS xs : Int) ≤ 1099511627776) :
    Calls Try.prog 25 #[v, .int .i64 k0] w fun e w' => e = .returned (.int .i64 (k0 + (totN nSS xs : Int))) ∧ OwnSS lo hi w' v (markRows k0 xs) ∧ KeepI lo hi w w' := by
  obtain ⟨hhw, ⟨hn1, hn2⟩, ys, hys, hO, hin, hap⟩ := hv
  obtain ⟨hyl, hyg⟩ := fst_get hys
  rw [List.pairwise_cons] at hap
  have HT := hid (show (markRows k0 xs).length ≤ 2097152 ∧ totN nSS (markRows k0 xs) ≤ 2097152 from ⟨by rw [markRows_len]; exact hn1, by rw [markRows_tot]; exact hn2⟩)
  obtain ⟨m, hm⟩ : ∃ m : Nat → Value, m = fun j => (ys.getD j ([], .bool false)).2 := ⟨_, rfl⟩
  have hmg : ∀ j (h : j < ys.length), m j = ys[j].2 := fun j h => by rw [hm]; simp only [List.getD_eq_getElem?_getD, List.getElem?_eq_getElem h]; rfl
  have HF := hid (show flat encSS ys = flat encSS ((List.range xs.length).map fun j => (mkR k0 xs j, m j)) by
    unfold flat
    rw [List.flatMap_map]
    have e : ys = (List.range xs.length).map fun j => ((ys.getD j ([], .bool false)).1, m j) := by
      apply List.ext_getElem
      · simp [hyl]
      · intro j h1 h2
        simp only [List.getElem_map, List.getElem_range]
        rw [hmg j h1, List.getD_eq_getElem?_getD, List.getElem?_eq_getElem h1]; rfl
    conv => lhs; rw [e]
    rw [List.flatMap_map]; rfl)
  have HIN := hid (show ∀ j, j < xs.length → Own lo hi w 2 1 (m j) (rowAt xs j).length (flat encI (rowAt xs j)) from fun j h => by
    have h' : j < ys.length := by omega
    have := hin ys[j] (List.getElem_mem h')
    rw [hyg j h' h] at this
    rw [hmg j h', rowAt_get xs j h]; exact this)
  have HAP := hid (show ∀ j, j < xs.length → Apart v (m j) from fun j h => by
    have h' : j < ys.length := by omega
    rw [hmg j h']
    exact hap.1 _ (List.mem_map_of_mem (List.getElem_mem h')))
  have HAM := hid (show ∀ i j, i < xs.length → j < xs.length → i ≠ j → Apart (m i) (m j) from fun i j h1 h2 hne => by
    have h1' : i < ys.length := by omega
    have h2' : j < ys.length := by omega
    rw [hmg i h1', hmg j h2']
    have := List.pairwise_iff_getElem.1 hap.2
    rcases Nat.lt_or_gt_of_ne hne with h | h
    · have := this i j (by simpa using h1') (by simpa using h2') h
      rw [List.getElem_map, List.getElem_map] at this; exact this
    · have := this j i (by simpa using h2') (by simpa using h1') h
      rw [List.getElem_map, List.getElem_map] at this; exact this.symm)
  have HCE := hid (show ∀ j, j < xs.length → (flat encSS ys)[j]? = some (m j) from fun j h => by
    have h' : j < ys.length := by omega
    have := flat_get encSS_len ys j h' 0 (by omega)
    simp only [Nat.mul_one, Nat.add_zero] at this
    rw [this, hmg j h']; rfl)
  have HO := hid hO
  have hS := hO.sl
  obtain ⟨_, _, A, c, rfl, hnc, hcm, hcell⟩ := hS
  clear hap hin hmg hys hyl hyg hm hO
  go_enter Try.func25, Try.ntmps25
  go_wp2
  go_loopw [1, 5] (fun kk i wr => ∃ (k : Nat) (q : Int), k ≤ xs.length ∧ i = .int .i64 k ∧ kk = .int .i64 q ∧ Hid (q = qS k0 xs k) ∧ Hid (Own lo hi wr 27 1 (.slice A xs.length c) xs.length (flat encSS ys)) ∧ Hid (∀ j, j < xs.length → Own lo hi wr 2 1 (m j) (rowAt xs j).length (flat encI (if j < k then mkR k0 xs j else rowAt xs j))) ∧ KeepI lo hi w wr) (fun _ i _ => xs.length - (intOf i).toNat)
  case atStart => exact ⟨0, k0, by omega, rfl, rfl, hid (qS_zero _ _).symm, HO, hid (fun j h => by rw [if_neg (by omega)]; exact HIN.out j h), KeepI.refl _ _ _⟩
  case round =>
    obtain ⟨k, q, hk2, rfl, rfl, hq, HO2, HI, hK⟩ := hrel
    by_cases hlt : k < xs.length
    · have hqb : 0 < q ∧ q + (xs[k].length : Int) ≤ 1099511627776 := by
        have e := hq.out
        have := qS_le k0 xs k
        have := qS_le k0 xs (k + 1)
        have := qS_succ k0 xs k hlt
        omega
      obtain ⟨hq1, hq3⟩ := hqb
      have hOk := HI.out k hlt
      rw [if_neg (by omega), rowAt_get xs k hlt] at hOk
      have hls := hOk.sl
      obtain ⟨_, _, A1, c1, hme, _, _, _⟩ := hls
      have HM := hid hme
      rw [hme] at hOk
      obtain ⟨_, _, A', c', he', _, _, hc'⟩ := HO2.out.sl
      simp only [Value.slice.injEq] at he'
      obtain ⟨e1, _, e2⟩ := he'
      obtain ⟨b, off, hA, hb1, hb2, hc⟩ := hc' (by omega)
      rw [hA] at e1
      subst e1
      have c0 := hc k _ (HCE.out k hlt)
      rw [hme] at c0
      clear hme hc hc' hcell hA e2
      obtain ⟨a, b', hN, hO3⟩ := hOk.nar
      have HQ := hid (qS_succ k0 xs k hlt)
      have HX := hid (mkR_len k0 xs k hlt)
      go_wp2_with fail
      refine (markInt64S _ _ a b' _ _ _ hO3 (by omega) (by omega)).mono ?_
      rintro e w2 ⟨rfl, hO4, hK3⟩
      go_wp2
      go_roundw
      case rel =>
        refine ⟨k + 1, _, by omega, by go_num, rfl, hid ?_, hid ?_, hid ?_, hK.tr (hN.keep hK3)⟩
        · have := hq.out; have := HQ.out; omega
        · exact HO2.out.keptN hK3 hN (by rw [← HM.out]; exact HAP.out k hlt)
        · intro j hj
          by_cases hjk : j = k
          · subst hjk
            rw [if_pos (by omega), HM.out, rowAt_get xs j hlt]
            have e : mkR k0 xs j = markRow q xs[j].length := by unfold mkR; rw [rowAt_get xs j hlt, ← hq.out]
            rw [e, flat_markRow]
            exact hO4.wide hN (Nat.le_trans (Nat.le_trans hhw hK.size) hK3.size)
          · have e : (if j < k + 1 then mkR k0 xs j else rowAt xs j) = (if j < k then mkR k0 xs j else rowAt xs j) := by
              by_cases h : j < k
              · rw [if_pos h, if_pos (by omega)]
              · rw [if_neg h, if_neg (by omega)]
            rw [e]
            exact (HI.out j hj).keptN hK3 hN (by rw [← HM.out]; exact HAM.out j k hj hlt hjk)
      case measure => simp [intOf]; omega
    · obtain rfl : k = xs.length := by omega
      have HE := hid (qS_end k0 xs)
      go_wp2
      go_ret
      refine ⟨ret_int (by rw [hq.out, HE.out]), ⟨Nat.le_trans hhw hK.size, HT.out, (List.range xs.length).map (fun j => (mkR k0 xs j, m j)), ?_, ?_, ?_, ?_⟩, hK⟩
      · rw [List.map_map]; rfl
      · rw [markRows_len]
        have := HO2.out
        rw [HF.out] at this
        exact this
      · intro p hp
        obtain ⟨j, hj, rfl⟩ := List.mem_map.1 hp
        have hj' : j < xs.length := by simpa using hj
        have := HI.out j hj'
        rw [if_pos hj'] at this
        show Own lo hi _ _ 1 (m j) (mkR k0 xs j).length (flat encI (mkR k0 xs j))
        rw [mkR_len k0 xs j hj', ← rowAt_get xs j hj']
        exact this
      · rw [List.pairwise_cons]
        have hsn : ((List.range xs.length).map (fun j => (mkR k0 xs j, m j))).map Prod.snd = (List.range xs.length).map m := by rw [List.map_map]; rfl
        rw [hsn]
        refine ⟨fun u hu => ?_, ?_⟩
        · obtain ⟨j, hj, rfl⟩ := List.mem_map.1 hu
          exact HAP.out j (by simpa using hj)
        · rw [List.pairwise_iff_getElem]
          intro i j h1 h2 hij
          rw [List.getElem_map, List.getElem_map, List.getElem_range, List.getElem_range]
          exact HAM.out i j (by simpa using h1) (by simpa using h2) (by omega)
set_option maxRecDepth 100000 in
theorem heldInt64SS (k0 : Int) (lo hi : Nat) (v : Value) (xs : List (List Int)) (w : World) (hv : SlSS lo hi w v (markRows k0 xs)) (hn : xs.length ≤ 2097152 ∧ totN nSS xs ≤ 2097152) (h0 : 0 < k0) (hk : k0 + (totN nSS xs : Int) ≤ 1099511627776) :
    Calls Try.prog 26 #[v, .int .i64 k0] w fun e w' => e = .returned (.int .i64 (k0 + (totN nSS xs : Int))) ∧ Ext w w' := by
  obtain ⟨ys, hys, hS, hin⟩ := hv.opn
  rw [markRows_len] at hS
  obtain ⟨hhi, _, A, c, rfl, hnc, hcm, hcell⟩ := hS
  have HY := hid hys
  obtain ⟨hn1, hn2⟩ := hn
  clear hys hv
  go_enter Try.func26, Try.ntmps26
  go_wp2
  go_loopw [1, 5] (fun kk i wr => ∃ (k : Nat) (q : Int), k ≤ xs.length ∧ i = .int .i64 k ∧ kk = .int .i64 q ∧ Hid (q = qS k0 xs k) ∧ Ext w wr) (fun _ i _ => xs.length - (intOf i).toNat)
  case atStart => exact ⟨0, k0, by omega, rfl, rfl, hid (qS_zero _ _).symm, Below.refl _ _⟩
  case round =>
    obtain ⟨k, q, hk2, rfl, rfl, hq, hE⟩ := hrel
    by_cases hlt : k < xs.length
    · have hqb : 0 < q ∧ q + (xs[k].length : Int) ≤ 1099511627776 := by
        have e := hq.out
        have := qS_le k0 xs k
        have := qS_le k0 xs (k + 1)
        have := qS_succ k0 xs k hlt
        omega
      obtain ⟨hq1, hq3⟩ := hqb
      obtain ⟨b, off, rfl, hb1, hb2, hc⟩ := hcell (by omega)
      have hbw : b < w.heap.size := by omega
      obtain ⟨Au, cu, c0, hu⟩ := SS.at_ HY.out hin hc hE hbw k (by rw [markRows_len]; exact hlt)
      clear hc
      have hsn : xs[k].length ≤ 2097152 := Nat.le_trans (totN_mem nSS xs k hlt) hn2
      have e : (markRows k0 xs)[k]'(by rw [markRows_len]; exact hlt) = markRow q xs[k].length := by rw [markRows_get]; unfold mkR; rw [rowAt_get xs k hlt, ← hq.out]
      rw [e, markRow_len] at c0 hu
      rw [flat_markRow] at hu
      have HQ := hid (qS_succ k0 xs k hlt)
      clear e
      generalize hnn : xs[k].length = n at *
      have HN := hid hnn
      clear hnn
      go_wp2_with fail
      refine (heldInt64S q n lo hi _ _ hu (by omega) (by omega) (by omega)).mono ?_
      rintro e w2 ⟨rfl, hE2⟩
      go_wp2
      go_roundw
      case rel => exact ⟨k + 1, _, by omega, by go_num, rfl, hid (by have := hq.out; have := HQ.out; have := HN.out; omega), Ext.tr hE hE2⟩
      case measure => simp [intOf]; omega
    · obtain rfl : k = xs.length := by omega
      have HE := hid (qS_end k0 xs)
      go_wp2
      go_ret
      exact ⟨ret_int (by rw [hq.out, HE.out]), hE⟩
end Go.Proofs.Ytopjccbjdcoanaa
