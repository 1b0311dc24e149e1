/- Version: the contracts of the laws' functions that mark a list of versions and look for the marks. -/
import Derived.Test.YthffakaddohlnaaXVersion
namespace Go.Proofs.Ythffakaddohlnaa
set_option linter.unusedVariables false
open Go.RowKit
def markState (q : Int) (n : Nat) : List Setting := (List.range n).map fun i : Nat => ⟨markS (q + 2 * (i : Int)).toNat, q + 2 * (i : Int) + 1⟩
theorem markState_len (q : Int) (n : Nat) : (markState q n).length = n := by unfold markState; simp
def mkV (q : Int) (n : Nat) : Version := ⟨q, q + 1, markS (q + 2).toNat, markState (q + 3) n⟩
def noV : Version := ⟨0, 0, ⟨#[]⟩, []⟩
def stAt (xs : List Version) (j : Nat) : Version := xs.getD j noV
theorem stAt_get (xs : List Version) (j : Nat) (h : j < xs.length) : stAt xs j = xs[j] := by unfold stAt; rw [List.getD_eq_getElem?_getD, List.getElem?_eq_getElem h]; rfl
def qAt (k0 : Int) (xs : List Version) (j : Nat) : Int := k0 + 3 * (j : Int) + 2 * (totN nV (xs.take j) : Int)
theorem qAt_succ (k0 : Int) (xs : List Version) (j : Nat) (h : j < xs.length) : qAt k0 xs (j + 1) = qAt k0 xs j + 3 + 2 * (xs[j].state.length : Int) := by
  unfold qAt
  have : totN nV (xs.take (j + 1)) = totN nV (xs.take j) + xs[j].state.length := totN_succ nV xs j h
  rw [this]; omega
theorem qAt_zero (k0 : Int) (xs : List Version) : qAt k0 xs 0 = k0 := by unfold qAt; simp [totN]
theorem qAt_end (k0 : Int) (xs : List Version) : qAt k0 xs xs.length = k0 + 3 * (xs.length : Int) + 2 * (totN nV xs : Int) := by unfold qAt; rw [List.take_length]
theorem qAt_le (k0 : Int) (xs : List Version) (j : Nat) (h : j ≤ xs.length) : k0 ≤ qAt k0 xs j ∧ qAt k0 xs j ≤ k0 + 3 * (xs.length : Int) + 2 * (totN nV xs : Int) := by
  unfold qAt
  have := totN_le nV xs j
  omega
def mkAt (k0 : Int) (xs : List Version) (j : Nat) : Version := mkV (qAt k0 xs j) (stAt xs j).state.length
/-- the versions with their marks -/
def markVers (k0 : Int) (xs : List Version) : List Version := (List.range xs.length).map (mkAt k0 xs)
theorem markVers_len (k0 : Int) (xs : List Version) : (markVers k0 xs).length = xs.length := by unfold markVers; simp
theorem mkAt_len (k0 : Int) (xs : List Version) (j : Nat) (h : j < xs.length) : (mkAt k0 xs j).state.length = xs[j].state.length := by
  unfold mkAt mkV; simp only [markState_len]; rw [stAt_get xs j h]
theorem markVers_tot (k0 : Int) (xs : List Version) : totN nV (markVers k0 xs) = totN nV xs := by
  unfold totN
  congr 1
  apply List.ext_getElem
  · simp [markVers_len]
  · intro j h1 h2
    simp only [List.getElem_map]
    have hj : j < xs.length := by simpa using h2
    have : (markVers k0 xs)[j]'(by simpa using h1) = mkAt k0 xs j := by unfold markVers; simp
    rw [this]; exact mkAt_len k0 xs j hj
/-- the first i versions are marked -/
def mixF (k0 : Int) (xs : List Version) (i j : Nat) : Version := if j < i then mkAt k0 xs j else stAt xs j
theorem mixF_ne (k0 : Int) (xs : List Version) (i j : Nat) (h : j ≠ i) : mixF k0 xs (i + 1) j = mixF k0 xs i j := by
  unfold mixF
  by_cases h1 : j < i
  · rw [if_pos h1, if_pos (by omega)]
  · rw [if_neg h1, if_neg (by omega)]
theorem mixF_old (k0 : Int) (xs : List Version) (i : Nat) (h : i < xs.length) : mixF k0 xs i i = xs[i] := by unfold mixF; rw [if_neg (by omega), stAt_get xs i h]
theorem mixF_new (k0 : Int) (xs : List Version) (i : Nat) : mixF k0 xs (i + 1) i = mkAt k0 xs i := by unfold mixF; rw [if_pos (by omega)]
def mixL (k0 : Int) (xs : List Version) (m : Nat → Value) (i : Nat) : List (Version × Value) := (List.range xs.length).map fun j => (mixF k0 xs i j, m j)
theorem mixL_len (k0 : Int) (xs : List Version) (m : Nat → Value) (i : Nat) : (mixL k0 xs m i).length = xs.length := by unfold mixL; simp
theorem mixL_get (k0 : Int) (xs : List Version) (m : Nat → Value) (i j r : Nat) (hj : j < xs.length) (hr : r < 4) : (flat Version.enc (mixL k0 xs m i))[j * 4 + r]? = (Version.enc (mixF k0 xs i j, m j))[r]? := by
  rw [flat_get Version.len _ j (by rw [mixL_len]; exact hj) r hr]
  unfold mixL; simp
theorem mixL_start (k0 : Int) {xs : List Version} {ys : List (Version × Value)} (h : ys.map Prod.fst = xs) (u0 : Value) : mixL k0 xs (fun j => (ys.getD j (noV, u0)).2) 0 = ys := by
  obtain ⟨hl, hg⟩ := fst_get h
  apply List.ext_getElem
  · rw [mixL_len, hl]
  · intro j h1 h2
    have hj : j < xs.length := by omega
    unfold mixL mixF
    simp only [List.getElem_map, List.getElem_range, Nat.not_lt_zero, if_false]
    rw [stAt_get xs j hj, ← hg j h2 hj, List.getD_eq_getElem?_getD, List.getElem?_eq_getElem h2]; rfl
theorem mixL_end (k0 : Int) (xs : List Version) (m : Nat → Value) : (mixL k0 xs m xs.length).map Prod.fst = markVers k0 xs := by
  unfold mixL markVers
  rw [List.map_map]
  apply List.map_congr_left
  intro j hj
  simp at hj
  simp [mixF, hj]
theorem one4 {N : Nat} {k0 : Int} {xs : List Version} {m : Nat → Value} {i : Nat} {cs : Array Value} (hi : i < xs.length) (hN : xs.length * 4 ≤ N) (h2 : cs.size = N) (h3 : ∀ j, j < xs.length * 4 → cs[j]? = (flat Version.enc (mixL k0 xs m i))[j]?) (a b : Int) (s : ByteArray)
    (ha : a = qAt k0 xs i) (hb : b = qAt k0 xs i + 1) (hs : s = markS (qAt k0 xs i + 2).toNat) :
    ∀ j, j < xs.length * 4 → (((cs.setIfInBounds (i * 4) (.int .i64 a)).setIfInBounds (i * 4 + 1) (.int .i64 b)).setIfInBounds (i * 4 + 2) (.string s))[j]? = (flat Version.enc (mixL k0 xs m (i + 1)))[j]? := by
  subst ha hb hs
  intro j hj
  obtain ⟨q, r, hr, rfl⟩ : ∃ q r, r < 4 ∧ j = q * 4 + r := ⟨j / 4, j % 4, Nat.mod_lt _ (by omega), by omega⟩
  have hq : q < xs.length := by omega
  rw [mixL_get k0 xs m (i + 1) q r hq hr]
  have h3' := (h3 (q * 4 + r) hj).trans (mixL_get k0 xs m i q r hq hr)
  by_cases hqi : q = i
  · subst hqi
    rw [mixF_new]
    have e : r = 0 ∨ r = 1 ∨ r = 2 ∨ r = 3 := by omega
    rcases e with rfl | rfl | rfl | rfl
    · simp only [Nat.add_zero]
      rw [Array.getElem?_setIfInBounds_ne (by omega), Array.getElem?_setIfInBounds_ne (by omega), Array.getElem?_setIfInBounds_self_of_lt (by omega)]; rfl
    · rw [Array.getElem?_setIfInBounds_ne (by omega), Array.getElem?_setIfInBounds_self_of_lt (by simp; omega)]; rfl
    · rw [Array.getElem?_setIfInBounds_self_of_lt (by simp; omega)]; rfl
    · rw [Array.getElem?_setIfInBounds_ne (by omega), Array.getElem?_setIfInBounds_ne (by omega), Array.getElem?_setIfInBounds_ne (by omega), h3']
      rfl
  · rw [mixF_ne k0 xs i q hqi, Array.getElem?_setIfInBounds_ne (by omega), Array.getElem?_setIfInBounds_ne (by omega), Array.getElem?_setIfInBounds_ne (by omega), h3']
theorem flat_markState (q : Int) (n : Nat) : flat Setting.enc (markState q n) = markSettings q n := by
  unfold markState markSettings flat
  rw [List.flatMap_map]; rfl
set_option maxRecDepth 100000 in
set_option maxHeartbeats 1000000 in
theorem markVersionS (k0 : Int) (lo hi : Nat) (v : Value) (xs : List Version) (w : World) (hv : OwnV lo hi w v xs) (h0 : 0 < k0) (hk : k0 + 3 * (xs.length : Int) + 2 * (totN nV xs : Int) ≤ 1099511627776) :
    Calls Try.prog 37 #[v, .int .i64 k0] w fun e w' => e = .returned (.int .i64 (k0 + 3 * (xs.length : Int) + 2 * (totN nV xs : Int))) ∧ OwnV lo hi w' v (markVers k0 xs) ∧ KeepI lo hi w w' := by
  obtain ⟨hhw, ⟨hn1, hn2⟩, ys, hys, hO, hin, hap⟩ := hv
  obtain ⟨hyl, hyg⟩ := fst_get hys
  rw [List.pairwise_cons] at hap
  have HT := hid (show (markVers k0 xs).length ≤ 2097152 ∧ totN nV (markVers k0 xs) ≤ 2097152 from ⟨by rw [markVers_len]; exact hn1, by rw [markVers_tot]; exact hn2⟩)
  rcases hO.one with ⟨rfl, hn0⟩ | ⟨g, hgv, hlo, hhi, hO1⟩
  · have hx : xs = [] := List.eq_nil_of_length_eq_zero hn0
    subst hx
    have hy : ys = [] := by simpa using hys
    subst hy
    clear hn0 hO hyl
    go_enter Try.func37, Try.ntmps37
    go_wp2
    go_loopw [1, 5] (fun kk i wr => kk = .int .i64 k0 ∧ i = .int .i64 0 ∧ wr = w) (fun _ _ _ => 0)
    case atStart => exact ⟨rfl, rfl, rfl⟩
    case round =>
      obtain ⟨rfl, rfl, rfl⟩ := hrel
      go_wp2
      go_ret
      exact ⟨ret_int (by simp [totN]), ⟨hhw, HT.out, [], rfl, ⟨hhw, Nat.zero_le _, rfl, .inl ⟨rfl, rfl⟩⟩, (fun p hp => absurd hp (by simp)), by simp⟩, KeepI.refl _ _ _⟩
  obtain ⟨_, hn, hfl, ⟨rfl, _⟩ | ⟨g', c, cs, rfl, hg1, hg2, hnc, hcm, hB, hcs, hxs⟩⟩ := hO1
  · cases hgv
  obtain rfl : g' = g := by omega
  clear hg1 hg2 hO hgv
  obtain ⟨m, hm⟩ : ∃ m : Nat → Value, m = fun j => (ys.getD j (noV, .bool false)).2 := ⟨_, rfl⟩
  have hmx : mixL k0 xs m 0 = ys := by rw [hm]; exact mixL_start k0 hys _
  have hmg : ∀ j (h : j < ys.length), m j = ys[j].2 := fun j h => by rw [hm]; simp only [List.getD_eq_getElem?_getD, List.getElem?_eq_getElem h]; rfl
  have hP0 : Part w g' 69 cs.size (xs.length * 4) (flat Version.enc (mixL k0 xs m 0)) := by
    rw [hmx]
    refine ⟨cs, hB, rfl, fun j hj => ?_⟩
    have hxs' : cs.toList.take (xs.length * 4) = flat Version.enc ys := hxs
    rw [← hxs']
    rw [List.getElem?_take, if_pos hj]; simp
  have HIN := hid (show ∀ j, j < xs.length → Own lo hi w 61 2 (m j) (mixF k0 xs 0 j).state.length (flat Setting.enc (mixF k0 xs 0 j).state) from fun j h => by
    have h' : j < ys.length := by omega
    have := hin ys[j] (List.getElem_mem h')
    rw [hyg j h' h] at this
    have e : mixF k0 xs 0 j = xs[j] := by unfold mixF; rw [if_neg (by omega), stAt_get xs j h]
    rw [hmg j h', e]; exact this)
  have HAP := hid (show ∀ j, j < xs.length → (m j).ownBlock ≠ some g' from fun j h e => by
    have h' : j < ys.length := by omega
    rw [hmg j h'] at e
    exact hap.1 _ (List.mem_map_of_mem (List.getElem_mem h')) g' rfl e)
  have HAM := hid (show ∀ i j, i < xs.length → j < xs.length → i ≠ j → Apart (m i) (m j) from fun i j h1 h2 hne => by
    have h1' : i < ys.length := by omega
    have h2' : j < ys.length := by omega
    rw [hmg i h1', hmg j h2']
    have := List.pairwise_iff_getElem.1 hap.2
    rcases Nat.lt_or_gt_of_ne hne with h | h
    · have := this i j (by simpa using h1') (by simpa using h2') h
      rw [List.getElem_map, List.getElem_map] at this; exact this
    · have := this j i (by simpa using h2') (by simpa using h1') h
      rw [List.getElem_map, List.getElem_map] at this; exact this.symm)
  replace hcs : cs.size = c * 4 := hcs
  have hNN : xs.length * 4 ≤ cs.size := by rw [hcs]; exact Nat.mul_le_mul_right _ hnc
  have HC := hid hcs
  clear hap hin hmx hmg hys hyl hyg hm hB hcs hxs hfl
  generalize cs.size = N at *
  clear cs
  go_enter Try.func37, Try.ntmps37
  go_wp2
  go_loopw [1, 5] (fun kk i wr => ∃ (k : Nat) (q : Int), k ≤ xs.length ∧ i = .int .i64 k ∧ kk = .int .i64 q ∧ Hid (q = qAt k0 xs k) ∧ Part wr g' 69 N (xs.length * 4) (flat Version.enc (mixL k0 xs m k)) ∧ Hid (∀ j, j < xs.length → Own lo hi wr 61 2 (m j) (mixF k0 xs k j).state.length (flat Setting.enc (mixF k0 xs k j).state)) ∧ KeepI lo hi w wr) (fun _ i _ => xs.length - (intOf i).toNat)
  case atStart => exact ⟨0, k0, by omega, rfl, rfl, hid (qAt_zero _ _).symm, hP0, HIN, KeepI.refl _ _ _⟩
  case round =>
    obtain ⟨k, q, hk2, rfl, rfl, hq, hP, HO, hK⟩ := hrel
    by_cases hlt : k < xs.length
    · have hqb : 0 < q ∧ q + 3 + 2 * (xs[k].state.length : Int) ≤ 1099511627776 := by
        have e := hq.out
        have := qAt_le k0 xs k (by omega)
        have := qAt_le k0 xs (k + 1) (by omega)
        have := qAt_succ k0 xs k hlt
        omega
      obtain ⟨hq1, hq3⟩ := hqb
      have hOk := HO.out k hlt
      have HO' := HO
      rw [mixF_old k0 xs k hlt] at hOk
      have hP' := hP
      obtain ⟨cs, hB, hcs, hct⟩ := hP'
      have e3 : wr.cell? ⟨g', k * 4 + 3, none⟩ = some (m k) := by
        rw [hB.cell, hct _ (by omega), mixL_get k0 xs m k k 3 hlt (by omega)]; rfl
      have hls := hOk.sl
      obtain ⟨_, _, A1, c1, hme, _, _, _⟩ := hls
      have HM := hid hme
      rw [hme] at e3 hOk
      clear hme
      obtain ⟨u0_0, g0_0⟩ := hP.cell (k * 4) (by omega)
      obtain ⟨u0_1, g0_1⟩ := hP.cell (k * 4 + 1) (by omega)
      obtain ⟨u0_2, g0_2⟩ := hP.cell (k * 4 + 2) (by omega)
      have f0 := hP.frozen
      have HP := hid (And.intro hcs hct)
      clear hcs hct
      go_wp2_with fail
      refine (markText _ _ (by omega) (by omega)).mono ?_
      rintro e w1 ⟨rfl, hE1⟩
      have hB1 := ((hB.set_ (k * 4) (.int .i64 q)).set_ (k * 4 + 1) (.int .i64 (q + 1))).ext hE1
      have K1 : ∀ (W : World) (i : Nat) (u : Value), KeepI g' (g' + 1) W (W.setCell ⟨g', i, none⟩ u) := fun W i u => (KeepI.refl _ _ _).set_ (Nat.le_refl _) (Nat.lt_succ_self _) _
      have hK1 := ((K1 wr (k * 4) (.int .i64 q)).tr (K1 _ (k * 4 + 1) (.int .i64 (q + 1)))).trE hE1
      clear g0_0 g0_1 g0_2 e3 f0
      have f1 := hB1.frozen
      have hsz1 : (((cs.setIfInBounds (k * 4) (.int .i64 q)).setIfInBounds (k * 4 + 1) (.int .i64 (q + 1)))).size = N := by simp [HP.out.1]
      have g1_2 : ∃ u, w1.cell? ⟨g', k * 4 + 2, none⟩ = some u := ⟨_, (hB1.cell (k * 4 + 2)).trans (Array.getElem?_eq_getElem (by omega))⟩
      obtain ⟨u1, g1_2⟩ := g1_2
      have g1_3 : w1.cell? ⟨g', k * 4 + 3, none⟩ = some (.slice A1 xs[k].state.length c1) := by
        rw [hB1.cell, Array.getElem?_setIfInBounds_ne (by omega), Array.getElem?_setIfInBounds_ne (by omega), HP.out.2 _ (by omega), mixL_get k0 xs m k k 3 hlt (by omega), ← HM.out]; rfl
      have hK2 := hK1.tr (K1 w1 (k * 4 + 2) (.string (markS (q + 1 + 1).toNat)))
      have HK2 := hid hK2
      obtain ⟨a, b, hN, hO2⟩ := (hOk.kept hK2 (fun e => HAP.out k hlt (by rw [HM.out]; exact e))).nar
      have hN' := hN
      clear HO hOk
      have HO := hid (show ∀ j, j < xs.length → Own lo hi _ 61 2 (m j) (mixF k0 xs k j).state.length (flat Setting.enc (mixF k0 xs k j).state) from fun j h => (HO'.out j h).kept hK2 (HAP.out j h))
      have hB2 := hB1.set_ (k * 4 + 2) (.string (markS (q + 1 + 1).toNat))
      clear K1 hK1 hK2 hN'
      have hB2' := hid hB2
      clear hB2 hB1
      have hz1 := hE1.size
      go_wp2_with fail
      refine (markSettingS _ _ a b _ _ _ hO2 (by omega) (by omega)).mono ?_
      rintro e w2 ⟨rfl, hO3, hK3⟩
      have HQ := hid (qAt_succ k0 xs k hlt)
      have HS := hid (And.intro (mkAt_len k0 xs k hlt) (And.intro (mixF_ne k0 xs k) (mixF_new k0 xs k)))
      go_wp2
      go_roundw
      case rel =>
        have hap : (Value.slice A1 xs[k].state.length c1).ownBlock ≠ some g' := fun e => HAP.out k hlt (by rw [HM.out]; exact e)
        refine ⟨k + 1, _, by omega, by go_num, rfl, hid ?_, hN.part hK3 ⟨_, hB2'.out, by simp [HP.out.1], one4 hlt hNN HP.out.1 HP.out.2 _ _ _ hq.out (by have := hq.out; omega) (by have := hq.out; congr 2; omega)⟩ hap, hid ?_, (hK.tr (HK2.out.more hlo hhi)).tr (hN.keep hK3)⟩
        · have := hq.out; have := HQ.out; omega
        · intro j hj
          by_cases hjk : j = k
          · subst hjk
            rw [HS.out.2.2, HS.out.1, HM.out]
            have e : (mkAt k0 xs j).state = markState (q + 1 + 1 + 1) xs[j].state.length := by
              unfold mkAt mkV; simp only; rw [stAt_get xs j hlt, ← hq.out]; congr 1; omega
            rw [e, flat_markState]
            exact hO3.wide hN (Nat.le_trans (Nat.le_trans hhw hK.size) (Nat.le_trans HK2.out.size hK3.size))
          · rw [HS.out.2.1 j hjk]
            exact (HO.out j hj).keptN hK3 hN (by rw [← HM.out]; exact HAM.out j k hj hlt hjk)
      case measure => simp [intOf]; omega
    · obtain rfl : k = xs.length := by omega
      have HE := hid (qAt_end k0 xs)
      go_wp2
      go_ret
      refine ⟨ret_int (by rw [hq.out, HE.out]), ⟨Nat.le_trans hhw hK.size, HT.out, mixL k0 xs m xs.length, mixL_end k0 xs m, ?_, ?_, ?_⟩, hK⟩
      · obtain ⟨cs, hB, hc1, hc2⟩ := hP
        rw [markVers_len]
        refine ⟨Nat.le_trans hhw hK.size, hn1, by show (flat Version.enc _).length = _; rw [flat_length Version.len, mixL_len]; rfl, .inr ⟨g', c, cs, rfl, hlo, hhi, hnc, hcm, hB, by rw [hc1]; exact HC.out, ?_⟩⟩
        apply List.ext_getElem?
        intro j
        show (cs.toList.take (xs.length * 4))[j]? = (flat Version.enc (mixL k0 xs m xs.length))[j]?
        rw [List.getElem?_take]
        split
        · rename_i hj; rw [← hc2 j hj]; simp
        · rename_i hj; rw [List.getElem?_eq_none (by rw [flat_length Version.len, mixL_len]; omega)]
      · intro p hp
        unfold mixL at hp
        obtain ⟨j, hj, rfl⟩ := List.mem_map.1 hp
        exact HO.out j (by simpa using hj)
      · rw [List.pairwise_cons]
        have hsn : (mixL k0 xs m xs.length).map Prod.snd = (List.range xs.length).map m := by unfold mixL; rw [List.map_map]; rfl
        rw [hsn]
        refine ⟨fun u hu => ?_, ?_⟩
        · obtain ⟨j, hj, rfl⟩ := List.mem_map.1 hu
          intro g2 e1 e2
          have : g2 = g' := by simp [Value.ownBlock] at e1; exact e1.symm
          subst this
          exact HAP.out j (by simpa using hj) e2
        · rw [List.pairwise_iff_getElem]
          intro i j h1 h2 hij
          rw [List.getElem_map, List.getElem_map, List.getElem_range, List.getElem_range]
          exact HAM.out i j (by simpa using h1) (by simpa using h2) (by omega)
set_option maxRecDepth 100000 in
theorem heldVersionS (k0 : Int) (lo hi : Nat) (v : Value) (xs : List Version) (w : World) (hv : SlV lo hi w v (markVers k0 xs)) (hn : xs.length ≤ 2097152 ∧ totN nV xs ≤ 2097152) (h0 : 0 < k0) (hk : k0 + 3 * (xs.length : Int) + 2 * (totN nV xs : Int) ≤ 1099511627776) :
    Calls Try.prog 44 #[v, .int .i64 k0] w fun e w' => e = .returned (.int .i64 (k0 + 3 * (xs.length : Int) + 2 * (totN nV xs : Int))) ∧ Ext w w' := by
  obtain ⟨ys, hys, hS, hin⟩ := hv.opn
  rw [markVers_len] at hS
  obtain ⟨hhi, _, A, c, rfl, hnc, hcm, hcell⟩ := hS
  have HY := hid hys
  obtain ⟨hn1, hn2⟩ := hn
  clear hys hv
  go_enter Try.func44, Try.ntmps44
  go_wp2
  go_loopw [1, 5] (fun kk i wr => ∃ (k : Nat) (q : Int), k ≤ xs.length ∧ i = .int .i64 k ∧ kk = .int .i64 q ∧ Hid (q = qAt k0 xs k) ∧ Ext w wr) (fun _ i _ => xs.length - (intOf i).toNat)
  case atStart => exact ⟨0, k0, by omega, rfl, rfl, hid (qAt_zero _ _).symm, Below.refl _ _⟩
  case round =>
    obtain ⟨k, q, hk2, rfl, rfl, hq, hE⟩ := hrel
    by_cases hlt : k < xs.length
    · have hqb : 0 < q ∧ q + 3 + 2 * (xs[k].state.length : Int) ≤ 1099511627776 := by
        have e := hq.out
        have := qAt_le k0 xs k (by omega)
        have := qAt_le k0 xs (k + 1) (by omega)
        have := qAt_succ k0 xs k hlt
        omega
      obtain ⟨hq1, hq3⟩ := hqb
      obtain ⟨b, off, rfl, hb1, hb2, hc⟩ := hcell (by omega)
      have hbw : b < w.heap.size := by omega
      obtain ⟨Au, cu, c0, c1, c2, c3, hu⟩ := Version.at_ HY.out hin hc (Below.refl _ w) hbw k (by rw [markVers_len]; exact hlt)
      clear hc
      have hgm : (markVers k0 xs)[k]'(by rw [markVers_len]; exact hlt) = mkV q xs[k].state.length := by
        unfold markVers; simp only [List.getElem_map, List.getElem_range]; unfold mkAt; rw [stAt_get xs k hlt, ← hq.out]
      rw [hgm] at c0 c1 c2 c3 hu
      have hsn : xs[k].state.length ≤ 2097152 := Nat.le_trans (totN_mem nV xs k hlt) hn2
      clear hgm
      simp only [mkV, markState_len, flat_markState] at c0 c1 c2 c3 hu
      rw [show q + 2 = q + 1 + 1 by omega] at c2
      rw [show q + 3 = q + 1 + 1 + 1 by omega] at hu
      generalize hnn : xs[k].state.length = n at *
      have HN := hid hnn
      clear hnn
      have h0' : ∀ W, Ext w W → W.cell? ⟨b, off + k * 4, none⟩ = some (.int .i64 q) := fun W hW => (hW.cell (p := ⟨b, _, none⟩) hbw).trans c0
      have h1' : ∀ W, Ext w W → W.cell? ⟨b, off + k * 4 + 1, none⟩ = some (.int .i64 (q + 1)) := fun W hW => (hW.cell (p := ⟨b, _, none⟩) hbw).trans c1
      have h2' : ∀ W, Ext w W → W.cell? ⟨b, off + k * 4 + 2, none⟩ = some (.string (markS (q + 1 + 1).toNat)) := fun W hW => (hW.cell (p := ⟨b, _, none⟩) hbw).trans c2
      have h3' : ∀ W, Ext w W → W.cell? ⟨b, off + k * 4 + 3, none⟩ = some (.slice Au n cu) := fun W hW => (hW.cell (p := ⟨b, _, none⟩) hbw).trans c3
      clear c0 c1 c2 c3
      have c0 := h0' wr hE
      have c1 := h1' wr hE
      have H3 := hid h3'
      clear h0' h1' h3'
      go_wp2
      go_region_held3 (fun W => Ext w W) (first | assumption | exact Ext.tr hE (Ext.drewN _ 1) | exact Ext.tr (by assumption) hE2) (first | (go_at_call 63; refine (markText _ _ (by omega) (by omega)).mono ?_; rintro e w2 ⟨rfl, hE2⟩))
      have hEn0 : Ext w w2 := by assumption
      clear hE2 h2' c0 c1
      replace hE := hEn0
      clear hEn0
      have c3 := H3.out w2 hE
      have HQ := hid (qAt_succ k0 xs k hlt)
      go_wp2_with (go_at_call 75; refine (heldSettingS _ n lo hi _ _ (hu.ext hE) (by omega) (by omega) (by omega)).mono ?_; rintro e w3 ⟨rfl, hE3⟩)
      go_roundw
      case rel => exact ⟨k + 1, _, by omega, by go_num, rfl, hid (by have := hq.out; have := HQ.out; have := HN.out; omega), Ext.tr hE hE3⟩
      case measure => simp [intOf]; omega
    · obtain rfl : k = xs.length := by omega
      have HE := hid (qAt_end k0 xs)
      go_wp2
      go_ret
      exact ⟨ret_int (by rw [hq.out, HE.out]), hE⟩
end Go.Proofs.Ythffakaddohlnaa
