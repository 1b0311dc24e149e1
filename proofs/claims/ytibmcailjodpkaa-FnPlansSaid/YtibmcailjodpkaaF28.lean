/- Contracts of l28Of, l28Ask, drillsOf. -/
import Derived.Test.YtibmcailjodpkaaE28
namespace Go.Proofs.Ytibmcailjodpkaa
set_option linter.unusedVariables false
open Go.RowKit
def ofP (xs : List Drill) (crew : ByteArray) : Nat → Bool := tst xs (fun x => x.crew.toList == crew.toList)
theorem str_inj {a b : ByteArray} (h : a.toList = b.toList) : a = b := by
  rw [ByteArray.toList_eq, ByteArray.toList_eq] at h
  obtain ⟨⟨x⟩⟩ := a; obtain ⟨⟨y⟩⟩ := b; simpa using h
set_option maxRecDepth 100000 in
set_option maxHeartbeats 1000000 in
theorem l28Of (xs : List Drill) (crew : ByteArray) (lo hi : Nat) (v : Value) (w : World) (hv : Sl lo hi w 5 v xs.length (flat Drill.enc xs)) (hn : xs.length ≤ 1048576) :
    Calls Try.prog 48 #[v, .string crew] w fun e w' => (∃ v', e = .returned v' ∧ Own w.heap.size w'.heap.size w' 2 1 v' (ixs (ofP xs crew) xs.length).length (flat encI (ixs (ofP xs crew) xs.length))) ∧ Ext w w' := by
  obtain ⟨hhi, _, A, c, rfl, hnc, hcm, hcell⟩ := hv
  go_enter Try.func48, Try.ntmps48
  go_wp2
  go_loopw [5, 6] (fun u i wr => ∃ (k : Nat), k ≤ xs.length ∧ i = .int .i64 k ∧ wr.ownsRow w.heap.size 2 1 u (ixs (ofP xs crew) k).length (flat encI (ixs (ofP xs crew) k)) ∧ Ext w wr) (fun _ i _ => xs.length - (intOf i).toNat)
  case atStart => exact ⟨0, by omega, rfl, own_empty _ _ _ _ (Nat.le_refl _), Ext.new _ _⟩
  case round =>
    obtain ⟨k, hk, rfl, hown, hE3⟩ := hrel
    by_cases hlt : k < xs.length
    · obtain ⟨b, off, rfl, hb1, hb2, hc⟩ := hcell (by omega)
      have hbw : b < w.heap.size := by omega
      obtain ⟨c0, c1, c2, c3, c4⟩ := Drill.at_of hc hE3 hbw k hlt
      clear hc
      have htst := tst_at xs (fun x => x.crew.toList == crew.toList) k hlt
      have hz3 := hE3.size
      have hil := ixs_len (ofP xs crew) k
      by_cases hd : xs[k].crew.toList = crew.toList
      · have HX := hid (ixs_yes (ofP xs crew) k (by unfold ofP; rw [htst]; simp [hd]))
        clear htst
        have hdb : (xs[k].crew.toList == crew.toList) = true := by simp [hd]
        have hce : xs[k].crew = crew := str_inj hd
        rw [hce] at c1
        go_wp2_with (at_builtin; refine wp_append1 wr rfl (.tmp 21) (.tmp 23) _ rfl w.heap.size 2 1 8 _ Try.underlying32 infoInt rfl (by omega) (by omega) _ _ _ hown rfl [.int .i64 k] rfl (by simp [Value.oneCell']) _ rfl rfl (by omega) hz3 ?_; intro v' w' ho' hb')
        go_roundw
        case rel => exact ⟨k + 1, by omega, by go_num, by rw [HX.out, flat_snoc, List.length_append]; exact ho', hE3.trans hb'⟩
        case measure => simp [intOf]; omega
      · have HX := hid (ixs_no (ofP xs crew) k (by unfold ofP; rw [htst]; simp [hd]))
        clear htst
        have hdb : (xs[k].crew.toList == crew.toList) = false := by simp [hd]
        have hdn : ¬ xs[k].crew = crew := fun h => hd (by rw [h])
        go_wp2
        go_roundw
        case rel => exact ⟨k + 1, by omega, by go_num, by rw [HX.out]; exact hown, hE3⟩
        case measure => simp [intOf]; omega
    · obtain rfl : k = xs.length := by omega
      go_wp2
      go_ret
      exact ⟨⟨_, rfl, Own.of hown (by have := ixs_len (ofP xs crew) xs.length; omega)⟩, hE3⟩
theorem ixs_at (p : Nat → Bool) (n j : Nat) (h : j < (ixs p n).length) : ∃ i : Nat, i < n ∧ (ixs p n)[j] = (i : Int) := by
  have hm : (ixs p n)[j] ∈ ixs p n := List.getElem_mem h
  unfold ixs at hm
  rw [List.mem_map] at hm
  obtain ⟨a, ha, hb⟩ := hm
  rw [List.mem_filter, List.mem_range] at ha
  exact ⟨a, ha.1, hb.symm⟩
def ofIx (xs : List Drill) (crew : ByteArray) : List Int := ixs (ofP xs crew) xs.length
def askD (xs : List Drill) (crew : ByteArray) : Int := if drillsB xs then (if (ofIx xs crew).length = 0 then 3 else 0) else 1
theorem askD_no {xs : List Drill} (crew : ByteArray) (h : drillsB xs = false) : askD xs crew = 1 := by unfold askD; simp [h]
theorem askD_none {xs : List Drill} {crew : ByteArray} (h : drillsB xs = true) (h2 : (ofIx xs crew).length = 0) : askD xs crew = 3 := by unfold askD; simp [h, h2]
theorem askD_ok {xs : List Drill} {crew : ByteArray} (h : drillsB xs = true) (h2 : (ofIx xs crew).length ≠ 0) : askD xs crew = 0 := by unfold askD; simp [h, h2]
theorem l28Ask (xs : List Drill) (crew : ByteArray) (lo hi : Nat) (v : Value) (w : World) (hv : Sl lo hi w 5 v xs.length (flat Drill.enc xs)) (hs : ∀ x ∈ xs, x.crew.size ≤ maxLen) (hn : xs.length ≤ 1048576) :
    Calls Try.prog 47 #[v, .string crew] w fun e w' => e = .returned (.int .i64 (askD xs crew)) ∧ Ext w w' := by
  cases h1 : drillsB xs
  · have HQ := hid (askD_no crew h1)
    go_enter Try.func47, Try.ntmps47
    go_wp2_with (go_at_call 43; refine (cv (l28Ok xs lo hi v _ hv hs hn) (vb h1)).mono ?_; rintro e w1 ⟨rfl, hE⟩)
    go_ret
    exact ⟨ret_int HQ.out.symm, hE⟩
  have hb := ixs_len (ofP xs crew) xs.length
  by_cases h2 : (ofIx xs crew).length = 0
  · have HQ := hid (askD_none h1 h2)
    have H2 : ((ixs (ofP xs crew) xs.length).length : Int) = 0 := by unfold ofIx at h2; omega
    clear h2
    go_enter Try.func47, Try.ntmps47
    go_wp2_with (first | (go_at_call 43; refine (cv (l28Ok xs lo hi v _ hv hs hn) (vb h1)).mono ?_; rintro e w1 ⟨rfl, hE⟩) | (go_at_call 48; refine (l28Of xs crew _ _ _ _ (hv.ext hE) hn).mono ?_; rintro e w2 ⟨⟨v', rfl, hO⟩, hE2⟩; obtain ⟨hhi, _, A, c, rfl, hnc, hcm, hcell⟩ := hO.sl; clear hO hcell))
    go_ret
    exact ⟨ret_int HQ.out.symm, Ext.tr hE hE2⟩
  · have HQ := hid (askD_ok h1 h2)
    have H2 : ¬ ((ixs (ofP xs crew) xs.length).length : Int) = 0 := by unfold ofIx at h2; omega
    clear h2
    go_enter Try.func47, Try.ntmps47
    go_wp2_with (first | (go_at_call 43; refine (cv (l28Ok xs lo hi v _ hv hs hn) (vb h1)).mono ?_; rintro e w1 ⟨rfl, hE⟩) | (go_at_call 48; refine (l28Of xs crew _ _ _ _ (hv.ext hE) hn).mono ?_; rintro e w2 ⟨⟨v', rfl, hO⟩, hE2⟩; obtain ⟨hhi, _, A, c, rfl, hnc, hcm, hcell⟩ := hO.sl; clear hO hcell))
    go_ret
    exact ⟨ret_int HQ.out.symm, Ext.tr hE hE2⟩
def drillsOfR (xs : List Drill) (crew : ByteArray) : List Int := if drillsB xs then ofIx xs crew else []
theorem drillsOfR_no {xs : List Drill} (crew : ByteArray) (h : drillsB xs = false) : drillsOfR xs crew = [] := by unfold drillsOfR; simp [h]
theorem drillsOfR_ok {xs : List Drill} (crew : ByteArray) (h : drillsB xs = true) : drillsOfR xs crew = ixs (ofP xs crew) xs.length := by unfold drillsOfR ofIx; simp [h]
set_option maxRecDepth 100000 in
set_option maxHeartbeats 1000000 in
theorem drillsOf (xs : List Drill) (crew : ByteArray) (lo hi : Nat) (v : Value) (w : World) (hv : Sl lo hi w 5 v xs.length (flat Drill.enc xs)) (hs : ∀ x ∈ xs, x.crew.size ≤ maxLen) (hn : xs.length ≤ 1048576) :
    Calls Try.prog 49 #[v, .string crew] w fun e w' => (∃ v', e = .returned (.tuple #[v', .int .i64 (askD xs crew)]) ∧ Own w.heap.size w'.heap.size w' 2 1 v' (drillsOfR xs crew).length (flat encI (drillsOfR xs crew))) ∧ Ext w w' := by
  cases h1 : drillsB xs
  · have HQ := hid (askD_no crew h1)
    have HR := hid (drillsOfR_no crew h1)
    go_enter Try.func49, Try.ntmps49
    go_wp2_with (go_at_call 14; refine (cv (implValidDrills xs lo hi v _ hv hs hn) (vb h1)).mono ?_; rintro e w1 ⟨rfl, hE⟩)
    go_ret2
    exact ⟨⟨_, by rw [HQ.out]; rfl, by rw [HR.out]; exact Own.nil _ _ hE⟩, hE⟩
  have HR := hid (drillsOfR_ok crew h1)
  have hv0 := hv
  obtain ⟨hhi, _, A, c, rfl, hnc, hcm, hcell⟩ := hv0
  go_enter Try.func49, Try.ntmps49
  go_wp2_with (go_at_call 14; refine (cv (implValidDrills xs lo hi _ _ hv hs hn) (vb h1)).mono ?_; rintro e w1 ⟨rfl, hE⟩)
  have hz := hE.size
  go_loopw [6, 14] (fun u i wr => ∃ (k : Nat), k ≤ xs.length ∧ i = .int .i64 k ∧ wr.ownsRow w.heap.size 2 1 u (ixs (ofP xs crew) k).length (flat encI (ixs (ofP xs crew) k)) ∧ Ext w wr) (fun _ i _ => xs.length - (intOf i).toNat)
  case atStart => exact ⟨0, by omega, rfl, World.ownsRow_nil _ _ _ _, hE⟩
  case round =>
    obtain ⟨k, hk, rfl, hown, hE3⟩ := hrel
    by_cases hlt : k < xs.length
    · obtain ⟨b, off, rfl, hb1, hb2, hc⟩ := hcell (by omega)
      have hbw : b < w.heap.size := by omega
      obtain ⟨c0, c1, c2, c3, c4⟩ := Drill.at_of hc hE3 hbw k hlt
      clear hc
      have htst := tst_at xs (fun x => x.crew.toList == crew.toList) k hlt
      have hz3 := hE3.size
      have hil := ixs_len (ofP xs crew) k
      have hEn := Ext.new wr (.cells #[.int .i64 xs[k].day, .string xs[k].crew, .int .i64 xs[k].persons, .int .i64 xs[k].seconds, .int .i64 xs[k].missing] 52)
      have how := ownE hown hEn
      have hz4 := Nat.le_trans hz3 hEn.size
      by_cases hd : xs[k].crew.toList = crew.toList
      · have HX := hid (ixs_yes (ofP xs crew) k (by unfold ofP; rw [htst]; simp [hd]))
        clear htst
        have hdb : (xs[k].crew.toList == crew.toList) = true := by simp [hd]
        have HD := hid hd
        clear hd
        go_wp2_with (at_builtin; refine wp_append1x (wr.alloc (.cells #[.int .i64 xs[k].day, .string xs[k].crew, .int .i64 xs[k].persons, .int .i64 xs[k].seconds, .int .i64 xs[k].missing] 52)) (wr.heap.size + 1) (by simp) rfl (.tmp 23) (.tmp 25) _ rfl w.heap.size 2 1 8 _ Try.underlying32 infoInt rfl (by omega) (by omega) _ _ _ how rfl [.int .i64 k] rfl (by simp [Value.oneCell']) _ rfl rfl (by omega) hz4 ?_; intro v' w' ho' hb')
        go_roundw
        case rel => exact ⟨k + 1, by omega, by go_num, by rw [HX.out, flat_snoc, List.length_append]; exact ho', (Ext.tr hE3 (Ext.new _ _)).trans hb'⟩
        case measure => simp [intOf]; omega
      · have HX := hid (ixs_no (ofP xs crew) k (by unfold ofP; rw [htst]; simp [hd]))
        clear htst
        have hdb : (xs[k].crew.toList == crew.toList) = false := by simp [hd]
        have hdn : ¬ xs[k].crew = crew := fun h => hd (by rw [h])
        go_wp2
        go_roundw
        case rel => exact ⟨k + 1, by omega, by go_num, by rw [HX.out]; exact ownE hown (Ext.new _ _), Ext.tr hE3 (Ext.new _ _)⟩
        case measure => simp [intOf]; omega
    · obtain rfl : k = xs.length := by omega
      have hil := ixs_len (ofP xs crew) xs.length
      obtain ⟨_, _, A1, c1, rfl, _, _, _⟩ := Sl.of_own hown (by unfold maxLen; omega)
      have HO := hid hown
      clear hown
      by_cases h2 : (ofIx xs crew).length = 0
      · have HQ := hid (askD_none h1 h2)
        have H2 : ((ixs (ofP xs crew) xs.length).length : Int) = 0 := by unfold ofIx at h2; omega
        have HN : Hid (drillsOfR xs crew = []) := hid (by rw [HR.out]; exact List.eq_nil_of_length_eq_zero (by omega))
        clear h2
        go_wp2
        go_ret2
        exact ⟨⟨_, by rw [HQ.out]; rfl, by rw [HN.out]; exact Own.nil _ _ hE3⟩, hE3⟩
      · have HQ := hid (askD_ok h1 h2)
        have H2 : ¬ ((ixs (ofP xs crew) xs.length).length : Int) = 0 := by unfold ofIx at h2; omega
        clear h2
        go_wp2
        go_ret2
        exact ⟨⟨_, by rw [HQ.out]; rfl, by rw [HR.out]; exact Own.of HO.out (by omega)⟩, hE3⟩
end Go.Proofs.Ytibmcailjodpkaa
