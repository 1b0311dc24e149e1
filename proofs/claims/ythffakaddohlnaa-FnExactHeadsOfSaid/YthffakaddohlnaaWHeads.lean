/- Contracts of HeadsOf in both packages. -/
import Derived.Test.YthffakaddohlnaaVHist
import Derived.Test.YthffakaddohlnaaAnyL
import Derived.Test.YthffakaddohlnaaNums
namespace Go.Proofs.Ythffakaddohlnaa
set_option linter.unusedVariables false
open Go.RowKit
def hasPar (xs : List Version) (n : Int) : Bool := xs.any fun x => decide (x.parent = n)
def headAt (xs : List Version) (x : Version) : Bool := !hasPar xs x.number
def headsTo (xs : List Version) (k : Nat) : List Int := ((xs.take k).filter (headAt xs)).map Version.number
theorem headsTo_yes (xs : List Version) (k : Nat) (h : k < xs.length) (hp : hasPar xs xs[k].number = false) : headsTo xs (k + 1) = headsTo xs k ++ [xs[k].number] := by
  unfold headsTo; rw [List.take_succ_eq_append_getElem h, List.filter_append, List.map_append]; simp [headAt, hp]
theorem headsTo_no (xs : List Version) (k : Nat) (h : k < xs.length) (hp : hasPar xs xs[k].number = true) : headsTo xs (k + 1) = headsTo xs k := by
  unfold headsTo; rw [List.take_succ_eq_append_getElem h, List.filter_append, List.map_append]; simp [headAt, hp]
theorem headsTo_len (xs : List Version) (k : Nat) : (headsTo xs k).length ≤ xs.length := by
  unfold headsTo; rw [List.length_map]
  exact Nat.le_trans (List.length_filter_le _ _) (by rw [List.length_take]; omega)
def headsR (xs : List Version) : List Int × Int := if histB xs then (headsTo xs xs.length, 0) else ([], 1)
theorem headsR_no {xs : List Version} (h : histB xs = false) : headsR xs = ([], 1) := by unfold headsR; rw [h]; rfl
theorem headsR_ok {xs : List Version} (h : histB xs = true) : headsR xs = (headsTo xs xs.length, 0) := by unfold headsR; rw [h]; rfl
theorem par_no {xs : List Version} {n : Int} (h : ∀ j (hj : j < xs.length), ¬ xs[j].parent = n) : hasPar xs n = false := any_no (fun j hj => by simpa using h j hj)
theorem par_yes {xs : List Version} {n : Int} (k : Nat) (hk : k < xs.length) (h : xs[k].parent = n) : hasPar xs n = true := List.any_eq_true.2 ⟨_, List.getElem_mem hk, by simpa using h⟩
/-- no version up to k has the parent n -/
def noPar (xs : List Version) (n : Int) (k : Nat) : Bool := !hasPar (xs.take k) n
theorem noPar_succ {xs : List Version} (n : Int) (k : Nat) (hk : k < xs.length) : noPar xs n (k + 1) = (noPar xs n k && !decide (xs[k].parent = n)) := by
  unfold noPar hasPar; rw [List.take_succ_eq_append_getElem hk, List.any_append]; simp
theorem noPar_end (xs : List Version) (n : Int) : noPar xs n xs.length = !hasPar xs n := by unfold noPar; rw [List.take_length]
set_option maxRecDepth 100000 in
set_option maxHeartbeats 1000000 in
theorem specHeadsOf (xs : List Version) (lo hi : Nat) (v : Value) (w : World) (hv : SlV lo hi w v xs) (hs : ∀ x ∈ xs, okV x) (hn : totN nV xs + xs.length ≤ 1048576) :
    Calls Try.prog 34 #[v] w fun e w' => (∃ v', e = .returned (.tuple #[v', .int .i64 (headsR xs).2]) ∧ Own w.heap.size w'.heap.size w' 2 1 v' (headsR xs).1.length (flat encI (headsR xs).1)) ∧ Ext w w' := by
  cases h1 : histB xs
  · have HQ := hid (headsR_no h1)
    go_enter Try.func34, Try.ntmps34
    go_wp2_with (go_at_call 57; refine (cv (l27Ok xs lo hi v _ hv hs hn) (vb h1)).mono ?_; rintro e w1 ⟨rfl, hE⟩)
    go_ret2
    exact ⟨⟨_, by rw [HQ.out]; rfl, by rw [HQ.out]; exact Own.nil _ _ hE⟩, hE⟩
  have HQ := hid (headsR_ok h1)
  have h32 := hist_len h1
  have hv0 := hv
  obtain ⟨ps, hps, ⟨hhi, _, A, c, rfl, hnc, hcm, hcell⟩, hin⟩ := hv0.opn
  have HP := hid hps
  clear hps
  go_enter Try.func34, Try.ntmps34
  go_wp2_with (go_at_call 57; refine (cv (l27Ok xs lo hi _ _ hv hs hn) (vb h1)).mono ?_; rintro e w1 ⟨rfl, hE⟩)
  have hz := hE.size
  go_loopw [4, 5, 6, 7] (fun u i _ _ wr => ∃ (k : Nat), k ≤ xs.length ∧ i = .int .i64 k ∧ wr.ownsRow w.heap.size 2 1 u (headsTo xs k).length (flat encI (headsTo xs k)) ∧ Ext w wr) (fun _ i _ _ _ => xs.length - (intOf i).toNat)
  case atStart => exact ⟨0, by omega, rfl, own_empty _ _ _ _ hz, Ext.tr hE (Ext.new _ _)⟩
  case round =>
    obtain ⟨k, hk, rfl, hown, hE3⟩ := hrel
    by_cases hlt : k < xs.length
    · obtain ⟨b, off, rfl, hb1, hb2, hc⟩ := hcell (by omega)
      have hbw : b < w.heap.size := by omega
      have hcc := hid (fun j (hj : j < xs.length) (W : World) (hW : Ext w W) => Version.at_ HP.out hin hc hW hbw j hj)
      clear hcell hc
      obtain ⟨Au, cu, c0, _, _, _, _⟩ := hcc.out k hlt wr hE3
      have hown' := hid hown
      clear hown
      have HY := hid (headsTo_yes xs k hlt)
      have HNn := hid (headsTo_no xs k hlt)
      generalize hnn : xs[k].number = n at *
      have HN := hid hnn
      clear hnn
      have hki : (k : Int) < xs.length := by omega
      go_wp2
      obtain ⟨wo, rfl⟩ : ∃ wo : World, wo = wr := ⟨_, rfl⟩
      go_loopw [6, 7] (fun h j wr2 => ∃ (m : Nat), m ≤ xs.length ∧ j = .int .i64 m ∧ h = .bool (noPar xs n m) ∧ Hid (wr2.ownsRow w.heap.size 2 1 u4 (headsTo xs k).length (flat encI (headsTo xs k))) ∧ Ext w wr2) (fun _ j _ => xs.length - (intOf j).toNat)
      case atStart => exact ⟨0, by omega, rfl, by simp [noPar, hasPar], hown', hE3⟩
      case round =>
        clear c0 hE3 hown'
        obtain ⟨m, hm, rfl, rfl, hown, hE3⟩ := hrel
        obtain ⟨_, _, c0, _, _, _, _⟩ := hcc.out k hlt wr hE3
        rw [HN.out] at c0
        by_cases hlm : m < xs.length
        · obtain ⟨Am, cm, _, d1, _, _, _⟩ := hcc.out m hlm wr hE3
          have hmi : (m : Int) < xs.length := by omega
          have HS := hid (noPar_succ (xs := xs) n m hlm)
          cases hnp : noPar xs n m
          · have HB := hid (show noPar xs n (m + 1) = false by rw [HS.out, hnp]; rfl)
            go_wp2
            go_quiet (fail)
            go_wp2
            go_roundw
            case rel => exact ⟨m + 1, by omega, by go_num, by rw [HB.out], hid (ownD hown.out _), Ext.tr hE3 (Ext.drewN _ _)⟩
            case measure => simp [intOf]; omega
          · by_cases hpn : xs[m].parent = n
            · have HB := hid (show noPar xs n (m + 1) = false by rw [HS.out, hpn]; simp)
              rw [hpn] at d1
              clear hpn
              go_wp2
              go_quiet (fail)
              go_wp2
              go_roundw
              case rel => exact ⟨m + 1, by omega, by go_num, by rw [HB.out], hid (ownD hown.out _), Ext.tr hE3 (Ext.drewN _ _)⟩
              case measure => simp [intOf]; omega
            · have HB := hid (show noPar xs n (m + 1) = true by rw [HS.out, hnp]; simp [hpn])
              have hb : (xs[m].parent != n) = true := by simp [hpn]
              go_wp2
              go_quiet (fail)
              go_wp2
              go_roundw
              case rel => exact ⟨m + 1, by omega, by go_num, by rw [HB.out], hid (ownD hown.out _), Ext.tr hE3 (Ext.drewN _ _)⟩
              case measure => simp [intOf]; omega
        · obtain rfl : m = xs.length := by omega
          have HE := hid (noPar_end xs n)
          have hown2 := hown.out
          have hz3 := hE3.size
          have hil := headsTo_len xs k
          clear hown
          cases hnp : noPar xs n xs.length
          · have HX := hid (HNn.out (by have := HE.out; rw [hnp] at this; simpa using this.symm))
            go_wp2
            go_roundw
            case rel => exact ⟨k + 1, by omega, by go_num, by rw [HX.out]; exact hown2, hE3⟩
            case measure => simp [intOf]; omega
          · have HX := hid (HY.out (by have := HE.out; rw [hnp] at this; simpa using this.symm))
            go_wp2_with (at_builtin; refine wp_append1 wr rfl (.tmp 39) (.tmp 45) _ rfl w.heap.size 2 1 8 _ Try.underlying47 infoInt rfl (by omega) (by omega) _ _ _ hown2 rfl [.int .i64 n] rfl (by simp [Value.oneCell']) _ rfl rfl (by omega) hz3 ?_; intro v' w' ho' hb')
            go_roundw
            case rel => exact ⟨k + 1, by omega, by go_num, by rw [HX.out, flat_snoc, List.length_append]; exact ho', hE3.trans hb'⟩
            case measure => simp [intOf]; omega
    · obtain rfl : k = xs.length := by omega
      have hln := headsTo_len xs xs.length
      go_wp2
      go_ret2
      exact ⟨⟨_, by rw [HQ.out]; rfl, by rw [HQ.out]; exact Own.of hown (by show (headsTo xs xs.length).length ≤ _; omega)⟩, hE3⟩
theorem parOf (x : Version) (u : Value) (n : Int) (g : Nat) (w : World) (hg : w.cell? ⟨g, 0, none⟩ = some (.int .i64 n)) (hgl : g < w.heap.size) :
    Calls Try.prog 69 #[.agg #[.int .i64 x.number, .int .i64 x.parent, .string x.memo, u], .pointer (some ⟨g, 0, none⟩)] w fun e w' => e = .returned (.bool (decide (x.parent = n))) ∧ Ext w w' := by
  go_enter Try.func69, Try.ntmps69
  go_wp2
  go_ret
  exact ⟨ret_bool (by rw [Bool.eq_iff_iff]; simp), by go_tidy; go_grown⟩
set_option maxRecDepth 100000 in
theorem idxPar (xs : List Version) (n : Int) (g : Nat) (lo hi : Nat) (v : Value) (w : World) (hg : w.cell? ⟨g, 0, none⟩ = some (.int .i64 n)) (hgl : g < w.heap.size) (hv : SlV lo hi w v xs) (hn : xs.length ≤ 1048576) :
    Calls Try.prog 83 #[v, .func (.func 69) #[] #[.pointer (some ⟨g, 0, none⟩)]] w fun e w' => idxP (hasPar xs n) e ∧ Ext w w' := by
  obtain ⟨ps, hps, ⟨hhi, _, A, c, rfl, hnc, hcm, hcell⟩, hin⟩ := hv.opn
  have HP := hid hps
  clear hps hv
  go_enter Try.func83, Try.ntmps83
  go_wp2
  go_loopw [8] (fun i wr => ∃ k : Nat, k ≤ xs.length ∧ i = .int .i64 k ∧ Hid (∀ j (h : j < xs.length), j < k → ¬ xs[j].parent = n) ∧ Ext w wr) (fun i _ => xs.length - (intOf i).toNat)
  case atStart => exact ⟨0, Nat.zero_le _, rfl, hid (fun j h hj => absurd hj (by omega)), Below.refl _ _⟩
  case round =>
    obtain ⟨k, hk, rfl, hall, hE⟩ := hrel
    by_cases hlt : k < xs.length
    · obtain ⟨b', off, rfl, hb1, hb2, hc⟩ := hcell (by omega)
      have hbw : b' < w.heap.size := by omega
      obtain ⟨Au, cu, c0, c1, c2, c3, hu⟩ := Version.at_ HP.out hin hc hE hbw k hlt
      have hgr : wr.cell? ⟨g, 0, none⟩ = some (.int .i64 n) := ((bcell hE).1 _ _ hgl).trans hg
      have hgz : g < wr.heap.size := Nat.lt_of_lt_of_le hgl hE.size
      clear hc hcell
      by_cases hp : xs[k].parent = n
      · have HY := hid (par_yes k hlt hp)
        have hp2 : decide (xs[k].parent = n) = true := by simpa using hp
        clear hp
        go_wp2_with (go_at_call 69; refine (cv (parOf xs[k] _ n g _ hgr hgz) (vb hp2)).mono ?_; rintro e w2 ⟨rfl, hE2⟩)
        go_ret
        exact ⟨idxP_yes k HY.out, Ext.tr hE hE2⟩
      · have hp2 : decide (xs[k].parent = n) = false := by simpa using hp
        go_wp2_with (go_at_call 69; refine (cv (parOf xs[k] _ n g _ hgr hgz) (vb hp2)).mono ?_; rintro e w2 ⟨rfl, hE2⟩)
        go_roundw
        case rel => exact ⟨k + 1, by omega, by go_num, hid (fun j h hj => by rcases Nat.lt_succ_iff_lt_or_eq.1 hj with h1 | rfl; exact hall.out j h h1; exact hp), Ext.tr hE hE2⟩
        case measure => simp [intOf]; omega
    · obtain rfl : k = xs.length := by omega
      go_wp2
      go_ret
      exact ⟨idxP_no (par_no fun j h => hall.out j h h), hE⟩
theorem anyPar (xs : List Version) (n : Int) (g : Nat) (lo hi : Nat) (v : Value) (w : World) (hg : w.cell? ⟨g, 0, none⟩ = some (.int .i64 n)) (hgl : g < w.heap.size) (hv : SlV lo hi w v xs) (hn : xs.length ≤ 1048576) :
    Calls Try.prog 68 #[v, .func (.func 69) #[] #[.pointer (some ⟨g, 0, none⟩)]] w fun e w' => e = .returned (.bool (hasPar xs n)) ∧ Ext w w' := by
  go_enter Try.func68, Try.ntmps68
  go_wp2_with (go_at_call 83; refine (idxPar xs n g lo hi v _ hg hgl hv hn).mono ?_; rintro e w' ⟨⟨r, rfl, hr⟩, hE⟩)
  all_goals
    go_ret
    refine ⟨ret_bool ?_, hE⟩
    go_tidy
    cases hA : hasPar xs n <;> rw [hA] at hr <;> simp at hr ⊢ <;> omega
set_option maxRecDepth 100000 in
set_option maxHeartbeats 1000000 in
theorem implHeadsOf (xs : List Version) (lo hi : Nat) (v : Value) (w : World) (hv : SlV lo hi w v xs) (hs : ∀ x ∈ xs, okV x) (hn : totN nV xs + xs.length ≤ 1048576) :
    Calls Try.prog 35 #[v] w fun e w' => (∃ v', e = .returned (.tuple #[v', .int .i64 (headsR xs).2]) ∧ Own w.heap.size w'.heap.size w' 2 1 v' (headsR xs).1.length (flat encI (headsR xs).1)) ∧ Ext w w' := by
  cases h1 : histB xs
  · have HQ := hid (headsR_no h1)
    go_enter Try.func35, Try.ntmps35
    go_wp2_with (go_at_call 25; refine (cv (implValidHistory xs lo hi v _ hv hs hn) (vb h1)).mono ?_; rintro e w1 ⟨rfl, hE⟩)
    go_ret2
    exact ⟨⟨_, by rw [HQ.out]; rfl, by rw [HQ.out]; exact Own.nil _ _ hE⟩, hE⟩
  have HQ := hid (headsR_ok h1)
  have h32 := hist_len h1
  have hv0 := hv
  obtain ⟨ps, hps, ⟨hhi, _, A, c, rfl, hnc, hcm, hcell⟩, hin⟩ := hv0.opn
  have HP := hid hps
  clear hps
  go_enter Try.func35, Try.ntmps35
  go_wp2_with (go_at_call 25; refine (cv (implValidHistory xs lo hi _ _ hv hs hn) (vb h1)).mono ?_; rintro e w1 ⟨rfl, hE⟩)
  have hz := hE.size
  go_loopw [4, 12] (fun u i wr => ∃ (k : Nat), k ≤ xs.length ∧ i = .int .i64 k ∧ wr.ownsRow w.heap.size 2 1 u (headsTo xs k).length (flat encI (headsTo xs k)) ∧ Ext w wr) (fun _ i _ => xs.length - (intOf i).toNat)
  case atStart => exact ⟨0, by omega, rfl, World.ownsRow_nil _ _ _ _, hE⟩
  case round =>
    obtain ⟨k, hk, rfl, hown, hE3⟩ := hrel
    by_cases hlt : k < xs.length
    · obtain ⟨b, off, rfl, hb1, hb2, hc⟩ := hcell (by omega)
      have hbw : b < w.heap.size := by omega
      obtain ⟨Au, cu, c0, c1, c2, c3, _⟩ := Version.at_ HP.out hin hc hE3 hbw k hlt
      clear hc hcell
      have HY := hid (headsTo_yes xs k hlt)
      have HNn := hid (headsTo_no xs k hlt)
      have hil := headsTo_len xs k
      generalize xs[k] = x at *
      go_wp2_with fail
      generalize hA : wr.alloc _ = B
      have hEB : Ext wr B := by rw [← hA]; exact Ext.new _ _
      have hBk : Blk B wr.heap.size 69 #[.int .i64 x.number, .int .i64 x.parent, .string x.memo, .slice Au x.state.length cu] := by rw [← hA]; exact Blk.new _ _ _
      have hBz : wr.heap.size < B.heap.size := by rw [← hA]; simp
      have huB := ownE hown hEB
      clear hA c0 c1 c2 c3 hown
      have hEw := Ext.tr hE3 hEB
      cases hp : hasPar xs x.number
      · refine (cv (anyPar xs x.number wr.heap.size lo hi _ _ (hBk.cell 0) hBz (hv.ext hEw) (by omega)) (vb hp)).mono ?_
        rintro e w3 ⟨rfl, hE4⟩
        have x0 := (hBk.ext hE4).cell 0
        simp at x0
        have hu3 := ownE huB hE4
        have hE5 := Ext.tr hEw hE4
        have hz5 := hE5.size
        have HX := hid (HY.out hp)
        clear hBk huB hp
        go_wp2_with (at_builtin; refine wp_append1 w3 rfl (.tmp 20) (.tmp 23) _ rfl w.heap.size 2 1 8 _ Try.underlying47 infoInt rfl (by omega) (by omega) _ _ _ hu3 rfl [.int .i64 x.number] rfl (by simp [Value.oneCell']) _ rfl rfl (by omega) hz5 ?_; intro v' w' ho' hb')
        go_roundw
        case rel => exact ⟨k + 1, by omega, by go_num, by rw [HX.out, flat_snoc, List.length_append]; exact ho', hE5.trans hb'⟩
        case measure => simp [intOf]; omega
      · refine (cv (anyPar xs x.number wr.heap.size lo hi _ _ (hBk.cell 0) hBz (hv.ext hEw) (by omega)) (vb hp)).mono ?_
        rintro e w3 ⟨rfl, hE4⟩
        have hu3 := ownE huB hE4
        have HX := hid (HNn.out hp)
        clear hBk huB hp
        go_wp2
        go_roundw
        case rel => exact ⟨k + 1, by omega, by go_num, by rw [HX.out]; exact hu3, Ext.tr hEw hE4⟩
        case measure => simp [intOf]; omega
    · obtain rfl : k = xs.length := by omega
      have hln := headsTo_len xs xs.length
      go_wp2
      go_ret2
      exact ⟨⟨_, by rw [HQ.out]; rfl, by rw [HQ.out]; exact Own.of hown (by show (headsTo xs xs.length).length ≤ _; omega)⟩, hE3⟩
end Go.Proofs.Ythffakaddohlnaa
