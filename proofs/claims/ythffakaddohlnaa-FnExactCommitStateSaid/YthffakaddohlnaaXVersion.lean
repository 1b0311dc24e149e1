/- Version: its cells; the contracts of the laws' functions that measure, copy and compare a list of them. -/
import Derived.Test.YthffakaddohlnaaXSetting
import Derived.Test.YthffakaddohlnaaNest
namespace Go.Proofs.Ythffakaddohlnaa
set_option linter.unusedVariables false
open Go.RowKit
structure Version where
  number : Int
  parent : Int
  memo : ByteArray
  state : List Setting
def Version.enc (p : Version × Value) : List Value := [.int .i64 p.1.number, .int .i64 p.1.parent, .string p.1.memo, p.2]
theorem Version.len (p : Version × Value) : (Version.enc p).length = 4 := rfl
def nV : Nest Version := ⟨4, Version.enc, 2, fun x => x.state.length, fun x => flat Setting.enc x.state⟩
abbrev SlV (lo hi : Nat) (w : World) (v : Value) (xs : List Version) : Prop := SlN nV lo hi w v xs
abbrev OwnV (lo hi : Nat) (w : World) (v : Value) (xs : List Version) : Prop := OwnN nV 69 61 lo hi w v xs
theorem SlV.opn {lo hi : Nat} {w : World} {v : Value} {xs : List Version} (h : SlV lo hi w v xs) :
    ∃ ys : List (Version × Value), ys.map Prod.fst = xs ∧ Sl lo hi w 4 v xs.length (flat Version.enc ys) ∧ ∀ p ∈ ys, Sl lo hi w 2 p.2 p.1.state.length (flat Setting.enc p.1.state) := h
/-- the cells of the i-th version, in a later world; its state -/
theorem Version.at_ {xs : List Version} {ys : List (Version × Value)} (hys : ys.map Prod.fst = xs) {lo hi : Nat} {w W : World} {b off : Nat} (hin : ∀ p ∈ ys, Sl lo hi w 2 p.2 p.1.state.length (flat Setting.enc p.1.state))
    (hc : ∀ j u, (flat Version.enc ys)[j]? = some u → w.cell? ⟨b, off + j, none⟩ = some u) (hW : Ext w W) (hb : b < w.heap.size) (i : Nat) (hlt : i < xs.length) :
    ∃ A c, W.cell? ⟨b, off + i * 4, none⟩ = some (.int .i64 xs[i].number) ∧ W.cell? ⟨b, off + i * 4 + 1, none⟩ = some (.int .i64 xs[i].parent) ∧ W.cell? ⟨b, off + i * 4 + 2, none⟩ = some (.string xs[i].memo) ∧ W.cell? ⟨b, off + i * 4 + 3, none⟩ = some (.slice A xs[i].state.length c) ∧
      Sl lo hi W 2 (.slice A xs[i].state.length c) xs[i].state.length (flat Setting.enc xs[i].state) := by
  obtain ⟨hl, hg⟩ := fst_get hys
  have hiy : i < ys.length := by omega
  have hh := (bcell hW).1
  have hs := hin ys[i] (List.getElem_mem hiy)
  have e0 := (hh b (off + (i * 4 + 0)) hb).trans (cell_flat Version.len hc i hiy 0 _ (by omega) rfl)
  have e1 := (hh b (off + (i * 4 + 1)) hb).trans (cell_flat Version.len hc i hiy 1 _ (by omega) rfl)
  have e2 := (hh b (off + (i * 4 + 2)) hb).trans (cell_flat Version.len hc i hiy 2 _ (by omega) rfl)
  have e3 := (hh b (off + (i * 4 + 3)) hb).trans (cell_flat Version.len hc i hiy 3 _ (by omega) rfl)
  rw [hg i hiy hlt] at e0 e1 e2 hs
  have hs' := hs
  obtain ⟨_, _, A, c, he, _⟩ := hs
  rw [he] at e3 hs'
  exact ⟨A, c, e0, e1, e2, e3, hs'.ext hW⟩
def okV (x : Version) : Prop := x.memo.size ≤ maxLen ∧ ∀ s ∈ x.state, s.name.size ≤ maxLen
def smV (x : Version) : Prop := x.memo.size ≤ 1048576 ∧ ∀ s ∈ x.state, s.name.size ≤ 1048576
theorem szSettingS2 (xs : List Setting) (lo hi : Nat) (v : Value) (l : Int) (w : World) (hv : Sl lo hi w 2 v xs.length (flat Setting.enc xs)) (hs : ∀ x ∈ xs, x.name.size ≤ maxLen) (hl : 0 ≤ l ∧ l ≤ 1048576) :
    Calls Try.prog 12 #[v, .int .i64 l] w fun e w' => (∃ r, e = .returned (.int .i64 r) ∧ (0 ≤ r → r + xs.length ≤ l ∧ ∀ x ∈ xs, x.name.size ≤ 1048576)) ∧ Ext w w' := by
  obtain ⟨hhi, _, A, c, rfl, hnc, hcm, hcell⟩ := hv
  obtain ⟨hl1, hl2⟩ := hl
  unfold maxLen at hcm
  by_cases h0 : l - xs.length < 0
  · go_enter Try.func12, Try.ntmps12
    go_wp2
    go_ret
    exact ⟨⟨-1, rfl, by omega⟩, by go_tidy; go_grown⟩
  · go_enter Try.func12, Try.ntmps12
    go_wp2
    go_loopw [1, 5] (fun l' i wr => ∃ (k : Nat) (m : Int), k ≤ xs.length ∧ i = .int .i64 k ∧ l' = .int .i64 m ∧ (0 ≤ m ∧ m + xs.length ≤ l) ∧ Hid (∀ j (h : j < xs.length), j < k → (xs[j]).name.size ≤ 1048576) ∧ Ext w wr) (fun _ i _ => xs.length - (intOf i).toNat)
    case atStart => exact ⟨0, _, by omega, rfl, rfl, by omega, hid (fun j h hj => by omega), Below.refl _ _⟩
    case round =>
      obtain ⟨k, m, hk, rfl, rfl, ⟨hm0, hm1⟩, hall, hE⟩ := hrel
      by_cases hlt : k < xs.length
      · obtain ⟨b, off, rfl, hb1, hb2, hc⟩ := hcell (by omega)
        obtain ⟨c0, c1⟩ := Setting.cells hc k hlt
        have hcc := (bcell hE).1
        have hbw : b < w.heap.size := by omega
        have hsk : (xs[k]).name.size ≤ maxLen := hs _ (List.getElem_mem hlt)
        by_cases hz : szF m (xs[k]).name.size < 0
        · go_wp2_with (go_at_call 45; refine (szSetting xs[k] _ _ hsk ⟨hm0, by omega⟩).mono ?_; rintro e w2 ⟨rfl, hE2⟩)
          go_ret
          exact ⟨⟨-1, rfl, by omega⟩, Ext.tr hE hE2⟩
        · have hz1 := szF_bd m (xs[k]).name.size (by omega)
          go_wp2_with (go_at_call 45; refine (szSetting xs[k] _ _ hsk ⟨hm0, by omega⟩).mono ?_; rintro e w2 ⟨rfl, hE2⟩)
          go_roundw
          case rel => exact ⟨k + 1, _, by omega, by go_num, rfl, by omega, hid (fun j h hj => by rcases Nat.lt_succ_iff_lt_or_eq.1 hj with h1 | rfl; exact hall.out j h h1; omega), Ext.tr hE hE2⟩
          case measure => simp [intOf]; omega
      · go_wp2
        go_ret
        refine ⟨⟨m, rfl, fun _ => ⟨hm1, fun x hx => ?_⟩⟩, hE⟩
        obtain ⟨j, hj, rfl⟩ := List.getElem_of_mem hx
        exact hall.out j hj (by omega)
theorem szVersion (x : Version) (u : Value) (lo hi : Nat) (l : Int) (w : World) (hu : Sl lo hi w 2 u x.state.length (flat Setting.enc x.state)) (hs : okV x) (hl : 0 ≤ l ∧ l ≤ 1048576) :
    Calls Try.prog 52 #[.agg #[.int .i64 x.number, .int .i64 x.parent, .string x.memo, u], .int .i64 l] w fun e w' => (∃ r, e = .returned (.int .i64 r) ∧ (0 ≤ r → r + x.state.length ≤ l ∧ smV x)) ∧ Ext w w' := by
  obtain ⟨hl1, hl2⟩ := hl
  obtain ⟨hs1, hs2⟩ := hs
  unfold maxLen at hs1
  by_cases h0 : l - x.memo.size < 0
  · go_enter Try.func52, Try.ntmps52
    go_wp2
    go_ret
    exact ⟨⟨-1, rfl, by omega⟩, by go_tidy; go_grown⟩
  · go_enter Try.func52, Try.ntmps52
    go_wp2_with (go_at_call 12; refine (szSettingS2 x.state lo hi u _ _ (hu.ext (by go_tidy; go_grown)) hs2 ⟨by omega, by omega⟩).mono ?_; rintro e w1 ⟨⟨r, rfl, hr⟩, hE⟩)
    all_goals
      go_ret
      refine ⟨⟨_, rfl, ?_⟩, Ext.tr (by go_tidy; go_grown) hE⟩
      first
        | (intro; omega)
        | (intro h; obtain ⟨h1, h2⟩ := hr h; exact ⟨by omega, by omega, h2⟩)
theorem szVersionS (xs : List Version) (lo hi : Nat) (v : Value) (l : Int) (w : World) (hv : SlV lo hi w v xs) (hs : ∀ x ∈ xs, okV x) (hl : 0 ≤ l ∧ l ≤ 1048576) :
    Calls Try.prog 19 #[v, .int .i64 l] w fun e w' => (∃ r, e = .returned (.int .i64 r) ∧ (0 ≤ r → r ≤ 1048576 ∧ totN nV xs + xs.length ≤ 1048576 ∧ ∀ x ∈ xs, smV x)) ∧ Ext w w' := by
  obtain ⟨ys, hys, ⟨hhi, _, A, c, rfl, hnc, hcm, hcell⟩, hin⟩ := hv.opn
  have HY := hid hys
  clear hys hv
  obtain ⟨hl1, hl2⟩ := hl
  unfold maxLen at hcm
  by_cases h0 : l - xs.length < 0
  · go_enter Try.func19, Try.ntmps19
    go_wp2
    go_ret
    exact ⟨⟨-1, rfl, by omega⟩, by go_tidy; go_grown⟩
  · go_enter Try.func19, Try.ntmps19
    go_wp2
    go_loopw [1, 5] (fun l' i wr => ∃ (k : Nat) (m : Int), k ≤ xs.length ∧ i = .int .i64 k ∧ l' = .int .i64 m ∧ (0 ≤ m ∧ m + totN nV (xs.take k) + xs.length ≤ 1048576) ∧ Hid (∀ j (h : j < xs.length), j < k → smV xs[j]) ∧ Ext w wr) (fun _ i _ => xs.length - (intOf i).toNat)
    case atStart => exact ⟨0, _, by omega, rfl, rfl, by simp [totN]; omega, hid (fun j h hj => by omega), Below.refl _ _⟩
    case round =>
      obtain ⟨k, m, hk, rfl, rfl, ⟨hm0, hm1⟩, hall, hE⟩ := hrel
      by_cases hlt : k < xs.length
      · obtain ⟨b, off, rfl, hb1, hb2, hc⟩ := hcell (by omega)
        have hbw : b < w.heap.size := by omega
        obtain ⟨Au, cu, c0, c1, c2, c3, hu⟩ := Version.at_ HY.out hin hc hE hbw k hlt
        clear hc
        have hsk := hs _ (List.getElem_mem hlt)
        have HT := hid (totN_succ nV xs k hlt)
        go_wp2_with fail
        refine (szVersion xs[k] _ lo hi _ _ hu hsk ⟨hm0, by omega⟩).mono ?_
        rintro e w2 ⟨⟨r, rfl, hr⟩, hE2⟩
        by_cases hz : r < 0
        · go_wp2
          go_ret
          exact ⟨⟨-1, rfl, by omega⟩, Ext.tr hE hE2⟩
        · obtain ⟨hr1, hr2⟩ := hr (by omega)
          have hr0 : 0 ≤ r := by omega
          go_wp2
          go_roundw
          case rel => exact ⟨k + 1, _, by omega, by go_num, rfl, by have : totN nV (xs.take (k + 1)) = totN nV (xs.take k) + xs[k].state.length := HT.out; omega, hid (fun j h hj => by rcases Nat.lt_succ_iff_lt_or_eq.1 hj with h1 | rfl; exact hall.out j h h1; exact hr2), Ext.tr hE hE2⟩
          case measure => simp [intOf]; omega
      · obtain rfl : k = xs.length := by omega
        rw [List.take_length] at hm1
        go_wp2
        go_ret
        refine ⟨⟨m, rfl, fun _ => ⟨by omega, by omega, fun x hx => ?_⟩⟩, hE⟩
        obtain ⟨j, hj, rfl⟩ := List.getElem_of_mem hx
        exact hall.out j hj (by omega)
set_option maxRecDepth 100000 in
theorem toVersion (x : Version) (u : Value) (lo hi : Nat) (w : World) (hu : Sl lo hi w 2 u x.state.length (flat Setting.enc x.state)) (hn : x.state.length ≤ 1048576) :
    Calls Try.prog 53 #[.agg #[.int .i64 x.number, .int .i64 x.parent, .string x.memo, u]] w fun e w' => (∃ v', e = .returned (.agg #[.int .i64 x.number, .int .i64 x.parent, .string x.memo, v']) ∧ Own w.heap.size w'.heap.size w' 61 2 v' x.state.length (flat Setting.enc x.state)) ∧ Ext w w' := by
  go_enter Try.func53, Try.ntmps53
  go_wp2_with fail
  generalize hG : World.alloc _ _ = wz
  have hEz : Ext w wz := by rw [← hG]; exact Ext.tr (Ext.new _ _) (Ext.tr (Ext.new _ _) (Ext.new _ _))
  have hzz : w.heap.size + 2 < wz.heap.size := by rw [← hG]; simp
  have B1 : Blk wz (w.heap.size + 1 + 1) 69 #[.int .i64 x.number, .int .i64 x.parent, .string x.memo, .slice none 0 0] := by
    rw [← hG]
    have h1 := Blk.new ((w.alloc (.cells #[.int .i64 x.number, .int .i64 x.parent, .string x.memo, u] 67)).alloc (.cells #[.int .i64 0, .int .i64 0, .string ⟨#[]⟩, .slice none 0 0] 69)) 69 #[.int .i64 x.number, .int .i64 x.parent, .string x.memo, .slice none 0 0]
    simpa using h1
  have B0 : Blk wz (w.heap.size + 1) 69 #[.int .i64 0, .int .i64 0, .string ⟨#[]⟩, .slice none 0 0] := by
    rw [← hG]
    have h1 := (Blk.new (w.alloc (.cells #[.int .i64 x.number, .int .i64 x.parent, .string x.memo, u] 67)) 69 #[.int .i64 0, .int .i64 0, .string ⟨#[]⟩, .slice none 0 0]).ext (Ext.new _ (.cells #[.int .i64 x.number, .int .i64 x.parent, .string x.memo, .slice none 0 0] 69))
    simpa using h1
  clear hG
  refine (toSettingS x.state lo hi _ _ (hu.ext hEz) hn).mono ?_
  rintro e w1 ⟨⟨v', rfl, hO⟩, hE⟩
  have hl := hO.sl
  obtain ⟨_, _, A1, c1, rfl, _, _, _⟩ := hl
  have hz : wz.heap.size ≤ w1.heap.size := hE.size
  have B1' := B1.ext hE
  have B0' := B0.ext hE
  have k0 := B1'.cell 0
  have k1 := B1'.cell 1
  have k2 := B1'.cell 2
  have k3 := B1'.cell 3
  have kf := B1'.frozen
  have r0 := B0'.cell 0
  have r1 := B0'.cell 1
  have r2 := B0'.cell 2
  have r3 := B0'.cell 3
  have rf := B0'.frozen
  simp at k0 k1 k2 k3 r0 r1 r2 r3
  have K1 : KeepI (w.heap.size + 1 + 1) wz.heap.size w1 (w1.setCell ⟨w.heap.size + 1 + 1, 3, none⟩ (.slice A1 x.state.length c1)) := (KeepI.refl _ _ _).set_ (Nat.le_refl _) (by omega) _
  have B2 := B1'.set_ 3 (.slice A1 x.state.length c1)
  have B3 := ((((B0'.keep K1 (.inl (by omega))).set_ 0 (.int .i64 x.number)).set_ 1 (.int .i64 x.parent)).set_ 2 (.string x.memo)).set_ 3 (.slice A1 x.state.length c1)
  have K2 : ∀ (W : World) (m : Nat) (u : Value), KeepI w.heap.size wz.heap.size W (W.setCell ⟨w.heap.size + 1, m, none⟩ u) := fun W m u => (KeepI.refl _ _ _).set_ (by omega) (by omega) _
  have j0 := B3.cell 0
  have j1 := B3.cell 1
  have j2 := B3.cell 2
  have j3 := B3.cell 3
  simp at j0 j1 j2 j3
  have hl2 := ((((hO.keep (K1.more (by omega : w.heap.size ≤ _) (Nat.le_refl _)) (.inr (by omega))).keep (K2 _ 0 (.int .i64 x.number)) (.inr (by omega))).keep (K2 _ 1 (.int .i64 x.parent)) (.inr (by omega))).keep (K2 _ 2 (.string x.memo)) (.inr (by omega))).keep (K2 _ 3 (.slice A1 x.state.length c1)) (.inr (by omega))
  have hEE := (((((K1.more (by omega : w.heap.size ≤ _) (Nat.le_refl _)).tr (K2 _ 0 (.int .i64 x.number))).tr (K2 _ 1 (.int .i64 x.parent))).tr (K2 _ 2 (.string x.memo))).tr (K2 _ 3 (.slice A1 x.state.length c1))).ext (Ext.tr hEz hE) (Nat.le_refl _)
  have HB := hid B2
  clear K1 K2 B2 B3 B1' B0' B1 B0 hE hO
  go_wp2
  refine bodyPost_ret (v := .agg #[.int .i64 x.number, .int .i64 x.parent, .string x.memo, .slice A1 x.state.length c1]) (by simp [results, Try.results53, go_sem, j0, j1, j2, j3]) rfl ⟨⟨_, rfl, ?_⟩, hEE⟩
  exact hl2.more (by omega) (by simp [World.setCell]) (Nat.le_refl _)
theorem eqVersion (x : Version) (u u' : Value) (lo hi lo' hi' : Nat) (w : World) (hu : Sl lo hi w 2 u x.state.length (flat Setting.enc x.state)) (hu' : Sl lo' hi' w 2 u' x.state.length (flat Setting.enc x.state)) (hn : x.state.length ≤ 2097152) :
    Calls Try.prog 56 #[.agg #[.int .i64 x.number, .int .i64 x.parent, .string x.memo, u], .agg #[.int .i64 x.number, .int .i64 x.parent, .string x.memo, u']] w fun e w' => e = .returned (.bool true) ∧ Ext w w' := by
  go_enter Try.func56, Try.ntmps56
  go_wp2_with (go_at_call 16; refine (eqSettingS x.state lo hi lo' hi' u u' _ (hu.ext (by go_tidy; go_grown)) (hu'.ext (by go_tidy; go_grown)) hn).mono ?_; rintro e w1 ⟨rfl, hE⟩)
  go_ret
  exact ⟨rfl, Ext.tr (by go_tidy; go_grown) hE⟩
set_option maxRecDepth 100000 in
theorem eqVersionS (xs : List Version) (lo hi lo' hi' : Nat) (v v' : Value) (w : World) (hv : SlV lo hi w v xs) (hv' : SlV lo' hi' w v' xs) (hn : xs.length ≤ 2097152 ∧ totN nV xs ≤ 2097152) :
    Calls Try.prog 23 #[v, v'] w fun e w' => e = .returned (.bool true) ∧ Ext w w' := by
  obtain ⟨ys, hys, ⟨hhi, _, A, c, rfl, hnc, hcm, hcell⟩, hin⟩ := hv.opn
  obtain ⟨ys', hys', ⟨hhi', _, A', c', rfl, hnc', hcm', hcell'⟩, hin'⟩ := hv'.opn
  have HY := hid hys
  have HY' := hid hys'
  obtain ⟨hn1, hn2⟩ := hn
  clear hys hys' hv hv'
  go_enter Try.func23, Try.ntmps23
  go_wp2
  go_loopw [5] (fun i wr => ∃ (k : Nat), k ≤ xs.length ∧ i = .int .i64 k ∧ Ext w wr) (fun i _ => xs.length - (intOf i).toNat)
  case atStart => exact ⟨0, by omega, rfl, Below.refl _ _⟩
  case round =>
    obtain ⟨k, hk, rfl, hE⟩ := hrel
    by_cases hlt : k < xs.length
    · obtain ⟨b, off, rfl, hb1, hb2, hc⟩ := hcell (by omega)
      obtain ⟨b', off', rfl, hb1', hb2', hc'⟩ := hcell' (by omega)
      have hbw : b < w.heap.size := by omega
      have hbw' : b' < w.heap.size := by omega
      obtain ⟨Au, cu, c0, c1, c2, c3, hu⟩ := Version.at_ HY.out hin hc hE hbw k hlt
      obtain ⟨Bu, du, d0, d1, d2, d3, hu'⟩ := Version.at_ HY'.out hin' hc' hE hbw' k hlt
      clear hc hc'
      have hsn : xs[k].state.length ≤ 2097152 := Nat.le_trans (totN_mem nV xs k hlt) hn2
      have hki : (k : Int) < xs.length := by omega
      go_wp2
      go_still_tail 8, (by kernel_rfl)
      change wpList _ _ _ _ _ wr.drew
      have hE1 : Ext w wr.drew := Ext.tr hE (Ext.drewN wr 1)
      go_wp2_with (go_at_call 56; refine (eqVersion xs[k] _ _ lo hi lo' hi' _ (hu.ext (Ext.drewN wr 1)) (hu'.ext (Ext.drewN wr 1)) hsn).mono ?_; rintro e w2 ⟨rfl, hE2⟩)
      have hE3 := Ext.tr hE1 hE2
      go_roundw
      case rel => exact ⟨k + 1, by omega, by go_num, hE3⟩
      case measure => simp [intOf]; omega
    · go_wp2
      go_ret
      exact ⟨rfl, hE⟩
theorem infoVersion : (Try.prog.info? 69).map (fun i => (i.zero, i.size, i.bytes)) = some (some (.agg #[.int .i64 0, .int .i64 0, .string ⟨#[]⟩, .slice none 0 0]), 4, 56) := by kernel_rfl
set_option maxRecDepth 100000 in
theorem toVersionS (xs : List Version) (lo hi : Nat) (v : Value) (w : World) (hv : SlV lo hi w v xs) (hn : totN nV xs + xs.length ≤ 1048576) :
    Calls Try.prog 21 #[v] w fun e w' => (∃ v', e = .returned v' ∧ OwnV w.heap.size w'.heap.size w' v' xs) ∧ Ext w w' := by
  obtain ⟨ys, hys, ⟨hhi, _, A, c, rfl, hnc, hcm, hcell⟩, hin⟩ := hv.opn
  have HY := hid hys
  clear hys hv
  unfold maxLen at hcm
  have hmk := run_made 33 69 _ 4 56 Try.underlying33 infoVersion xs.length (by omega) (by unfold maxLen; omega)
  go_enter Try.func21, Try.ntmps21
  go_wp2
  clear hmk
  go_loopw [4] (fun i wr => ∃ (k : Nat) (zs : List (Version × Value)), k ≤ xs.length ∧ i = .int .i64 k ∧ Hid (zs.map Prod.fst = xs.take k) ∧ Part wr w.heap.size 69 (xs.length * 4) (k * 4) (flat Version.enc zs) ∧ Hid (∀ p ∈ zs, Own (w.heap.size + 1) wr.heap.size wr 61 2 p.2 p.1.state.length (flat Setting.enc p.1.state)) ∧ Hid ((zs.map Prod.snd).Pairwise Apart) ∧ Ext w wr ∧ w.heap.size < wr.heap.size) (fun i _ => xs.length - (intOf i).toNat)
  case atStart => exact ⟨0, [], by omega, rfl, hid rfl, (Part.zeros _ _ _ _ _ _).to (by omega), hid (fun p hp => absurd hp (by simp)), hid (by simp), Ext.new _ _, by simp⟩
  case round =>
    obtain ⟨k, zs, hk, rfl, HZ, hP, HO, HA, hE, hlo⟩ := hrel
    by_cases hlt : k < xs.length
    · obtain ⟨b, off, rfl, hb1, hb2, hc⟩ := hcell (by omega)
      have hbw : b < w.heap.size := by omega
      obtain ⟨Au, cu, c0, c1, c2, c3, hu⟩ := Version.at_ HY.out hin hc hE hbw k hlt
      clear hc
      have hsn : xs[k].state.length ≤ 1048576 := by have : xs[k].state.length ≤ totN nV xs := totN_mem nV xs k hlt; omega
      go_wp2_with fail
      refine (toVersion xs[k] _ lo hi _ hu hsn).mono ?_
      rintro e w2 ⟨⟨u2, rfl, hO⟩, hE2⟩
      have hl := hO.sl
      obtain ⟨_, _, A1, c1', rfl, _, _, _⟩ := hl
      have hB := hP.ext hE2
      obtain ⟨u0, g0⟩ := hB.cell (k * 4) (by omega)
      obtain ⟨u1, g1⟩ := hB.cell (k * 4 + 1) (by omega)
      obtain ⟨u2, g2⟩ := hB.cell (k * 4 + 2) (by omega)
      obtain ⟨u3, g3⟩ := hB.cell (k * 4 + 3) (by omega)
      have f0 := hB.frozen
      have hE3 := Ext.tr hE hE2
      have hz2 := hE2.size
      clear c0 c1 c2 c3
      go_wp2
      have K2 : ∀ (W : World) (m : Nat) (u : Value), KeepI w.heap.size (w.heap.size + 1) W (W.setCell ⟨w.heap.size, m, none⟩ u) := fun W m u => (KeepI.refl _ _ _).set_ (by omega) (by omega) _
      have hlz : zs.length = k := by have := congrArg List.length HZ.out; simpa [Nat.min_eq_left hk] using this
      have ez := fun j (hj : j < 4) => flat_app_at Version.len zs (xs[k], .slice A1 xs[k].state.length c1') j hj
      rw [hlz] at ez
      have KK := (((K2 w2 (k * 4) (.int .i64 xs[k].number)).tr (K2 _ (k * 4 + 1) (.int .i64 xs[k].parent))).tr (K2 _ (k * 4 + 2) (.string xs[k].memo))).tr (K2 _ (k * 4 + 3) (.slice A1 xs[k].state.length c1'))
      go_roundw
      case rel =>
        refine ⟨k + 1, zs ++ [(xs[k], .slice A1 xs[k].state.length c1')], by omega, by go_num, hid ?_, ((((((hB.list (fun j hj => flat_app_get Version.len zs _ j (by omega))).set_ (by omega) (ez 0 (by omega))).set_ (by omega) (ez 1 (by omega))).set_ (by omega) (ez 2 (by omega))).set_ (by omega) (ez 3 (by omega))).to (by omega)), hid ?_, hid ?_, KK.ext hE3 (Nat.le_refl _), Nat.lt_of_lt_of_le hlo (Nat.le_trans hz2 KK.size)⟩
        · rw [List.map_append, HZ.out, List.take_succ_eq_append_getElem hlt]; rfl
        · intro p hp
          rw [List.mem_append] at hp
          rcases hp with hp | hp
          · exact (((HO.out p hp).ext hE2).keep KK (.inr (Nat.le_refl _))).more (Nat.le_refl _) (Nat.le_trans hz2 KK.size) (Nat.le_refl _)
          · simp at hp; subst hp
            exact (hO.keep KK (.inr (by omega))).more (by omega) KK.size (Nat.le_refl _)
        · rw [List.map_append, List.pairwise_append]
          refine ⟨HA.out, by simp, fun a ha b hb => ?_⟩
          simp at hb; subst hb
          obtain ⟨p, hp, rfl⟩ := List.mem_map.1 ha
          exact (HO.out p hp).apart hO (.inl (Nat.le_refl _))
      case measure => simp [intOf]; omega
    · obtain rfl : k = xs.length := by omega
      go_wp2
      go_ret
      have hz := HZ.out
      rw [List.take_length] at hz
      have hzl : zs.length = xs.length := by rw [← hz]; simp
      have ho := hP.ownF (by omega) (by rw [flat_length Version.len, hzl])
      refine ⟨⟨_, rfl, Nat.le_refl _, ⟨by omega, by omega⟩, zs, hz, ho.more (Nat.le_refl _) hlo (Nat.le_refl _), fun p hp => (HO.out p hp).more (by omega) (Nat.le_refl _) (Nat.le_refl _), ?_⟩, hE⟩
      rw [List.pairwise_cons]
      refine ⟨fun u hu => ?_, HA.out⟩
      obtain ⟨p, hp, rfl⟩ := List.mem_map.1 hu
      exact ho.apart (HO.out p hp) (.inl (Nat.le_refl _))
end Go.Proofs.Ythffakaddohlnaa
