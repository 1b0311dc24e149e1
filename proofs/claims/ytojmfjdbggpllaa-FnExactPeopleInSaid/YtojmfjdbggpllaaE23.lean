/- Contracts of AirNeeds in both packages. -/
import Derived.Test.YtojmfjdbggpllaaMJob
import Derived.Test.YtojmfjdbggpllaaApp
import Derived.Test.YtojmfjdbggpllaaNums
import Derived.Deep.OwnRows
import Derived.Deep.RegionLaw
import Derived.IntWalk
namespace Go.Proofs.Ytojmfjdbggpllaa
set_option linter.unusedVariables false
open Go.RowKit
def needJ (x : Job) : Int := 10 * x.people + 6 * x.power
theorem l23NeedX (b o : Nat) (x : Job) (w : World) (hp : 1 ≤ x.people ∧ x.people ≤ 40) (hq : 0 ≤ x.power ∧ x.power ≤ 500) (hx : Job.At w b o x) :
    Calls Try.prog 117 #[.pointer (some ⟨b, o, none⟩)] w fun e w' => e = .returned (.int .i64 (needJ x)) ∧ ∃ n, w' = w.drewN n := by
  obtain ⟨hp1, hp2⟩ := hp
  obtain ⟨hq1, hq2⟩ := hq
  obtain ⟨c0, c1, c2, c3⟩ := hx
  go_enter Try.func117, Try.ntmps117
  go_wp2_with fail
  go_quiet (fail)
  go_wp2
  go_ret
  exact ⟨rfl, _, rfl⟩
theorem needI (x : Job) (w : World) (hp : 1 ≤ x.people ∧ x.people ≤ 40) (hq : 0 ≤ x.power ∧ x.power ≤ 500) :
    Calls Try.prog 118 #[.agg #[.string x.id, .int .i64 x.airway, .int .i64 x.people, .int .i64 x.power]] w fun e w' => e = .returned (.int .i64 (needJ x)) ∧ Ext w w' := by
  obtain ⟨hp1, hp2⟩ := hp
  obtain ⟨hq1, hq2⟩ := hq
  go_enter Try.func118, Try.ntmps118
  go_wp2
  go_ret
  exact ⟨rfl, by go_tidy; go_grown⟩
def needTo (xs : List Job) (a : Nat) : Nat → Int
  | 0 => 0
  | k + 1 => needTo xs a k + (if h : k < xs.length then (if xs[k].airway = (a : Int) then needJ xs[k] else 0) else 0)
theorem needTo_yes {xs : List Job} {a k : Nat} (h : k < xs.length) (e : xs[k].airway = (a : Int)) : needTo xs a (k + 1) = needTo xs a k + needJ xs[k] := by
  rw [needTo, dif_pos h, if_pos e]
theorem needTo_no {xs : List Job} {a k : Nat} (h : k < xs.length) (e : ¬ xs[k].airway = (a : Int)) : needTo xs a (k + 1) = needTo xs a k := by
  rw [needTo, dif_pos h, if_neg e]; omega
def JobsIn (n : Nat) (xs : List Job) : Prop := xs.length ≤ 12 ∧ ∀ k (h : k < xs.length), (0 ≤ xs[k].airway ∧ xs[k].airway < (n : Int)) ∧ (1 ≤ xs[k].people ∧ xs[k].people ≤ 40) ∧ (0 ≤ xs[k].power ∧ xs[k].power ≤ 500)
theorem jobs_in {n : Nat} {xs : List Job} (h : jobsB (n : Int) xs = true) : JobsIn n xs := by
  unfold jobsB at h; simp only [Bool.and_eq_true, decide_eq_true_eq] at h
  refine ⟨h.1, fun k hk => ?_⟩
  have := allOk_p h.2 k hk
  unfold jobsP jobP inB at this; simp only [Bool.and_eq_true, decide_eq_true_eq] at this; omega
theorem needTo_bd {n : Nat} {xs : List Job} {a : Nat} (hr : JobsIn n xs) (k : Nat) (hk : k ≤ xs.length) : 0 ≤ needTo xs a k ∧ needTo xs a k ≤ 3400 * k := by
  induction k with
  | zero => simp [needTo]
  | succ k ih =>
    have := ih (by omega)
    have h2 := hr.2 k (by omega)
    by_cases e : xs[k].airway = (a : Int)
    · rw [needTo_yes (by omega) e]; unfold needJ; omega
    · rw [needTo_no (by omega) e]; omega
theorem row_own {w : World} {g n : Nat} {f : Nat → Int} {base : Nat} (h : w.rowIs g 2 n (fun a => .int .i64 (f a))) (hb : base ≤ g) (hn : n ≤ 1048576) :
    w.ownsRow base 2 1 (.slice (some ⟨g, 0, none⟩) n n) n (flat encI ((List.range n).map f)) := by
  obtain ⟨cs, h1, h2, h3⟩ := h
  have hl : (flat encI ((List.range n).map f)).length = n * 1 := by rw [flat_length encI_len]; simp
  refine ⟨hl, .inr ⟨g, n, cs, rfl, hb, h1, Nat.le_refl _, by unfold maxLen; omega, by omega, ?_⟩⟩
  apply List.ext_getElem?
  intro j
  rw [List.getElem?_take]
  split
  · rename_i hj
    rw [getI _ j (by simp; omega)]
    have := h3 j (by omega)
    simpa using this
  · rename_i hj; rw [List.getElem?_eq_none (by omega)]
def allIx (m : Nat) : List Int := (List.range m).map Int.ofNat
theorem allIx_len (m : Nat) : (allIx m).length = m := by simp [allIx]
theorem allIx_at (m k : Nat) (h : k < (allIx m).length) : (allIx m)[k] = (k : Int) := by simp [allIx]
theorem allIx_succ (m : Nat) : allIx (m + 1) = allIx m ++ [(m : Int)] := by simp [allIx, List.range_succ]
theorem Job.At.ext {w W : World} {b o : Nat} {x : Job} (h : Job.At w b o x) (hb : b < w.heap.size) (hE : Ext w W) : Job.At W b o x := by
  obtain ⟨c0, c1, c2, c3⟩ := h
  have hh := (bcell hE).1
  exact ⟨(hh _ _ hb).trans c0, (hh _ _ hb).trans c1, (hh _ _ hb).trans c2, (hh _ _ hb).trans c3⟩
theorem store_ext {w W : World} {g a : Nat} (h : Ext w W) (hg : w.heap.size ≤ g) (v : Value) : Ext w (W.setCell ⟨g, a, none⟩ v) :=
  ((KeepI.refl w.heap.size (g + 1) W).set_ (g := g) (m := a) hg (by omega) v).ext h (Nat.le_refl _)
theorem needs_next {xs : List Job} {a k : Nat} {w : World} {g n : Nat} (h : k < xs.length) (e : xs[k].airway = (a : Int)) (hr : w.rowIs g 2 n (fun b => .int .i64 (needTo xs b k))) :
    (w.setCell ⟨g, a, none⟩ (.int .i64 (needTo xs a k + needJ xs[k]))).rowIs g 2 n (fun b => .int .i64 (needTo xs b (k + 1))) :=
  (hr.set a _).congr fun b hb => by
    by_cases hab : b = a
    · subst hab; rw [if_pos rfl, needTo_yes h e]
    · rw [if_neg hab, needTo_no h (by rw [e]; omega)]
set_option maxRecDepth 100000 in
set_option maxHeartbeats 1000000 in
theorem l23Needs (j : Int) (n : Nat) (A0 : Option Addr) (cm : Nat) (xs : List Job) (bm om lo2 hi2 lo3 hi3 : Nat) (v2 v3 : Value) (w : World) (hm : MineAt w bm om j (.slice A0 n cm)) (hn : n ≤ 1048576) (hj : JobsIn n xs) (hv2 : Sl lo2 hi2 w 4 v2 xs.length (flat Job.enc xs)) (hv3 : Sl lo3 hi3 w 1 v3 xs.length (flat encI (allIx xs.length))) :
    Calls Try.prog 89 #[.pointer (some ⟨bm, om, none⟩), v2, v3] w fun e w' => (∃ v', e = .returned v' ∧ Own w.heap.size w'.heap.size w' 2 1 v' n (flat encI ((List.range n).map fun a => needTo xs a xs.length))) ∧ Ext w w' := by
  obtain ⟨m0, m1⟩ := hm
  obtain ⟨hhi2, _, A2, c2, rfl, hnc2, hcm2, hcell2⟩ := hv2
  obtain ⟨hhi3, _, A3, c3, rfl, hnc3, hcm3, hcell3⟩ := hv3
  have hmk := run_made 62 2 _ 1 8 Try.underlying62 infoInt n (by omega) (by unfold maxLen; omega)
  simp only [Nat.mul_one] at hmk
  go_enter Try.func89, Try.ntmps89
  go_wp2
  clear hmk
  go_loopw [8] (fun i wr => ∃ k : Nat, k ≤ xs.length ∧ i = .int .i64 k ∧ wr.rowIs w.heap.size 2 n (fun a => .int .i64 (needTo xs a k)) ∧ Ext w wr) (fun i _ => xs.length - (intOf i).toNat)
  case atStart => exact ⟨0, by omega, rfl, World.rowIs_made _ _ _ _, Ext.new _ _⟩
  case round =>
    obtain ⟨k, hk, rfl, hR, hE⟩ := hrel
    by_cases hlt : k < xs.length
    · obtain ⟨b2, o2, rfl, hb21, hb22, hc2⟩ := hcell2 (by omega)
      obtain ⟨b3, o3, rfl, hb31, hb32, hc3⟩ := hcell3 (by omega)
      have hb2w : b2 < w.heap.size := by omega
      have hb3w : b3 < w.heap.size := by omega
      have c0 := cellsI hc3 k (by rw [allIx_len]; omega)
      rw [allIx_at] at c0
      have hcc := (bcell hE).1
      have hki : (k : Int) < xs.length := by omega
      have hat := Job.at_of hc2 hE hb2w k hlt
      obtain ⟨⟨ha0, ha1⟩, hp, hq⟩ := hj.2 k hlt
      obtain ⟨a, hae⟩ := Int.eq_ofNat_of_zero_le ha0
      have han : a < n := by omega
      have hAE := hid hae
      have hbd := needTo_bd (a := a) hj k hk
      obtain ⟨hbd0, hbd1⟩ := hbd
      have hj12 := hj.1
      have hnj : 0 ≤ needJ xs[k] ∧ needJ xs[k] ≤ 3400 := by unfold needJ; omega
      obtain ⟨hnj0, hnj1⟩ := hnj
      have hani : (a : Int) < n := by omega
      have d1 : wr.cell? ⟨b2, o2 + k * 4 + 1, none⟩ = some (.int .i64 (a : Int)) := by rw [← hae]; exact hat.2.1
      have d2 : wr.cell? ⟨w.heap.size, a, none⟩ = some (.int .i64 (needTo xs a k)) := hR.cell han
      have d3 : wr.frozen? ⟨w.heap.size, a, none⟩ = false := hR.frozen a
      have HR := hid hR
      have HAT := hid hat
      have hb2r : b2 < wr.heap.size := by have := hE.size; omega
      clear hR hat hae ha0 ha1 hc2 hc3
      go_wp2
      clear hcc c0
      have hw1 : IntKind.i64.wrap (needTo xs a k + needJ xs[k]) = needTo xs a k + needJ xs[k] := IntWalk.i64_in _ (by omega)
      go_region_law (first | (go_simp; go_at_call 117; refine (l23NeedX _ _ xs[k] _ hp hq (HAT.out.ext hb2r (by exact Ext.drewN _ _))).mono ?_; rintro e w2 ⟨rfl, m, rfl⟩))
      all_goals
        go_wp2
        go_roundw
        case rel => exact ⟨k + 1, by omega, by go_num, needs_next hlt hAE.out (HR.out.of_block rfl), store_ext (Ext.tr hE (Ext.drewN _ _)) (Nat.le_refl _) _⟩
        case measure => simp [intOf]; omega
    · obtain rfl : k = xs.length := by omega
      go_wp2
      go_ret
      exact ⟨⟨_, rfl, by have := Own.of (row_own hR (Nat.le_refl _) hn) (by omega); simpa using this⟩, hE⟩
set_option maxHeartbeats 1000000 in
theorem l23All (xs : List Job) (lo hi : Nat) (v : Value) (w : World) (hv : Sl lo hi w 4 v xs.length (flat Job.enc xs)) (hn : xs.length ≤ 1048576) :
    Calls Try.prog 90 #[v] w fun e w' => (∃ v', e = .returned v' ∧ Own w.heap.size w'.heap.size w' 2 1 v' xs.length (flat encI (allIx xs.length))) ∧ Ext w w' := by
  obtain ⟨hhi, _, A, c, rfl, hnc, hcm, hcell⟩ := hv
  go_enter Try.func90, Try.ntmps90
  go_wp2
  go_loopw [3, 4] (fun u i wr => ∃ (k : Nat), k ≤ xs.length ∧ i = .int .i64 k ∧ wr.ownsRow w.heap.size 2 1 u k (flat encI (allIx k)) ∧ Ext w wr) (fun _ i _ => xs.length - (intOf i).toNat)
  case atStart => exact ⟨0, by omega, rfl, own_empty _ _ _ _ (Nat.le_refl _), Ext.new _ _⟩
  case round =>
    obtain ⟨k, hk, rfl, hown, hE⟩ := hrel
    have hz3 := hE.size
    by_cases hlt : k < xs.length
    · go_wp2_with (at_builtin; refine wp_append1 wr rfl (.tmp 12) (.tmp 14) _ rfl w.heap.size 2 1 8 _ Try.underlying62 infoInt rfl (by omega) (by omega) _ _ _ hown rfl [.int .i64 k] rfl (by simp [Value.oneCell']) _ rfl rfl (by omega) hz3 ?_; intro v' w' ho' hb')
      go_roundw
      case rel => exact ⟨k + 1, by omega, by go_num, by rw [allIx_succ, flat_snoc]; exact ho', hE.trans hb'⟩
      case measure => simp [intOf]; omega
    · obtain rfl : k = xs.length := by omega
      go_wp2
      go_ret
      exact ⟨⟨_, rfl, Own.of hown (by omega)⟩, hE⟩
set_option maxRecDepth 100000 in
set_option maxHeartbeats 1000000 in
theorem airNeeds (j : Int) (n : Nat) (A0 : Option Addr) (cm : Nat) (xs : List Job) (lo2 hi2 : Nat) (v2 : Value) (w : World) (hn : n ≤ 1048576) (hj : JobsIn n xs) (hv2 : Sl lo2 hi2 w 4 v2 xs.length (flat Job.enc xs)) :
    Calls Try.prog 91 #[.agg #[.int .i64 j, .slice A0 n cm], v2] w fun e w' => (∃ v', e = .returned v' ∧ Own w.heap.size w'.heap.size w' 2 1 v' n (flat encI ((List.range n).map fun a => needTo xs a xs.length))) ∧ Ext w w' := by
  obtain ⟨hhi2, _, A2, c2, rfl, hnc2, hcm2, hcell2⟩ := hv2
  have hmk := run_made 62 2 _ 1 8 Try.underlying62 infoInt n (by omega) (by unfold maxLen; omega)
  simp only [Nat.mul_one] at hmk
  go_enter Try.func91, Try.ntmps91
  go_wp2
  clear hmk
  generalize hG : w.alloc _ = wz
  have hE1 : Ext w wz := by rw [← hG]; exact Ext.new _ _
  have hz1 : w.heap.size + 1 = wz.heap.size := by rw [← hG]; simp
  have HZ1 := hid hz1
  clear hG hz1
  go_loopw [14] (fun i wr => ∃ k : Nat, k ≤ xs.length ∧ i = .int .i64 k ∧ wr.rowIs (w.heap.size + 1) 2 n (fun a => .int .i64 (needTo xs a k)) ∧ Ext w wr) (fun i _ => xs.length - (intOf i).toNat)
  case atStart => exact ⟨0, by omega, rfl, by rw [HZ1.out]; exact World.rowIs_made _ _ _ _, Ext.tr hE1 (Ext.new _ _)⟩
  case round =>
    obtain ⟨k, hk, rfl, hR, hE⟩ := hrel
    by_cases hlt : k < xs.length
    · obtain ⟨b2, o2, rfl, hb21, hb22, hc2⟩ := hcell2 (by omega)
      have hb2w : b2 < w.heap.size := by omega
      have hcc := (bcell hE).1
      have hki : (k : Int) < xs.length := by omega
      obtain ⟨c0, c1, c2, c3⟩ := Job.cells hc2 k hlt
      obtain ⟨⟨ha0, ha1⟩, hp, hq⟩ := hj.2 k hlt
      obtain ⟨a, hae⟩ := Int.eq_ofNat_of_zero_le ha0
      have han : a < n := by omega
      have hbd := needTo_bd (a := a) hj k hk
      obtain ⟨hbd0, hbd1⟩ := hbd
      have hj12 := hj.1
      have hnj : 0 ≤ needJ xs[k] ∧ needJ xs[k] ≤ 3400 := by unfold needJ; omega
      obtain ⟨hnj0, hnj1⟩ := hnj
      have hani : (a : Int) < n := by omega
      have HAE := hid hae
      have HR := hid hR
      have hrl := hR.lt
      have hw1 : IntKind.i64.wrap (needTo xs a k + needJ xs[k]) = needTo xs a k + needJ xs[k] := IntWalk.i64_in _ (by omega)
      have HW := hid hw1
      clear hR hae ha0 ha1 hc2 hw1
      go_wp2
      generalize hA : wr.alloc _ = B
      have hEB : Ext wr B := by rw [← hA]; exact Ext.new _ _
      have hBz : wr.heap.size < B.heap.size := by rw [← hA]; simp
      have x0 : ∀ W, Ext B W → W.cell? ⟨wr.heap.size, 0, none⟩ = some (.string xs[k].id) := fun W hW => (hW.cell (p := ⟨wr.heap.size, 0, none⟩) hBz).trans (by rw [← hA]; simp)
      have x1 : ∀ W, Ext B W → W.cell? ⟨wr.heap.size, 1, none⟩ = some (.int .i64 (a : Int)) := fun W hW => (hW.cell (p := ⟨wr.heap.size, 1, none⟩) hBz).trans (by rw [← hA]; simp; exact HAE.out)
      have x2 : ∀ W, Ext B W → W.cell? ⟨wr.heap.size, 2, none⟩ = some (.int .i64 xs[k].people) := fun W hW => (hW.cell (p := ⟨wr.heap.size, 2, none⟩) hBz).trans (by rw [← hA]; simp)
      have x3 : ∀ W, Ext B W → W.cell? ⟨wr.heap.size, 3, none⟩ = some (.int .i64 xs[k].power) := fun W hW => (hW.cell (p := ⟨wr.heap.size, 3, none⟩) hBz).trans (by rw [← hA]; simp)
      have rB : ∀ W, Ext B W → W.rowIs (w.heap.size + 1) 2 n (fun a => .int .i64 (needTo xs a k)) := fun W hW => HR.out.of_block ((Ext.tr hEB hW).block _ hrl)
      have r0 : ∀ W, Ext B W → W.cell? ⟨w.heap.size + 1, a, none⟩ = some (.int .i64 (needTo xs a k)) := fun W hW => (rB W hW).cell han
      have r1 : ∀ W, Ext B W → W.frozen? ⟨w.heap.size + 1, a, none⟩ = false := fun W hW => (rB W hW).frozen a
      have HRB := hid rB
      have y0 := x0 B (Below.refl _ _)
      have y1 := x1 B (Below.refl _ _)
      have y2 := x2 B (Below.refl _ _)
      have y3 := x3 B (Below.refl _ _)
      have z0 := r0 B (Below.refl _ _)
      have z1 := r1 B (Below.refl _ _)
      have hw1 := HW.out
      have hjw : Value.agg #[.string xs[k].id, .int .i64 (a : Int), .int .i64 xs[k].people, .int .i64 xs[k].power] = Value.agg #[.string xs[k].id, .int .i64 xs[k].airway, .int .i64 xs[k].people, .int .i64 xs[k].power] := by rw [HAE.out]
      have HJW := hid hjw
      clear hA hcc c0 c1 c2 c3 rB hjw
      go_region_law (first | (go_simp; go_at_call 118; rw [HJW.out]; refine (needI xs[k] _ hp hq).mono ?_; rintro e w2 ⟨rfl, hE2⟩; have hE3 : Ext B w2 := Ext.tr (Ext.drewN _ _) hE2))
      all_goals
        go_wp2
        go_roundw
        case rel => exact ⟨k + 1, by omega, by go_num, needs_next hlt HAE.out (HRB.out _ (by assumption)), store_ext (Ext.tr hE (Ext.tr hEB (by assumption))) (Nat.le_succ _) _⟩
        case measure => simp [intOf]; omega
    · obtain rfl : k = xs.length := by omega
      go_wp2
      go_ret
      exact ⟨⟨_, rfl, by have := Own.of (w := w) (row_own hR (Nat.le_succ _) hn) (by omega); simpa using this⟩, hE⟩
def airR (j : Int) (ays : List Airway) (xs : List Job) : List Int := if mineB j ays && jobsB (ays.length : Int) xs then (List.range ays.length).map (fun a => needTo xs a xs.length) else []
def okR (b : Bool) : Int := if b then 0 else 1
theorem airR_no {j : Int} {ays : List Airway} {xs : List Job} (h : (mineB j ays && jobsB (ays.length : Int) xs) = false) : airR j ays xs = [] := by unfold airR; rw [h]; rfl
theorem airR_ok {j : Int} {ays : List Airway} {xs : List Job} (h : (mineB j ays && jobsB (ays.length : Int) xs) = true) : airR j ays xs = (List.range ays.length).map (fun a => needTo xs a xs.length) := by unfold airR; rw [h]; rfl
set_option maxRecDepth 100000 in
theorem specAirNeeds (j : Int) (ays : List Airway) (xs : List Job) (lo hi lo2 hi2 : Nat) (v v2 : Value) (w : World) (hv : Sl lo hi w 7 v ays.length (flat Airway.enc ays)) (hsA : ∀ x ∈ ays, x.id.size ≤ maxLen) (hnA : ays.length ≤ 1048576) (hv2 : Sl lo2 hi2 w 4 v2 xs.length (flat Job.enc xs)) (hs : ∀ x ∈ xs, x.id.size ≤ maxLen) (hn : xs.length ≤ 1048576) :
    Calls Try.prog 43 #[.agg #[.int .i64 j, v], v2] w fun e w' => (∃ v', e = .returned (.tuple #[v', .int .i64 (okR (mineB j ays && jobsB (ays.length : Int) xs))]) ∧ Own w.heap.size w'.heap.size w' 2 1 v' (airR j ays xs).length (flat encI (airR j ays xs))) ∧ Ext w w' := by
  have hv0 := hv
  obtain ⟨_, _, A0, c0, rfl, _, _, _⟩ := hv0
  go_enter Try.func43, Try.ntmps43
  go_wp2_with fail
  generalize hG : w.alloc _ = wz
  have hE1 : Ext w wz := by rw [← hG]; exact Ext.new _ _
  have hm : MineAt wz w.heap.size 0 j (.slice A0 ays.length c0) := by subst hG; exact ⟨by go_simp, by go_simp⟩
  clear hG
  cases hM : mineB j ays
  · have HQ := hid (airR_no (j := j) (ays := ays) (xs := xs) (by rw [hM]; rfl))
    have HK := hid (show okR (mineB j ays && jobsB (ays.length : Int) xs) = 1 by rw [hM]; rfl)
    refine (cv (l04Ok j ays w.heap.size 0 _ _ _ _ hm (hv.ext hE1) hsA hnA) (vb hM)).mono ?_
    rintro e w1 ⟨rfl, hE⟩
    go_wp2
    go_ret2
    exact ⟨⟨_, by rw [HK.out]; rfl, by rw [HQ.out]; exact Own.nil _ _ (Ext.tr hE1 hE)⟩, Ext.tr hE1 hE⟩
  refine (cv (l04Ok j ays w.heap.size 0 _ _ _ _ hm (hv.ext hE1) hsA hnA) (vb hM)).mono ?_
  rintro e w1 ⟨rfl, hE⟩
  have hE2 := Ext.tr hE1 hE
  have hm1 := hm.ext hE
  clear hm
  cases hS : jobsB (ays.length : Int) xs
  · have HQ := hid (airR_no (j := j) (ays := ays) (xs := xs) (by rw [hM, hS]; rfl))
    have HK := hid (show okR (mineB j ays && jobsB (ays.length : Int) xs) = 1 by rw [hM, hS]; rfl)
    go_wp2_with (go_at_call 70; refine (cv (jobsSpec j ays xs w.heap.size 0 _ _ _ _ _ _ _ hM hm1 (hv.ext hE2) hsA hnA (hv2.ext hE2) hs hn) (vb hS)).mono ?_; rintro e w2 ⟨rfl, hE3⟩)
    go_ret2
    exact ⟨⟨_, by rw [HK.out]; rfl, by rw [HQ.out]; exact Own.nil _ _ (Ext.tr hE2 hE3)⟩, Ext.tr hE2 hE3⟩
  have HQ := hid (airR_ok (j := j) (ays := ays) (xs := xs) (by rw [hM, hS]; rfl))
  have HK := hid (show okR (mineB j ays && jobsB (ays.length : Int) xs) = 0 by rw [hM, hS]; rfl)
  have hji := jobs_in hS
  have hm2 := hm1
  clear hm1
  go_wp2_with (first | (go_at_call 70; refine (cv (jobsSpec j ays xs w.heap.size 0 _ _ _ _ _ _ _ hM hm2 (hv.ext hE2) hsA hnA (hv2.ext hE2) hs hn) (vb hS)).mono ?_; rintro e w2 ⟨rfl, hE3⟩; have hE4 := Ext.tr hE2 hE3; have hm3 := hm2.ext hE3) | (go_at_call 90; refine (l23All xs _ _ _ _ (hv2.ext hE4) hn).mono ?_; rintro e w3 ⟨⟨v3, rfl, hO⟩, hE5⟩) | (go_at_call 89; refine (l23Needs j ays.length A0 c0 xs w.heap.size 0 _ _ _ _ _ _ _ (hm3.ext hE5) hnA hji (hv2.ext (Ext.tr hE4 hE5)) hO.sl).mono ?_; rintro e w4 ⟨⟨v4, rfl, hO4⟩, hE6⟩))
  go_ret2
  exact ⟨⟨_, by rw [HK.out]; rfl, by rw [HQ.out]; simpa using hO4.more (Nat.le_trans hE4.size hE5.size) (Nat.le_refl _) (Nat.le_refl _)⟩, Ext.tr (Ext.tr hE4 hE5) hE6⟩
set_option maxRecDepth 100000 in
theorem implAirNeeds (j : Int) (ays : List Airway) (xs : List Job) (lo hi lo2 hi2 : Nat) (v v2 : Value) (w : World) (hv : Sl lo hi w 7 v ays.length (flat Airway.enc ays)) (hsA : ∀ x ∈ ays, x.id.size ≤ maxLen) (hnA : ays.length ≤ 1048576) (hv2 : Sl lo2 hi2 w 4 v2 xs.length (flat Job.enc xs)) (hs : ∀ x ∈ xs, x.id.size ≤ maxLen) (hn : xs.length ≤ 1048576) :
    Calls Try.prog 44 #[.agg #[.int .i64 j, v], v2] w fun e w' => (∃ v', e = .returned (.tuple #[v', .int .i64 (okR (mineB j ays && jobsB (ays.length : Int) xs))]) ∧ Own w.heap.size w'.heap.size w' 2 1 v' (airR j ays xs).length (flat encI (airR j ays xs))) ∧ Ext w w' := by
  have hv0 := hv
  obtain ⟨_, _, A0, c0, rfl, _, _, _⟩ := hv0
  go_enter Try.func44, Try.ntmps44
  go_wp2_with fail
  generalize hG : w.alloc _ = wz
  have hE1 : Ext w wz := by rw [← hG]; exact Ext.new _ _
  have hm : MineAt wz w.heap.size 0 j (.slice A0 ays.length c0) := by subst hG; exact ⟨by go_simp, by go_simp⟩
  clear hG
  cases hMS : (mineB j ays && jobsB (ays.length : Int) xs)
  · have HQ := hid (airR_no hMS)
    have HK := hid (show okR (mineB j ays && jobsB (ays.length : Int) xs) = 1 by rw [hMS]; rfl)
    refine (cv (jobsImpl j ays xs _ _ _ _ _ _ _ (hv.ext hE1) hsA hnA (hv2.ext hE1) hs hn) (vb hMS)).mono ?_
    rintro e w1 ⟨rfl, hE⟩
    go_wp2
    go_ret2
    exact ⟨⟨_, by rw [HK.out]; rfl, by rw [HQ.out]; exact Own.nil _ _ (Ext.tr hE1 hE)⟩, Ext.tr hE1 hE⟩
  have HQ := hid (airR_ok hMS)
  have HK := hid (show okR (mineB j ays && jobsB (ays.length : Int) xs) = 0 by rw [hMS]; rfl)
  have hji := jobs_in (n := ays.length) (xs := xs) (by rw [Bool.and_eq_true] at hMS; exact hMS.2)
  refine (cv (jobsImpl j ays xs _ _ _ _ _ _ _ (hv.ext hE1) hsA hnA (hv2.ext hE1) hs hn) (vb hMS)).mono ?_
  rintro e w1 ⟨rfl, hE⟩
  have hE2 := Ext.tr hE1 hE
  obtain ⟨m0, m1⟩ := hm.ext hE
  clear hm
  go_wp2_with (go_at_call 91; refine (airNeeds j ays.length A0 c0 xs _ _ _ _ hnA hji (hv2.ext hE2)).mono ?_; rintro e w4 ⟨⟨v4, rfl, hO4⟩, hE6⟩)
  go_ret2
  exact ⟨⟨_, by rw [HK.out]; rfl, by rw [HQ.out]; simpa using hO4.more hE2.size (Nat.le_refl _) (Nat.le_refl _)⟩, Ext.tr hE2 hE6⟩
end Go.Proofs.Ytojmfjdbggpllaa
