/- Contracts of the alarms of one sensor in both packages. -/
import Derived.Test.YtopjccbjdcoanaaSen
import Derived.Test.YtopjccbjdcoanaaXSS
import Derived.Test.YtopjccbjdcoanaaApp3
namespace Go.Proofs.Ytopjccbjdcoanaa
set_option linter.unusedVariables false
open Go.RowKit
/-! ### the plain law -/
structure Alm where
  run : Int
  since : Int
  acc : List (List Int)
def aStep (x : Sensor) (s : Alm) (t r : Int) : Alm :=
  let run := if x.limit < r then s.run + 1 else 0
  if 0 ≤ s.since then (if r ≠ -1 ∧ r ≤ x.release then ⟨run, -1, s.acc ++ [[s.since, t]]⟩ else ⟨run, s.since, s.acc⟩)
  else if x.delay ≤ run then ⟨run, t, s.acc⟩ else ⟨run, -1, s.acc⟩
def aTo (x : Sensor) (ns : List Int) : Nat → Alm
  | 0 => ⟨0, -1, []⟩
  | k + 1 => aStep x (aTo x ns k) k (ns.getD k 0)
def aTail (s : Alm) (n : Int) : List (List Int) := if 0 ≤ s.since then [[s.since, n]] else []
def alarms (x : Sensor) (ns : List Int) : List (List Int) := (aTo x ns ns.length).acc ++ aTail (aTo x ns ns.length) ns.length
theorem aTo_succ (x : Sensor) (ns : List Int) (k : Nat) (h : k < ns.length) : aTo x ns (k + 1) = aStep x (aTo x ns k) k ns[k] := by
  rw [aTo, List.getD_eq_getElem?_getD, List.getElem?_eq_getElem h]; rfl
theorem aTo_bd (x : Sensor) (ns : List Int) (hd : 1 ≤ x.delay) (hr : x.release ≤ x.limit) (k : Nat) : (0 ≤ (aTo x ns k).run ∧ (aTo x ns k).run ≤ k) ∧ (-1 ≤ (aTo x ns k).since ∧ (aTo x ns k).since < k) ∧ (aTo x ns k).acc.length ≤ k ∧ ∀ a ∈ (aTo x ns k).acc, a.length = 2 := by
  induction k with
  | zero => simp [aTo]
  | succ k ih =>
    obtain ⟨⟨h1, h2⟩, ⟨h3, h4⟩, h5, h6⟩ := ih
    rw [aTo]
    unfold aStep
    generalize aTo x ns k = s at *
    generalize ns.getD k 0 = r at *
    have hrun : 0 ≤ (if x.limit < r then s.run + 1 else 0) ∧ (if x.limit < r then s.run + 1 else 0) ≤ (k : Int) + 1 := by split <;> omega
    obtain ⟨hr1, hr2⟩ := hrun
    simp only
    generalize (if x.limit < r then s.run + 1 else 0) = run at *
    split
    · split
      · refine ⟨⟨hr1, by dsimp only; omega⟩, ⟨by dsimp only; omega, by dsimp only; omega⟩, by simp; omega, fun a ha => ?_⟩
        rw [List.mem_append] at ha
        rcases ha with ha | ha
        · exact h6 a ha
        · simp at ha; subst ha; rfl
      · exact ⟨⟨hr1, by dsimp only; omega⟩, ⟨by dsimp only; omega, by dsimp only; omega⟩, by dsimp only; omega, h6⟩
    · split
      · exact ⟨⟨hr1, by dsimp only; omega⟩, ⟨by dsimp only; omega, by dsimp only; omega⟩, by dsimp only; omega, h6⟩
      · exact ⟨⟨hr1, by dsimp only; omega⟩, ⟨by dsimp only; omega, by dsimp only; omega⟩, by dsimp only; omega, h6⟩
/-- the state one minute later, in each case -/
theorem aStep_high_in {x : Sensor} {s : Alm} {t r : Int} (hr : x.release ≤ x.limit) (h1 : x.limit < r) (h2 : 0 ≤ s.since) : aStep x s t r = ⟨s.run + 1, s.since, s.acc⟩ := by
  unfold aStep; simp only [if_pos h1, if_pos h2]; rw [if_neg (by omega)]
theorem aStep_high_on {x : Sensor} {s : Alm} {t r : Int} (h1 : x.limit < r) (h2 : ¬ 0 ≤ s.since) (h3 : x.delay ≤ s.run + 1) : aStep x s t r = ⟨s.run + 1, t, s.acc⟩ := by
  unfold aStep; simp only [if_pos h1, if_neg h2, if_pos h3]
theorem aStep_high_no {x : Sensor} {s : Alm} {t r : Int} (h1 : x.limit < r) (h2 : ¬ 0 ≤ s.since) (h3 : ¬ x.delay ≤ s.run + 1) : aStep x s t r = ⟨s.run + 1, -1, s.acc⟩ := by
  unfold aStep; simp only [if_pos h1, if_neg h2, if_neg h3]
theorem aStep_low_off {x : Sensor} {s : Alm} {t r : Int} (h1 : ¬ x.limit < r) (h2 : 0 ≤ s.since) (h3 : ¬ r = -1) (h4 : r ≤ x.release) : aStep x s t r = ⟨0, -1, s.acc ++ [[s.since, t]]⟩ := by
  unfold aStep; simp only [if_neg h1, if_pos h2]; rw [if_pos ⟨h3, h4⟩]
theorem aStep_low_in {x : Sensor} {s : Alm} {t r : Int} (h1 : ¬ x.limit < r) (h2 : 0 ≤ s.since) (h3 : r = -1 ∨ x.release < r) : aStep x s t r = ⟨0, s.since, s.acc⟩ := by
  unfold aStep; simp only [if_neg h1, if_pos h2]; rw [if_neg (by omega)]
theorem aStep_low_no {x : Sensor} {s : Alm} {t r : Int} (hd : 1 ≤ x.delay) (h1 : ¬ x.limit < r) (h2 : ¬ 0 ≤ s.since) : aStep x s t r = ⟨0, -1, s.acc⟩ := by
  unfold aStep; simp only [if_neg h1, if_neg h2]; rw [if_neg (by omega)]
theorem alarms_bd (x : Sensor) (ns : List Int) (hd : 1 ≤ x.delay) (hr : x.release ≤ x.limit) : (alarms x ns).length ≤ ns.length + 1 ∧ totN nSS (alarms x ns) = 2 * (alarms x ns).length := by
  obtain ⟨_, _, h5, h6⟩ := aTo_bd x ns hd hr ns.length
  have hall : ∀ a ∈ alarms x ns, a.length = 2 := fun a ha => by
    unfold alarms aTail at ha
    rw [List.mem_append] at ha
    rcases ha with ha | ha
    · exact h6 a ha
    · split at ha
      · simp at ha; subst ha; rfl
      · simp at ha
  refine ⟨by unfold alarms aTail; rw [List.length_append]; split <;> simp <;> omega, ?_⟩
  generalize alarms x ns = l at *
  clear h5 h6
  induction l with
  | nil => rfl
  | cons a l ih =>
    have h1 := hall a (List.mem_cons_self ..)
    have h2 := ih (fun b hb => hall b (List.mem_cons_of_mem _ hb))
    unfold totN at *
    rw [List.map_cons, List.sum_cons, List.length_cons, h2]
    show a.length + _ = _
    omega
/-! ### memory -/
theorem own_two (W : World) (a b : Int) : Own W.heap.size (W.heap.size + 1) (W.alloc (.cells #[.int .i64 a, .int .i64 b] 2)) 2 1 (.slice (some ⟨W.heap.size, 0, none⟩) 2 2) 2 (flat encI [a, b]) :=
  ⟨by simp, by omega, rfl, .inr ⟨W.heap.size, 2, #[.int .i64 a, .int .i64 b], rfl, Nat.le_refl _, Nat.lt_succ_self _, Nat.le_refl _, by simp [maxLen], Blk.new _ _ _, rfl, rfl⟩⟩
theorem flat_two (a b : Int) : flat encI [a, b] = [.int .i64 a, .int .i64 b] := rfl
/-- the program's call: append of a fresh pair -/
theorem pair_grow {lo : Nat} {w : World} {v : Value} {ys : List (List Int × Value)} (h : GrowN nSS 27 2 lo w v ys) (a b : Int) :
    GrowN nSS 27 2 lo (w.alloc (.cells #[.int .i64 a, .int .i64 b] 2)) v ys ∧ Own lo (w.alloc (.cells #[.int .i64 a, .int .i64 b] 2)).heap.size (w.alloc (.cells #[.int .i64 a, .int .i64 b] 2)) 2 1 (.slice (some ⟨w.heap.size, 0, none⟩) 2 2) 2 (flat encI [a, b]) ∧
      Apart v (.slice (some ⟨w.heap.size, 0, none⟩) 2 2) ∧ ∀ q ∈ ys, Apart q.2 (.slice (some ⟨w.heap.size, 0, none⟩) 2 2) := by
  have hu := own_two w a b
  obtain ⟨h1, h2⟩ := h.later hu (Nat.le_refl _)
  exact ⟨h.ext (Ext.new _ _), hu.more h.1 (by simp) (Nat.le_refl _), h1, h2⟩
set_option maxRecDepth 100000 in
set_option maxHeartbeats 2000000 in
theorem l24Alarms (x : Sensor) (ns : List Int) (b : Nat) (lo hi : Nat) (v : Value) (w : World) (hx : sensorB x = true) (hbw : b < w.heap.size)
    (c2 : w.cell? ⟨b, 2, none⟩ = some (.int .i64 x.limit)) (c3 : w.cell? ⟨b, 3, none⟩ = some (.int .i64 x.delay)) (c4 : w.cell? ⟨b, 4, none⟩ = some (.int .i64 x.release))
    (hv : Sl lo hi w 1 v ns.length (flat encI ns)) (hs : seriesB ns = true) :
    Calls Try.prog 70 #[.pointer (some ⟨b, 0, none⟩), v] w fun e w' => (∃ v', e = .returned v' ∧ OwnSS w.heap.size w'.heap.size w' v' (alarms x ns)) ∧ Ext w w' := by
  obtain ⟨hhi, _, A, c, rfl, hnc, hcm, hcell⟩ := hv
  obtain ⟨hx1, hx2, hx3, hx4, hx5, hx6⟩ := sensorB_le hx
  have hlen := series_len hs
  have HB := hid (aTo_bd x ns hx4 hx3)
  have HS := hid hs
  have HX := hid hx
  clear hs hx
  go_enter Try.func70, Try.ntmps70
  go_wp2
  go_loopw [5, 6, 7, 8, 9] (fun u run since i _ wr => ∃ (k : Nat) (ys : List (List Int × Value)), k ≤ ns.length ∧ i = .int .i64 k ∧ run = .int .i64 (aTo x ns k).run ∧ since = .int .i64 (aTo x ns k).since ∧ Hid (ys.map Prod.fst = (aTo x ns k).acc) ∧ GrowN nSS 27 2 w.heap.size wr u ys ∧ Ext w wr) (fun _ _ _ i _ _ => ns.length - (intOf i).toNat)
  case atStart => exact ⟨0, [], by omega, rfl, rfl, rfl, hid rfl, GrowN.empty (Nat.le_refl _), Ext.new _ _⟩
  case round =>
    obtain ⟨k, ys, hk, rfl, rfl, rfl, HY, hG, hE⟩ := hrel
    obtain ⟨⟨r1, r2⟩, ⟨s1, s2⟩, a1, _⟩ := HB.out k
    have hyl : ys.length ≤ k := by have := congrArg List.length HY.out; simp at this; omega
    by_cases hlt : k < ns.length
    · obtain ⟨b', off, rfl, hb1, hb2, hc⟩ := hcell (by omega)
      have hkn : (k : Int) < ns.length := by omega
      have c0 := ((bcell hE).1 b' (off + k) (by omega)).trans (cellsI hc k hlt)
      have d2 := ((bcell hE).1 b 2 hbw).trans c2
      have d3 := ((bcell hE).1 b 3 hbw).trans c3
      have d4 := ((bcell hE).1 b 4 hbw).trans c4
      have hrr := series_at HS.out k hlt
      obtain ⟨rr1, rr2⟩ := hrr
      have HA := hid (aTo_succ x ns k hlt)
      have HC3 := hid c3
      clear hc hcell c2 c3 c4
      generalize ns[k] = r at *
      generalize hst : aTo x ns k = s at *
      have HST := hid hst
      clear hst
      by_cases hl : x.limit < r
      · by_cases hin : 0 ≤ s.since
        · have HN := hid (HA.out.trans (aStep_high_in hx3 hl hin))
          have hb3 : (r != -1) = true := by rw [bne_iff_ne]; omega
          go_wp2
          go_roundw
          case rel => exact ⟨k + 1, ys, by omega, by go_num, by rw [HN.out], by rw [HN.out], hid (by rw [HN.out]; exact HY.out), hG, hE⟩
          case measure => simp [intOf]; omega
        · by_cases hd : x.delay ≤ s.run + 1
          · have HN := hid (HA.out.trans (aStep_high_on (t := (k : Int)) hl hin hd))
            go_wp2
            go_roundw
            case rel => exact ⟨k + 1, ys, by omega, by go_num, by rw [HN.out], by rw [HN.out], hid (by rw [HN.out]; exact HY.out), hG, hE⟩
            case measure => simp [intOf]; omega
          · have HN := hid (HA.out.trans (aStep_high_no (t := (k : Int)) hl hin hd))
            have hs1 : s.since = -1 := by omega
            rw [hs1]
            go_wp2
            go_roundw
            case rel => exact ⟨k + 1, ys, by omega, by go_num, by rw [HN.out], by rw [HN.out], hid (by rw [HN.out]; exact HY.out), hG, hE⟩
            case measure => simp [intOf]; omega
      · by_cases hin : 0 ≤ s.since
        · by_cases hr1 : r = -1
          · have HN := hid (HA.out.trans (aStep_low_in (t := (k : Int)) hl hin (.inl hr1)))
            have hb3 : (r != -1) = false := by rw [hr1]; rfl
            rw [hr1] at c0
            clear hb3
            subst hr1
            go_wp2
            go_roundw
            case rel => exact ⟨k + 1, ys, by omega, by go_num, by rw [HN.out], by rw [HN.out], hid (by rw [HN.out]; exact HY.out), hG, hE⟩
            case measure => simp [intOf]; omega
          have hb3 : (r != -1) = true := by rw [bne_iff_ne]; exact hr1
          by_cases hr2 : r ≤ x.release
          · have HN := hid (HA.out.trans (aStep_low_off (t := (k : Int)) hl hin hr1 hr2))
            obtain ⟨hG2, hu, hav, hau⟩ := pair_grow hG s.since k
            have hz := hE.size
            go_wp2_with (at_builtin; refine wp_grow (N := nSS) (wr.alloc (.cells #[.int .i64 s.since, .int .i64 k] 2)) (wr.heap.size + 1) (by simp) rfl (.tmp 43) (.tmp 47) _ rfl w.heap.size 27 24 _ Try.underlying24 infoSS rfl (by decide) (by omega) 2 _ _ hG2 rfl ([s.since, (k : Int)], .slice (some ⟨wr.heap.size, 0, none⟩) 2 2) rfl (by intro u hu; simp [nSS, encSS] at hu; subst hu; rfl) _ rfl rfl (by omega) hu hav hau ?_; intro v' w' hG3 hb3; have e3 := ((bcell ((Ext.tr hE (Ext.new _ _)).trans hb3)).1 b 3 hbw).trans HC3.out)
            go_roundw
            case rel => exact ⟨k + 1, _, by omega, by go_num, by rw [HN.out], by rw [HN.out], hid (by rw [HN.out, List.map_append, HY.out]; rfl), hG3, (Ext.tr hE (Ext.new _ _)).trans hb3⟩
            case measure => simp [intOf]; omega
          · have HN := hid (HA.out.trans (aStep_low_in (t := (k : Int)) hl hin (.inr (by omega))))
            go_wp2
            go_roundw
            case rel => exact ⟨k + 1, ys, by omega, by go_num, by rw [HN.out], by rw [HN.out], hid (by rw [HN.out]; exact HY.out), hG, hE⟩
            case measure => simp [intOf]; omega
        · have HN := hid (HA.out.trans (aStep_low_no (t := (k : Int)) hx4 hl hin))
          have hs1 : s.since = -1 := by omega
          rw [hs1]
          go_wp2
          go_roundw
          case rel => exact ⟨k + 1, ys, by omega, by go_num, by rw [HN.out], by rw [HN.out], hid (by rw [HN.out]; exact HY.out), hG, hE⟩
          case measure => simp [intOf]; omega
    · obtain rfl : k = ns.length := by omega
      have hbd := alarms_bd x ns hx4 hx3
      have HD := hid hbd
      clear hbd
      by_cases hin : 0 ≤ (aTo x ns ns.length).since
      · have HQ := hid (show alarms x ns = (aTo x ns ns.length).acc ++ [[(aTo x ns ns.length).since, (ns.length : Int)]] by unfold alarms aTail; rw [if_pos hin])
        generalize aTo x ns ns.length = s at *
        obtain ⟨hG2, hu, hav, hau⟩ := pair_grow hG s.since ns.length
        go_wp2_with (at_builtin; refine wp_grow (N := nSS) (wr.alloc (.cells #[.int .i64 s.since, .int .i64 ns.length] 2)) (wr.heap.size + 1) (by simp) rfl (.tmp 62) (.tmp 67) _ rfl w.heap.size 27 24 _ Try.underlying24 infoSS rfl (by decide) (by omega) 2 _ _ hG2 rfl ([s.since, (ns.length : Int)], .slice (some ⟨wr.heap.size, 0, none⟩) 2 2) rfl (by intro u hu; simp [nSS, encSS] at hu; subst hu; rfl) _ rfl rfl (by omega) hu hav hau ?_; intro v' w' hG3 hb3)
        go_ret
        refine ⟨⟨_, rfl, GrowN.own hG3 (by rw [List.map_append, HY.out, HQ.out]; rfl) (by have := HD.out; omega) (by have := HD.out; omega)⟩, (Ext.tr hE (Ext.new _ _)).trans hb3⟩
      · have HQ := hid (show alarms x ns = (aTo x ns ns.length).acc by unfold alarms aTail; rw [if_neg hin, List.append_nil])
        have hs1 : (aTo x ns ns.length).since = -1 := by omega
        rw [hs1]
        clear hin hs1
        go_wp2
        go_ret
        refine ⟨⟨_, rfl, GrowN.own hG (by rw [HY.out, HQ.out]) (by have := HD.out; omega) (by have := HD.out; omega)⟩, hE⟩
end Go.Proofs.Ytopjccbjdcoanaa
