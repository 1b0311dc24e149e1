/- What FirstAlarm tells, and the contract of the note's function. -/
import Derived.Test.YtopjccbjdcoanaaSns
import Derived.Test.YtopjccbjdcoanaaAlq
import Derived.Test.YtopjccbjdcoanaaAlo
import Derived.Test.YtopjccbjdcoanaaAnyL
import Derived.Deep.RegionHeld3
import Derived.Handy
namespace Go.Proofs.Ytopjccbjdcoanaa
set_option linter.unusedVariables false
open Go.RowKit
def badS (ss : List (List Int)) : Bool := ss.any (fun s => !seriesB s)
theorem badS_yes {ss : List (List Int)} (k : Nat) (h : k < ss.length) (hp : seriesB ss[k] = false) : badS ss = true := by
  unfold badS; rw [List.any_eq_true]; exact ⟨ss[k], List.getElem_mem h, by rw [hp]; rfl⟩
theorem badS_no {ss : List (List Int)} (h : ∀ j (hj : j < ss.length), seriesB ss[j] = true) : badS ss = false := any_no fun j hj => by rw [h j hj]; rfl
theorem badS_at {ss : List (List Int)} (h : badS ss = false) (k : Nat) (hk : k < ss.length) : seriesB ss[k] = true := by
  cases hp : seriesB ss[k]
  · rw [badS_yes k hk hp] at h; cases h
  · rfl
def fst_ (a : List (List Int)) : Int := (a.headD []).headD 0
def fStep (p : Int × Int) (k : Nat) (a : List (List Int)) : Int × Int := if a = [] then p else if p.1 < 0 ∨ fst_ a < p.2 then (k, fst_ a) else p
theorem fStep_nil {p : Int × Int} {k : Nat} {a : List (List Int)} (h : a = []) : fStep p k a = p := by unfold fStep; rw [if_pos h]
theorem fStep_set {p : Int × Int} {k : Nat} {a : List (List Int)} (h : ¬ a = []) (h2 : p.1 < 0 ∨ fst_ a < p.2) : fStep p k a = ((k : Int), fst_ a) := by unfold fStep; rw [if_neg h, if_pos h2]
theorem fStep_keep {p : Int × Int} {k : Nat} {a : List (List Int)} (h : ¬ a = []) (h2 : ¬ (p.1 < 0 ∨ fst_ a < p.2)) : fStep p k a = p := by unfold fStep; rw [if_neg h, if_neg h2]
def fAl (xs : List Sensor) (ss : List (List Int)) (k : Nat) : List (List Int) := match xs[k]?, ss[k]? with
  | some x, some s => alarms x s
  | _, _ => []
def fTo (xs : List Sensor) (ss : List (List Int)) : Nat → Int × Int
  | 0 => (-1, 0)
  | k + 1 => fStep (fTo xs ss k) k (fAl xs ss k)
theorem fTo_succ (xs : List Sensor) (ss : List (List Int)) (k : Nat) (h1 : k < xs.length) (h2 : k < ss.length) : fTo xs ss (k + 1) = fStep (fTo xs ss k) k (alarms xs[k] ss[k]) := by
  rw [fTo, fAl, List.getElem?_eq_getElem h1, List.getElem?_eq_getElem h2]
theorem alarms_hd (x : Sensor) (ns : List Int) (hd : 1 ≤ x.delay) (hr : x.release ≤ x.limit) (h : ¬ alarms x ns = []) : ¬ (alarms x ns).headD [] = [] := by
  obtain ⟨_, _, _, h6⟩ := aTo_bd x ns hd hr ns.length
  have hall : ∀ a ∈ alarms x ns, a.length = 2 := fun a ha => by
    unfold alarms aTail at ha
    rw [List.mem_append] at ha
    rcases ha with ha | ha
    · exact h6 a ha
    · split at ha
      · simp at ha; subst ha; rfl
      · simp at ha
  generalize alarms x ns = l at *
  match l, h with
  | a :: l, _ =>
    intro h0
    have := hall a (List.mem_cons_self ..)
    simp at h0
    rw [h0] at this
    cases this
def firR (xs : List Sensor) (ss : List (List Int)) : Int × Int × Int :=
  if sensorsB xs then (if ss.length = xs.length ∧ badS ss = false then (if (fTo xs ss xs.length).1 < 0 then (0, 0, 3) else ((fTo xs ss xs.length).1, (fTo xs ss xs.length).2, 0)) else (0, 0, 2)) else (0, 0, 1)
theorem firR_a {xs : List Sensor} {ss : List (List Int)} (h : sensorsB xs = false) : firR xs ss = (0, 0, 1) := by unfold firR; rw [h]; rfl
theorem firR_b {xs : List Sensor} {ss : List (List Int)} (h : sensorsB xs = true) (h2 : ¬ ss.length = xs.length) : firR xs ss = (0, 0, 2) := by unfold firR; rw [h, if_pos rfl, if_neg (fun h => h2 h.1)]
theorem firR_c {xs : List Sensor} {ss : List (List Int)} (h : sensorsB xs = true) (h2 : badS ss = true) : firR xs ss = (0, 0, 2) := by unfold firR; rw [h, if_pos rfl, if_neg (fun h => by have := h.2; rw [h2] at this; cases this)]
theorem firR_d {xs : List Sensor} {ss : List (List Int)} (h : sensorsB xs = true) (h2 : ss.length = xs.length) (h3 : badS ss = false) (h4 : (fTo xs ss xs.length).1 < 0) : firR xs ss = (0, 0, 3) := by unfold firR; rw [h, if_pos rfl, if_pos ⟨h2, h3⟩, if_pos h4]
theorem firR_e {xs : List Sensor} {ss : List (List Int)} (h : sensorsB xs = true) (h2 : ss.length = xs.length) (h3 : badS ss = false) (h4 : ¬ (fTo xs ss xs.length).1 < 0) : firR xs ss = ((fTo xs ss xs.length).1, (fTo xs ss xs.length).2, 0) := by unfold firR; rw [h, if_pos rfl, if_pos ⟨h2, h3⟩, if_neg h4]
theorem sensors_len {xs : List Sensor} (h : sensorsB xs = true) : xs.length ≤ 16 := by unfold sensorsB at h; simp at h; exact h.1
theorem sensors_at {xs : List Sensor} (h : sensorsB xs = true) (k : Nat) (hk : k < xs.length) : sensorB xs[k] = true := by unfold sensorsB at h; simp only [Bool.and_eq_true] at h; exact allOk_p h.2 k hk
theorem SS.nil {lo hi : Nat} {w : World} {v : Value} {a : List (List Int)} (h : SlSS lo hi w v a) (ha : a = []) : ∃ A c, v = .slice A 0 c := by
  subst ha
  obtain ⟨ys, _, ⟨_, _, A, c, rfl, _⟩, _⟩ := h.opn
  exact ⟨A, c, rfl⟩
theorem SS.head {lo hi : Nat} {w : World} {v : Value} {a : List (List Int)} (h : SlSS lo hi w v a) (ha : ¬ a = []) (hd : ¬ a.headD [] = []) :
    ∃ (b o n c b2 o2 n2 c2 : Nat), v = .slice (some ⟨b, o, none⟩) n c ∧ 0 < n ∧ w.cell? ⟨b, o, none⟩ = some (.slice (some ⟨b2, o2, none⟩) n2 c2) ∧ 0 < n2 ∧ w.cell? ⟨b2, o2, none⟩ = some (.int .i64 (fst_ a)) := by
  obtain ⟨ys, hys, ⟨hhi, _, A, c, rfl, hnc, hcm, hcell⟩, hin⟩ := h.opn
  have hl : 0 < a.length := List.length_pos_iff.2 ha
  obtain ⟨b, off, rfl, hb1, hb2, hc⟩ := hcell hl
  obtain ⟨A2, c2, e0, hu⟩ := SS.at_ hys hin hc (Below.refl _ _) (by omega) 0 hl
  have he : a.headD [] = a[0] := by cases a with
    | nil => cases hl
    | cons x l => rfl
  rw [he] at hd
  have hl2 : 0 < a[0].length := List.length_pos_iff.2 hd
  obtain ⟨_, _, A3, c3, q3, _, _, hcell3⟩ := hu
  simp only [Value.slice.injEq] at q3
  obtain ⟨rfl, _, rfl⟩ := q3
  obtain ⟨b3, o3, rfl, hb3, hb4, hc3⟩ := hcell3 hl2
  have e1 := cellsI hc3 0 hl2
  refine ⟨b, off, _, c, b3, o3, _, c2, rfl, hl, e0, hl2, e1.trans ?_⟩
  unfold fst_
  rw [he]
  generalize a[0] = l at *
  cases l with
  | nil => cases hl2
  | cons x l => rfl
set_option maxRecDepth 100000 in
set_option maxHeartbeats 2000000 in
theorem specFirstAlarm (xs : List Sensor) (ss : List (List Int)) (lo hi lo2 hi2 : Nat) (v v2 : Value) (w : World) (hv : Sl lo hi w 5 v xs.length (flat Sensor.enc xs)) (hs : ∀ x ∈ xs, x.id.size ≤ maxLen) (hn : xs.length ≤ 1048576) (hv2 : SlSS lo2 hi2 w v2 ss) (hn2 : totN nSS ss + ss.length ≤ 1048576) :
    Calls Try.prog 32 #[v, v2] w fun e w' => e = .returned (.tuple #[.int .i64 (firR xs ss).1, .int .i64 (firR xs ss).2.1, .int .i64 (firR xs ss).2.2]) ∧ Ext w w' := by
  have hv0 := hv
  obtain ⟨hhi, _, A, c, rfl, hnc, hcm, hcell⟩ := hv0
  obtain ⟨ys, hys, ⟨hhi2, _, A2, c2, rfl, hnc2, hcm2, hcell2⟩, hin⟩ := hv2.opn
  have HY := hid hys
  have HT := hid (fun k (hk : k < ss.length) => (show ss[k].length ≤ totN nSS ss from totN_mem nSS ss k hk))
  clear hys hv2
  cases h1 : sensorsB xs
  · have HQ := hid (firR_a (ss := ss) h1)
    go_enter Try.func32, Try.ntmps32
    go_wp2_with (go_at_call 76; refine (cv (sensorsS xs lo hi _ _ hv hs hn) (vb h1)).mono ?_; rintro e w1 ⟨rfl, hE⟩)
    go_ret3
    exact ⟨by rw [HQ.out]; rfl, hE⟩
  have h16 := sensors_len h1
  by_cases h2 : ss.length = xs.length
  case neg =>
    have HQ := hid (firR_b h1 h2)
    have h2' : ¬ (ss.length : Int) = xs.length := by omega
    go_enter Try.func32, Try.ntmps32
    go_wp2_with (go_at_call 76; refine (cv (sensorsS xs lo hi _ _ hv hs hn) (vb h1)).mono ?_; rintro e w1 ⟨rfl, hE⟩)
    go_ret3
    exact ⟨by rw [HQ.out]; rfl, hE⟩
  have HS := hid h1
  have H2 := hid h2
  rw [h2]
  clear h2
  go_enter Try.func32, Try.ntmps32
  go_wp2_with (go_at_call 76; refine (cv (sensorsS xs lo hi _ _ hv hs hn) (vb h1)).mono ?_; rintro e w1 ⟨rfl, hE⟩)
  go_loopw [7] (fun i wr => ∃ k : Nat, k ≤ xs.length ∧ i = .int .i64 k ∧ Hid (∀ j (h : j < ss.length), j < k → seriesB ss[j] = true) ∧ Ext w wr) (fun i _ => xs.length - (intOf i).toNat)
  case atStart => exact ⟨0, Nat.zero_le _, rfl, hid (fun j h hj => absurd hj (by omega)), hE⟩
  case round =>
    obtain ⟨k, hk, rfl, hall, hE2⟩ := hrel
    by_cases hlt : k < xs.length
    · have hlt2 : k < ss.length := by have := H2.out; omega
      obtain ⟨b, off, rfl, hb1, hb2, hc⟩ := hcell2 (by omega)
      obtain ⟨Au, cu, c0, hu⟩ := SS.at_ HY.out hin hc hE2 (by omega) k hlt2
      have hq := HT.out k hlt2
      clear hc hcell hcell2
      cases hp : seriesB ss[k]
      · have HQ := hid (firR_c HS.out (badS_yes k hlt2 hp))
        go_wp2_with (go_at_call 77; refine (cv (l24Series ss[k] _ _ _ _ hu (by omega)) (vb hp)).mono ?_; rintro e w' ⟨rfl, rfl⟩)
        go_ret3
        exact ⟨by rw [HQ.out]; rfl, hE2⟩
      · go_wp2_with (go_at_call 77; refine (cv (l24Series ss[k] _ _ _ _ hu (by omega)) (vb hp)).mono ?_; rintro e w' ⟨rfl, rfl⟩)
        go_roundw
        case rel => exact ⟨k + 1, by omega, by go_num, hid (fun j h hj => by rcases Nat.lt_succ_iff_lt_or_eq.1 hj with h1 | rfl; exact hall.out j h h1; exact hp), hE2⟩
        case measure => simp [intOf]; omega
    · obtain rfl : k = xs.length := by omega
      have HB := hid (badS_no fun j h => hall.out j h (by have := H2.out; omega))
      go_wp2
      go_loopw [8, 9, 10] (fun p q i wr => ∃ k : Nat, k ≤ xs.length ∧ i = .int .i64 k ∧ p = .int .i64 (fTo xs ss k).1 ∧ q = .int .i64 (fTo xs ss k).2 ∧ Ext w wr) (fun _ _ i _ => xs.length - (intOf i).toNat)
      case atStart => exact ⟨0, Nat.zero_le _, rfl, rfl, rfl, hE2⟩
      case round =>
        obtain ⟨k, hk, rfl, rfl, rfl, hE3⟩ := hrel
        by_cases hlt : k < xs.length
        · have hlt2 : k < ss.length := by have := H2.out; omega
          have hki : (k : Int) < xs.length := by omega
          obtain ⟨b, off, rfl, hb1, hb2, hc⟩ := hcell (by omega)
          obtain ⟨b2, off2, rfl, hb3, hb4, hc2⟩ := hcell2 (by omega)
          obtain ⟨Au, cu, c0, hu⟩ := SS.at_ HY.out hin hc2 hE3 (by omega) k hlt2
          have hbw : b < w.heap.size := by omega
          have hz3 := hE3.size
          have HA : ∀ W, Ext wr W → Sensor.At W b (off + k * 5) xs[k] := fun W hW => Sensor.at_of hc (Ext.tr hE3 hW) hbw k hlt
          have HU : ∀ W, Ext wr W → Sl lo2 hi2 W 1 (.slice Au ss[k].length cu) ss[k].length (flat encI ss[k]) := fun W hW => hu.ext hW
          have y0 : ∀ W, Ext wr W → W.cell? ⟨b2, off2 + k, none⟩ = some (.slice Au ss[k].length cu) := fun W hW => ((bcell hW).1 b2 (off2 + k) (by omega)).trans c0
          have hbz : ∀ W, Ext wr W → b < W.heap.size := fun W hW => by have := hW.size; omega
          have hsr := badS_at HB.out k hlt2
          have hx := sensors_at HS.out k hlt
          have hxx := sensorB_le hx
          have hah := alarms_hd xs[k] ss[k] hxx.2.2.2.1 hxx.2.2.1
          have HF := hid (fTo_succ xs ss k hlt hlt2)
          have HX := hid hx
          have HR := hid hsr
          clear hc hc2 hcell hcell2 c0 hu hxx hx hsr
          generalize fTo xs ss k = p at *
          by_cases ha : alarms xs[k] ss[k] = []
          · have HF2 := hid (HF.out.trans (fStep_nil ha))
            go_wp2_with fail
            go_region_held3 (fun W => Ext wr W) (first | assumption | exact Ext.drewN _ 1 | exact Ext.tr (by assumption) hE9) (first | (go_at_call 70; refine (l24AlarmsO xs[k] ss[k] b (off + k * 5) _ _ _ _ HX.out (hbz _ (by assumption)) (HA _ (by assumption)).2.2.1 (HA _ (by assumption)).2.2.2.1 (HA _ (by assumption)).2.2.2.2 (HU _ (by assumption)) HR.out).mono ?_; rintro e w9 ⟨⟨v9, rfl, ho9⟩, hE9⟩; obtain ⟨A9, c9, rfl⟩ := SS.nil ho9.sl ha))
            all_goals
              go_wp2
              go_roundw
              case rel => exact ⟨k + 1, by omega, by go_num, by rw [HF2.out], by rw [HF2.out], Ext.tr hE3 (by assumption)⟩
              case measure => simp [intOf]; omega
          have hb1 := hah ha
          by_cases hp : p.1 < 0
          · have HF2 := hid (HF.out.trans (fStep_set ha (.inl hp)))
            go_wp2_with fail
            go_region_held3 (fun W => Ext wr W) (first | assumption | exact Ext.drewN _ 1 | exact Ext.tr (by assumption) hE9) (first | (go_at_call 70; refine (l24AlarmsO xs[k] ss[k] b (off + k * 5) _ _ _ _ HX.out (hbz _ (by assumption)) (HA _ (by assumption)).2.2.1 (HA _ (by assumption)).2.2.2.1 (HA _ (by assumption)).2.2.2.2 (HU _ (by assumption)) HR.out).mono ?_; rintro e w9 ⟨⟨v9, rfl, ho9⟩, hE9⟩; obtain ⟨b9, o9, n9, c9, b8, o8, n8, c8, rfl, hn9, d9, hn8, d8⟩ := SS.head ho9.sl ha hb1))
            all_goals
              go_wp2
              go_roundw
              case rel => exact ⟨k + 1, by omega, by go_num, by rw [HF2.out], by rw [HF2.out], Ext.tr hE3 (by assumption)⟩
              case measure => simp [intOf]; omega
          by_cases hq : fst_ (alarms xs[k] ss[k]) < p.2
          · have HF2 := hid (HF.out.trans (fStep_set ha (.inr hq)))
            go_wp2_with fail
            go_region_held3 (fun W => Ext wr W) (first | assumption | exact Ext.drewN _ 1 | exact Ext.tr (by assumption) hE9) (first | (go_at_call 70; refine (l24AlarmsO xs[k] ss[k] b (off + k * 5) _ _ _ _ HX.out (hbz _ (by assumption)) (HA _ (by assumption)).2.2.1 (HA _ (by assumption)).2.2.2.1 (HA _ (by assumption)).2.2.2.2 (HU _ (by assumption)) HR.out).mono ?_; rintro e w9 ⟨⟨v9, rfl, ho9⟩, hE9⟩; obtain ⟨b9, o9, n9, c9, b8, o8, n8, c8, rfl, hn9, d9, hn8, d8⟩ := SS.head ho9.sl ha hb1))
            all_goals
              go_wp2
              go_roundw
              case rel => exact ⟨k + 1, by omega, by go_num, by rw [HF2.out], by rw [HF2.out], Ext.tr hE3 (by assumption)⟩
              case measure => simp [intOf]; omega
          · have HF2 := hid (HF.out.trans (fStep_keep ha (fun h => h.elim hp hq)))
            go_wp2_with fail
            go_region_held3 (fun W => Ext wr W) (first | assumption | exact Ext.drewN _ 1 | exact Ext.tr (by assumption) hE9) (first | (go_at_call 70; refine (l24AlarmsO xs[k] ss[k] b (off + k * 5) _ _ _ _ HX.out (hbz _ (by assumption)) (HA _ (by assumption)).2.2.1 (HA _ (by assumption)).2.2.2.1 (HA _ (by assumption)).2.2.2.2 (HU _ (by assumption)) HR.out).mono ?_; rintro e w9 ⟨⟨v9, rfl, ho9⟩, hE9⟩; obtain ⟨b9, o9, n9, c9, b8, o8, n8, c8, rfl, hn9, d9, hn8, d8⟩ := SS.head ho9.sl ha hb1))
            all_goals
              go_wp2
              go_roundw
              case rel => exact ⟨k + 1, by omega, by go_num, by rw [HF2.out], by rw [HF2.out], Ext.tr hE3 (by assumption)⟩
              case measure => simp [intOf]; omega
        · obtain rfl : k = xs.length := by omega
          by_cases h4 : (fTo xs ss xs.length).1 < 0
          · have HQ := hid (firR_d HS.out H2.out HB.out h4)
            go_wp2
            go_ret3
            exact ⟨by rw [HQ.out]; rfl, hE3⟩
          · have HQ := hid (firR_e HS.out H2.out HB.out h4)
            go_wp2
            go_ret3
            exact ⟨by rw [HQ.out]; rfl, hE3⟩
end Go.Proofs.Ytopjccbjdcoanaa
