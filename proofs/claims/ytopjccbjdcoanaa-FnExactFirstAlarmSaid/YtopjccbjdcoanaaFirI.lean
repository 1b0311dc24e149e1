/- The contract of the program's FirstAlarm. -/
import Derived.Test.YtopjccbjdcoanaaFir
namespace Go.Proofs.Ytopjccbjdcoanaa
set_option linter.unusedVariables false
open Go.RowKit
theorem cell_lt {w : World} {a : Addr} {v : Value} (h : w.cell? a = some v) : a.block < w.heap.size := by
  unfold World.cell? at h
  split at h
  · rename_i he
    exact (Array.getElem?_eq_some_iff.1 he).1
  · cases h
theorem badCl (s : List Int) (lo hi : Nat) (v : Value) (w : World) (hv : Sl lo hi w 1 v s.length (flat encI s)) (hn : s.length ≤ 1048576) :
    Calls Try.prog 66 #[v] w fun e w' => e = .returned (.bool (!seriesB s)) ∧ Ext w w' := by
  go_enter Try.func66, Try.ntmps66
  go_wp2_with (go_at_call 67; refine (seriesOk s lo hi _ _ hv hn).mono ?_; rintro e w2 ⟨rfl, hE2⟩)
  go_ret
  exact ⟨rfl, hE2⟩
set_option maxRecDepth 100000 in
theorem idxBad (ss : List (List Int)) (lo hi : Nat) (v : Value) (w : World) (hv : SlSS lo hi w v ss) (hn2 : totN nSS ss + ss.length ≤ 1048576) :
    Calls Try.prog 89 #[v, .func (.func 66) #[] #[]] w fun e w' => idxP (badS ss) e ∧ Ext w w' := by
  obtain ⟨ys, hys, ⟨hhi, _, A, c, rfl, hnc, hcm, hcell⟩, hin⟩ := hv.opn
  have HY := hid hys
  have HT := hid (fun k (hk : k < ss.length) => (show ss[k].length ≤ totN nSS ss from totN_mem nSS ss k hk))
  clear hys hv
  go_enter Try.func89, Try.ntmps89
  go_wp2
  go_loopw [8] (fun i wr => ∃ k : Nat, k ≤ ss.length ∧ i = .int .i64 k ∧ Hid (∀ j (h : j < ss.length), j < k → seriesB ss[j] = true) ∧ Ext w wr) (fun i _ => ss.length - (intOf i).toNat)
  case atStart => exact ⟨0, Nat.zero_le _, rfl, hid (fun j h hj => absurd hj (by omega)), Below.refl _ _⟩
  case round =>
    obtain ⟨k, hk, rfl, hall, hE⟩ := hrel
    by_cases hlt : k < ss.length
    · obtain ⟨b, off, rfl, hb1, hb2, hc⟩ := hcell (by omega)
      obtain ⟨Au, cu, c0, hu⟩ := SS.at_ HY.out hin hc hE (by omega) k hlt
      have hq := HT.out k hlt
      clear hc hcell
      cases hp : seriesB ss[k]
      · have HQ := hid (badS_yes k hlt hp)
        have hp2 : (!seriesB ss[k]) = true := by rw [hp]; rfl
        go_wp2_with (go_at_call 66; refine (cv (badCl ss[k] _ _ _ _ hu (by omega)) (vb hp2)).mono ?_; rintro e w2 ⟨rfl, hE2⟩)
        go_ret
        exact ⟨idxP_yes k HQ.out, Ext.tr hE hE2⟩
      · have hp2 : (!seriesB ss[k]) = false := by rw [hp]; rfl
        go_wp2_with (go_at_call 66; refine (cv (badCl ss[k] _ _ _ _ hu (by omega)) (vb hp2)).mono ?_; rintro e w2 ⟨rfl, hE2⟩)
        go_roundw
        case rel => exact ⟨k + 1, by omega, by go_num, hid (fun j h hj => by rcases Nat.lt_succ_iff_lt_or_eq.1 hj with h1 | rfl; exact hall.out j h h1; exact hp), Ext.tr hE hE2⟩
        case measure => simp [intOf]; omega
    · obtain rfl : k = ss.length := by omega
      go_wp2
      go_ret
      exact ⟨idxP_no (badS_no fun j h => hall.out j h h), hE⟩
theorem anyBad (ss : List (List Int)) (lo hi : Nat) (v : Value) (w : World) (hv : SlSS lo hi w v ss) (hn2 : totN nSS ss + ss.length ≤ 1048576) :
    Calls Try.prog 51 #[v, .func (.func 66) #[] #[]] w fun e w' => e = .returned (.bool (badS ss)) ∧ Ext w w' := by
  go_enter Try.func51, Try.ntmps51
  go_wp2_with (go_at_call 89; refine (idxBad ss lo hi v _ hv hn2).mono ?_; rintro e w' ⟨⟨r, rfl, hr⟩, hE⟩)
  all_goals
    go_ret
    refine ⟨ret_bool ?_, hE⟩
    go_tidy
    cases hA : badS ss <;> rw [hA] at hr <;> simp at hr ⊢ <;> omega
set_option maxRecDepth 100000 in
set_option maxHeartbeats 2000000 in
theorem implFirstAlarm (xs : List Sensor) (ss : List (List Int)) (lo hi lo2 hi2 : Nat) (v v2 : Value) (w : World) (hv : Sl lo hi w 5 v xs.length (flat Sensor.enc xs)) (hs : ∀ x ∈ xs, x.id.size ≤ maxLen) (hn : xs.length ≤ 1048576) (hv2 : SlSS lo2 hi2 w v2 ss) (hn2 : totN nSS ss + ss.length ≤ 1048576) :
    Calls Try.prog 16 #[v, v2] w fun e w' => e = .returned (.tuple #[.int .i64 (firR xs ss).1, .int .i64 (firR xs ss).2.1, .int .i64 (firR xs ss).2.2]) ∧ Ext w w' := by
  have hv0 := hv
  obtain ⟨hhi, _, A, c, rfl, hnc, hcm, hcell⟩ := hv0
  have hv20 := hv2
  obtain ⟨ys, hys, ⟨hhi2, _, A2, c2, rfl, hnc2, hcm2, hcell2⟩, hin⟩ := hv20.opn
  have HY := hid hys
  have HV2 := hid hv2
  clear hys hv20
  cases h1 : sensorsB xs
  · have HQ := hid (firR_a (ss := ss) h1)
    go_enter Try.func16, Try.ntmps16
    go_wp2_with (go_at_call 65; refine (cv (sensorsI xs lo hi _ _ hv hs hn) (vb h1)).mono ?_; rintro e w1 ⟨rfl, hE⟩)
    go_ret3
    exact ⟨by rw [HQ.out]; rfl, hE⟩
  have h16 := sensors_len h1
  by_cases h2 : ss.length = xs.length
  case neg =>
    have HQ := hid (firR_b h1 h2)
    have h2' : ¬ (ss.length : Int) = xs.length := by omega
    go_enter Try.func16, Try.ntmps16
    go_wp2_with (go_at_call 65; refine (cv (sensorsI xs lo hi _ _ hv hs hn) (vb h1)).mono ?_; rintro e w1 ⟨rfl, hE⟩)
    go_ret3
    exact ⟨by rw [HQ.out]; rfl, hE⟩
  have HS := hid h1
  have H2 := hid h2
  rw [h2] at hv2 ⊢
  clear h2
  cases hB : badS ss
  case true =>
    have HQ := hid (firR_c HS.out hB)
    go_enter Try.func16, Try.ntmps16
    go_wp2_with (first | (go_at_call 65; refine (cv (sensorsI xs lo hi _ _ hv hs hn) (vb h1)).mono ?_; rintro e w1 ⟨rfl, hE⟩) | (go_at_call 51; refine (cv (anyBad ss lo2 hi2 _ _ (SlN.ext hv2 hE) hn2) (vb hB)).mono ?_; rintro e w2 ⟨rfl, hE2⟩))
    go_ret3
    exact ⟨by rw [HQ.out]; rfl, Ext.tr hE hE2⟩
  have HB := hid hB
  go_enter Try.func16, Try.ntmps16
  go_wp2_with (first | (go_at_call 65; refine (cv (sensorsI xs lo hi _ _ hv hs hn) (vb h1)).mono ?_; rintro e w1 ⟨rfl, hE⟩) | (go_at_call 51; refine (cv (anyBad ss lo2 hi2 _ _ (SlN.ext hv2 hE) hn2) (vb hB)).mono ?_; rintro e w2 ⟨rfl, hE2⟩))
  replace hE := Ext.tr hE hE2
  go_loopw [7, 8, 28] (fun p q i wr => ∃ k : Nat, k ≤ xs.length ∧ i = .int .i64 k ∧ p = .int .i64 (fTo xs ss k).1 ∧ q = .int .i64 (fTo xs ss k).2 ∧ Ext w wr) (fun _ _ i _ => xs.length - (intOf i).toNat)
  case atStart => exact ⟨0, Nat.zero_le _, rfl, rfl, rfl, hE⟩
  case round =>
    obtain ⟨k, hk, rfl, rfl, rfl, hE3⟩ := hrel
    by_cases hlt : k < xs.length
    · have hlt2 : k < ss.length := by have := H2.out; omega
      have hki : (k : Int) < xs.length := by omega
      obtain ⟨b, off, rfl, hb1, hb2, hc⟩ := hcell (by omega)
      obtain ⟨b2, off2, rfl, hb3, hb4, hc2⟩ := hcell2 (by omega)
      have hbw : b < w.heap.size := by omega
      have hb2w : b2 < w.heap.size := by omega
      obtain ⟨c0, c1, c2', c3, c4⟩ := Sensor.at_of hc hE3 hbw k hlt
      have hsr := badS_at HB.out k hlt2
      have hx := sensors_at HS.out k hlt
      have hxx := sensorB_le hx
      have hah := alarms_hd xs[k] ss[k] hxx.2.2.2.1 hxx.2.2.1
      have HF := hid (fTo_succ xs ss k hlt hlt2)
      have HX := hid hx
      have HR := hid hsr
      clear hxx hx hsr
      generalize fTo xs ss k = p at *
      go_wp2_with fail
      generalize hA : wr.alloc _ = B
      have hEB : Ext wr B := by rw [← hA]; exact Ext.new _ _
      have hBz : wr.heap.size < B.heap.size := by rw [← hA]; simp
      have x0 : ∀ W, Ext B W → W.cell? ⟨wr.heap.size, 0, none⟩ = some (.string xs[k].id) := fun W hW => (hW.cell (p := ⟨wr.heap.size, 0, none⟩) hBz).trans (by rw [← hA]; simp)
      have x1 : ∀ W, Ext B W → W.cell? ⟨wr.heap.size, 1, none⟩ = some (.int .i64 xs[k].junction) := fun W hW => (hW.cell (p := ⟨wr.heap.size, 1, none⟩) hBz).trans (by rw [← hA]; simp)
      have x2 : ∀ W, Ext B W → W.cell? ⟨wr.heap.size, 2, none⟩ = some (.int .i64 xs[k].limit) := fun W hW => (hW.cell (p := ⟨wr.heap.size, 2, none⟩) hBz).trans (by rw [← hA]; simp)
      have x3 : ∀ W, Ext B W → W.cell? ⟨wr.heap.size, 3, none⟩ = some (.int .i64 xs[k].delay) := fun W hW => (hW.cell (p := ⟨wr.heap.size, 3, none⟩) hBz).trans (by rw [← hA]; simp)
      have x4 : ∀ W, Ext B W → W.cell? ⟨wr.heap.size, 4, none⟩ = some (.int .i64 xs[k].release) := fun W hW => (hW.cell (p := ⟨wr.heap.size, 4, none⟩) hBz).trans (by rw [← hA]; simp)
      clear hA c0 c1 c2' c3 c4
      have hE4 := Ext.tr hE3 hEB
      obtain ⟨Au, cu, c0, hu⟩ := SS.at_ HY.out hin hc2 hE4 hb2w k hlt2
      have hz4 := hE4.size
      have HU : ∀ W, Ext B W → Sl lo2 hi2 W 1 (.slice Au ss[k].length cu) ss[k].length (flat encI ss[k]) := fun W hW => hu.ext hW
      have y0 : ∀ W, Ext B W → W.cell? ⟨b2, off2 + k, none⟩ = some (.slice Au ss[k].length cu) := fun W hW => ((bcell hW).1 b2 (off2 + k) (by omega)).trans c0
      clear hc hc2 hcell hcell2 c0 hu
      by_cases ha : alarms xs[k] ss[k] = []
      · have HF2 := hid (HF.out.trans (fStep_nil ha))
        go_region_held3 (fun W => Ext B W) (first | assumption | exact Ext.drewN _ 1 | exact Ext.tr (by assumption) hE9) (first | (go_at_call 68; refine (implAlarms xs[k] ss[k] _ _ _ _ HX.out (HU _ (by assumption)) HR.out).mono ?_; rintro e w9 ⟨⟨v9, rfl, ho9⟩, hE9⟩; obtain ⟨A9, c9, rfl⟩ := SS.nil ho9.sl ha))
        all_goals
          go_wp2
          go_roundw
          case rel => exact ⟨k + 1, by omega, by go_num, by rw [HF2.out], by rw [HF2.out], Ext.tr hE4 (by assumption)⟩
          case measure => simp [intOf]; omega
      have hb9 := hah ha
      by_cases hp : p.1 < 0
      · have HF2 := hid (HF.out.trans (fStep_set ha (.inl hp)))
        go_region_held3 (fun W => Ext B W) (first | assumption | exact Ext.drewN _ 1 | exact Ext.tr (by assumption) hE9) (first | (go_at_call 68; refine (implAlarms xs[k] ss[k] _ _ _ _ HX.out (HU _ (by assumption)) HR.out).mono ?_; rintro e w9 ⟨⟨v9, rfl, ho9⟩, hE9⟩; obtain ⟨b9, o9, n9, c9, b8, o8, n8, c8, rfl, hn9, d9, hn8, d8⟩ := SS.head ho9.sl ha hb9))
        all_goals
          have hS9 : Ext B w9 := by assumption
          have hz9 := ho9.1
          have g9 : ∀ W, Ext w9 W → W.cell? ⟨b9, o9, none⟩ = some (.slice (some ⟨b8, o8, none⟩) n8 c8) := fun W hW => (hW.cell (p := ⟨b9, o9, none⟩) (cell_lt d9)).trans d9
          have g8 : ∀ W, Ext w9 W → W.cell? ⟨b8, o8, none⟩ = some (.int .i64 (fst_ (alarms xs[k] ss[k]))) := fun W hW => (hW.cell (p := ⟨b8, o8, none⟩) (cell_lt d8)).trans d8
          go_wp2_with fail
          go_region_held3 (fun W => Ext w9 W) (first | assumption | exact Ext.drewN _ 1) (fail)
          all_goals
            go_wp2
            go_roundw
            case rel => exact ⟨k + 1, by omega, by go_num, by rw [HF2.out], by rw [HF2.out], Ext.tr hE4 (Ext.tr hS9 (by assumption))⟩
            case measure => simp [intOf]; omega
      by_cases hq : fst_ (alarms xs[k] ss[k]) < p.2
      · have HF2 := hid (HF.out.trans (fStep_set ha (.inr hq)))
        go_region_held3 (fun W => Ext B W) (first | assumption | exact Ext.drewN _ 1 | exact Ext.tr (by assumption) hE9) (first | (go_at_call 68; refine (implAlarms xs[k] ss[k] _ _ _ _ HX.out (HU _ (by assumption)) HR.out).mono ?_; rintro e w9 ⟨⟨v9, rfl, ho9⟩, hE9⟩; obtain ⟨b9, o9, n9, c9, b8, o8, n8, c8, rfl, hn9, d9, hn8, d8⟩ := SS.head ho9.sl ha hb9))
        all_goals
          have hS9 : Ext B w9 := by assumption
          have hz9 := ho9.1
          have g9 : ∀ W, Ext w9 W → W.cell? ⟨b9, o9, none⟩ = some (.slice (some ⟨b8, o8, none⟩) n8 c8) := fun W hW => (hW.cell (p := ⟨b9, o9, none⟩) (cell_lt d9)).trans d9
          have g8 : ∀ W, Ext w9 W → W.cell? ⟨b8, o8, none⟩ = some (.int .i64 (fst_ (alarms xs[k] ss[k]))) := fun W hW => (hW.cell (p := ⟨b8, o8, none⟩) (cell_lt d8)).trans d8
          go_wp2_with fail
          go_region_held3 (fun W => Ext w9 W) (first | assumption | exact Ext.drewN _ 1) (fail)
          all_goals
            go_wp2
            go_roundw
            case rel => exact ⟨k + 1, by omega, by go_num, by rw [HF2.out], by rw [HF2.out], Ext.tr hE4 (Ext.tr hS9 (by assumption))⟩
            case measure => simp [intOf]; omega
      · have HF2 := hid (HF.out.trans (fStep_keep ha (fun h => h.elim hp hq)))
        go_region_held3 (fun W => Ext B W) (first | assumption | exact Ext.drewN _ 1 | exact Ext.tr (by assumption) hE9) (first | (go_at_call 68; refine (implAlarms xs[k] ss[k] _ _ _ _ HX.out (HU _ (by assumption)) HR.out).mono ?_; rintro e w9 ⟨⟨v9, rfl, ho9⟩, hE9⟩; obtain ⟨b9, o9, n9, c9, b8, o8, n8, c8, rfl, hn9, d9, hn8, d8⟩ := SS.head ho9.sl ha hb9))
        all_goals
          go_wp2
          go_roundw
          case rel => exact ⟨k + 1, by omega, by go_num, by rw [HF2.out], by rw [HF2.out], Ext.tr hE4 (by assumption)⟩
          case measure => simp [intOf]; omega
    · obtain rfl : k = xs.length := by omega
      by_cases h4 : (fTo xs ss xs.length).1 < 0
      · have HQ := hid (firR_d HS.out H2.out HB.out h4)
        go_wp2
        go_ret3
        exact ⟨by rw [HQ.out]; rfl, hE3⟩
      · have HQ := hid (firR_e HS.out H2.out HB.out h4)
        go_wp2
        go_ret3
        exact ⟨by rw [HQ.out]; rfl, hE3⟩
end Go.Proofs.Ytopjccbjdcoanaa
