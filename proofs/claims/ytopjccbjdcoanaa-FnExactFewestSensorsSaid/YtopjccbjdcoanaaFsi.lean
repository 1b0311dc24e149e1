/- The program's FewestSensors, whole. -/
import Derived.Test.YtopjccbjdcoanaaFsh
import Derived.Laws.EntriesVeiled
namespace Go.Proofs.Ytopjccbjdcoanaa
set_option linter.unusedVariables false
open Go.RowKit
theorem iota_snoc (k : Nat) : iota (k + 1) = iota k ++ [(k : Int)] := by unfold iota; rw [List.range_succ]; simp
theorem rows_any {times : List (List Int)} : (times.any fun ts => !(timesB ts && decide (ts.length = headLen times))) = !rowsB times := by
  unfold rowsB; rw [List.any_eq_not_all_not]; simp
theorem budgetValid (b : Int) (w : World) : Calls Try.prog 52 #[.int .i64 b] w fun e w' => e = .returned (.bool (inB b 1 20000)) ∧ w = w' := by
  go_enter Try.func52, Try.ntmps52
  go_wp2_with (go_at_call 83; refine (within _ _ _ _).mono ?_; rintro e w' ⟨rfl, rfl⟩)
  go_ret
  exact ⟨rfl, rfl⟩
theorem firstG_len (R : List Int → Bool) (P : Nat) (s : List Int) : ∀ (k n : Nat) (b : Int), 0 ≤ b → (firstG R P k n b).1 = some s → s.length < n + k
  | 0, n, b, _, h => by cases h
  | k + 1, n, b, hb, h => by
    have hl := extS_len R P n 0 [] b
    rw [firstG_succ R P k n b hb] at h
    split at h
    · rename_i h1
      have := hl h1
      simp only [Option.some.injEq] at h
      rw [← h, this]; simp
    · split at h
      · cases h
      · rename_i h2
        have := firstG_len R P s k (n + 1) _ (by simpa using h2) h
        omega
theorem fewR_len (times : List (List Int)) (limit budget : Int) (hP : headLen times ≤ 16) (hb : 0 ≤ budget) : (fewR times limit budget).1.length ≤ 17 := by
  unfold fewR
  split
  · split
    · rename_i h
      obtain ⟨s, hs⟩ := Option.isSome_iff_exists.1 h
      rw [hs]
      have := firstG_len _ _ s _ _ _ hb hs
      show s.length ≤ 17
      omega
    · split <;> simp
  · simp
theorem firstAt (times : List (List Int)) (limit budget : Int) (lo hi gt gl llo lhi : Nat) (tv lv : Value) (w wr : World) (hE : Ext w wr) (hv : SlSS lo hi w tv times) (hF : fewOk times limit budget = true) (hnt : times.length ≤ 16) (hrows : rowsB times = true) (hb : 0 ≤ budget ∧ budget ≤ 20000) (hlv : Sl llo lhi wr 1 lv (headLen times) (flat encI (iota (headLen times)))) (d3 : wr.cell? ⟨gt, 0, none⟩ = some tv) (d4 : wr.cell? ⟨gl, 0, none⟩ = some (.int .i64 limit)) (l3 : gt < wr.heap.size) (l4 : gl < wr.heap.size) :
    Calls Try.prog 56 #[.pointer (some ⟨wr.heap.size, 0, none⟩)] (wr.alloc (.cells #[lv, .func (.func 53) #[] #[.pointer (some ⟨gt, 0, none⟩), .pointer (some ⟨gl, 0, none⟩)], .int .i64 budget, .slice none 0 0] 78)) fun e w' => (∃ v', e = .returned (.tuple #[v', .int .i64 (fewR times limit budget).2]) ∧ Own w.heap.size w'.heap.size w' 2 1 v' (fewR times limit budget).1.length (flat encI (fewR times limit budget).1)) ∧ Ext w w' := by
  have hP := head_le hrows
  have hX := Ext.new wr (.cells #[lv, .func (.func 53) #[] #[.pointer (some ⟨gt, 0, none⟩), .pointer (some ⟨gl, 0, none⟩)], .int .i64 budget, .slice none 0 0] 78)
  have hvr : SlSS lo hi wr tv times := SlN.ext hv hE
  have hhi : hi ≤ wr.heap.size := by
    obtain ⟨_, _, ⟨h, _⟩, _⟩ := SlSS.opn hvr; exact h
  have hz := hE.size
  refine (firstI times limit budget _ _ lv llo lhi wr.heap.size _ hF ?_ (hlv.ext hX) hlv.1 hP (Blk.new wr _ _) hb).mono ?_
  · intro W set sv lo2 hi2 hB hs hp hset
    have hB2 := Below.trans hX hB
    exact rightC times set limit tv sv (headLen times) gt gl lo hi lo2 hi2 W (SlSS.below hvr hB2 hhi) (fun k h => (rows_at hrows k h).2) hnt hP hs ((hB2.cell (p := ⟨gt, 0, none⟩) l3).trans d3) ((hB2.cell (p := ⟨gl, 0, none⟩) l4).trans d4) (Nat.lt_of_lt_of_le l3 hB2.size) (Nat.lt_of_lt_of_le l4 hB2.size) hp hset
  · rintro e w' ⟨⟨v', he, ho⟩, hB⟩
    have hl := fewR_len times limit budget hP hb.1
    exact ⟨⟨v', he, Own.of (row_base ho (by omega)) (by omega)⟩, Ext.tr hE (Below.trans hX hB)⟩
def wrongP (times : List (List Int)) (ts : List Int) : Bool := !(timesB ts && decide (ts.length = headLen times))
set_option maxRecDepth 100000 in
set_option maxHeartbeats 1000000 in
theorem implFewestSensors (times : List (List Int)) (limit budget : Int) (lo hi : Nat) (v : Value) (w : World) (hv : SlSS lo hi w v times) (hn : totN nSS times + times.length ≤ 1048576) :
    Calls Try.prog 12 #[v, .int .i64 limit, .int .i64 budget] w fun e w' => (∃ v', e = .returned (.tuple #[v', .int .i64 (fewR times limit budget).2]) ∧ Own w.heap.size w'.heap.size w' 2 1 v' (fewR times limit budget).1.length (flat encI (fewR times limit budget).1)) ∧ Ext w w' := by
  obtain ⟨At, ct, rfl, hnct, hcct⟩ := SlSS.slice hv
  have HV := hid hv
  clear hv
  have HX : Hid (Ext w ((w.alloc (.cells #[.slice At times.length ct] 24)).alloc (.cells #[.int .i64 limit] 2))) := hid (Ext.tr (Ext.new _ _) (Ext.new _ _))
  have HB1 : Hid (Blk ((w.alloc (.cells #[.slice At times.length ct] 24)).alloc (.cells #[.int .i64 limit] 2)) w.heap.size 24 #[.slice At times.length ct]) := hid ((Blk.new _ _ _).ext (Ext.new _ _))
  have HB2 : Hid (Blk ((w.alloc (.cells #[.slice At times.length ct] 24)).alloc (.cells #[.int .i64 limit] 2)) (w.heap.size + 1) 2 #[.int .i64 limit]) := hid (by have := Blk.new (w.alloc (.cells #[.slice At times.length ct] 24)) 2 #[.int .i64 limit]; simpa using this)
  by_cases h1 : times.length ≤ 16
  case neg =>
    have HQ := hid (fewR_a (limit := limit) (budget := budget) (show fewOk times limit budget = false by unfold fewOk; simp [h1]))
    have h1' : (16 : Int) < times.length := by omega
    go_enter Try.func12, Try.ntmps12
    go_wp2
    go_ret2
    exact ⟨⟨_, by rw [HQ.out]; rfl, by rw [HQ.out]; exact Own.nil _ _ HX.out⟩, HX.out⟩
  have hgz : w.heap.size + 1 < ((w.alloc (.cells #[.slice At times.length ct] 24)).alloc (.cells #[.int .i64 limit] 2)).heap.size := HB2.out.lt
  have HGZ := hid hgz
  clear hgz
  have HC := hid (anyWrong times (wrongP times) (.pointer (some ⟨w.heap.size, 0, none⟩)) lo hi _ _ (SlN.ext HV.out HX.out) (by omega) (fun k hk A c W hE hu => wrongC times times[k] _ w.heap.size lo hi A c W hu ((HB1.out.ext hE).cell 0) (HB1.out.ext hE).lt (SlN.ext HV.out (Ext.tr HX.out hE)) (by omega) h1 (by have := totN_mem nSS times k hk; show nSS.n times[k] ≤ _; omega)))
  have HA := hid (show times.any (wrongP times) = !rowsB times from rows_any)
  cases h4 : rowsB times
  · have HQ := hid (fewR_a (show fewOk times limit budget = false by unfold fewOk; rw [h4]; simp))
    go_enter Try.func12, Try.ntmps12
    go_wp2_with (go_at_call 51; refine (cv HC.out (vb (HA.out.trans (show (!rowsB times) = true by rw [h4]; rfl)))).mono ?_; rintro e w2 ⟨rfl, hE2⟩)
    go_ret2
    exact ⟨⟨_, by rw [HQ.out]; rfl, by rw [HQ.out]; exact Own.nil _ _ (Ext.tr HX.out hE2)⟩, Ext.tr HX.out hE2⟩
  by_cases h2 : 0 ≤ limit
  case neg =>
    have HQ := hid (fewR_a (budget := budget) (show fewOk times limit budget = false by unfold fewOk; simp [h2]))
    go_enter Try.func12, Try.ntmps12
    go_wp2_with (go_at_call 51; refine (cv HC.out (vb (HA.out.trans (show (!rowsB times) = false by rw [h4]; rfl)))).mono ?_; rintro e w2 ⟨rfl, hE2⟩; have d3 : w2.cell? ⟨w.heap.size, 0, none⟩ = some (.slice At times.length ct) := (HB1.out.ext hE2).cell 0; have d4 : w2.cell? ⟨w.heap.size + 1, 0, none⟩ = some (.int .i64 limit) := (HB2.out.ext hE2).cell 0)
    go_ret2
    exact ⟨⟨_, by rw [HQ.out]; rfl, by rw [HQ.out]; exact Own.nil _ _ (Ext.tr HX.out hE2)⟩, Ext.tr HX.out hE2⟩
  cases h3 : inB budget 1 20000
  · have HQ := hid (fewR_a (limit := limit) (show fewOk times limit budget = false by unfold fewOk; rw [h3]; simp))
    go_enter Try.func12, Try.ntmps12
    go_wp2_with (first | (go_at_call 51; refine (cv HC.out (vb (HA.out.trans (show (!rowsB times) = false by rw [h4]; rfl)))).mono ?_; rintro e w2 ⟨rfl, hE2⟩; have d3 : w2.cell? ⟨w.heap.size, 0, none⟩ = some (.slice At times.length ct) := (HB1.out.ext hE2).cell 0; have d4 : w2.cell? ⟨w.heap.size + 1, 0, none⟩ = some (.int .i64 limit) := (HB2.out.ext hE2).cell 0) | (go_at_call 52; refine (cv (budgetValid _ _) (vb h3)).mono ?_; rintro e w3 ⟨rfl, rfl⟩))
    go_ret2
    exact ⟨⟨_, by rw [HQ.out]; rfl, by rw [HQ.out]; exact Own.nil _ _ (Ext.tr HX.out hE2)⟩, Ext.tr HX.out hE2⟩
  have HF := hid (show fewOk times limit budget = true by unfold fewOk; rw [h4, h3]; simp [h1, h2])
  have hbu : 1 ≤ budget ∧ budget ≤ 20000 := by unfold inB at h3; simpa using h3
  have hP := head_le h4
  have HRW := hid h4
  clear h4 h3
  have h3 : inB budget 1 20000 = true := by unfold inB; simp; omega
  by_cases h0 : times.length = 0
  · have hh0 : headLen times = 0 := by rw [List.length_eq_zero_iff.1 h0]; rfl
    have HN0 : ∀ W, Sl 0 0 W 1 (.slice none 0 0) (headLen times) (flat encI (iota (headLen times))) := fun W => by rw [hh0]; exact ⟨Nat.zero_le _, rfl, none, 0, rfl, Nat.le_refl _, Nat.zero_le _, fun h => absurd h (by omega)⟩
    have HN := hid HN0
    clear HN0 hh0
    have hl0 : ¬ (0 : Int) < times.length := by omega
    have hl0' : ¬ 0 < times.length := by omega
    have H0 := hid h0
    clear h0
    go_enter Try.func12, Try.ntmps12
    go_wp2_with (first | (go_at_call 51; refine (cv HC.out (vb (HA.out.trans (show (!rowsB times) = false by rw [HRW.out]; rfl)))).mono ?_; rintro e w2 ⟨rfl, hE2⟩; have d3 : w2.cell? ⟨w.heap.size, 0, none⟩ = some (.slice At times.length ct) := (HB1.out.ext hE2).cell 0; have d4 : w2.cell? ⟨w.heap.size + 1, 0, none⟩ = some (.int .i64 limit) := (HB2.out.ext hE2).cell 0) | (go_at_call 52; refine (cv (budgetValid _ _) (vb h3)).mono ?_; rintro e w3 ⟨rfl, rfl⟩) | (go_at_call 56; refine (firstAt times limit budget lo hi w.heap.size (w.heap.size + 1) 0 0 _ _ w w2 (Ext.tr HX.out hE2) HV.out HF.out h1 HRW.out ⟨by omega, by omega⟩ (HN.out w2) d3 d4 (HB1.out.ext hE2).lt (HB2.out.ext hE2).lt).mono ?_; rintro e w4 ⟨⟨v4, rfl, ho4⟩, hE4⟩))
    go_ret2
    exact ⟨⟨_, rfl, ho4⟩, hE4⟩
  · have hl0 : (0 : Int) < times.length := by omega
    have hl0' : 0 < times.length := by omega
    clear h0
    have hhw : hi ≤ w.heap.size := by
      obtain ⟨_, _, ⟨h, _⟩, _⟩ := SlSS.opn HV.out; exact h
    obtain ⟨ys, hys, ⟨_, _, A', c', he, _, _, hcell⟩, hin⟩ := SlSS.opn HV.out
    simp only [Value.slice.injEq, true_and] at he
    obtain ⟨rfl, rfl⟩ := he
    obtain ⟨bt, ot, rfl, _, hbt, hc⟩ := hcell hl0'
    have hbtw : bt < w.heap.size := by omega
    have HROW : Hid (∀ W, Ext w W → ∃ A0 c0, W.cell? ⟨bt, ot, none⟩ = some (.slice A0 (headLen times) c0)) := hid (fun W hW => by
      obtain ⟨A0, c0, h, _⟩ := SS.at_ hys hin hc hW hbtw 0 hl0'
      exact ⟨A0, c0, by rw [head_at hl0']; exact h⟩)
    clear hys hin hcell hc
    go_enter Try.func12, Try.ntmps12
    go_wp2_with (first | (go_at_call 51; refine (cv HC.out (vb (HA.out.trans (show (!rowsB times) = false by rw [HRW.out]; rfl)))).mono ?_; rintro e w2 ⟨rfl, hE2⟩; have d3 : w2.cell? ⟨w.heap.size, 0, none⟩ = some (.slice (some ⟨bt, ot, none⟩) times.length ct) := (HB1.out.ext hE2).cell 0; have d4 : w2.cell? ⟨w.heap.size + 1, 0, none⟩ = some (.int .i64 limit) := (HB2.out.ext hE2).cell 0; obtain ⟨A0, c0, d0⟩ := HROW.out w2 (Ext.tr HX.out hE2); have HE2 := hid hE2; clear hE2) | (go_at_call 52; refine (cv (budgetValid _ _) (vb h3)).mono ?_; rintro e w3 ⟨rfl, rfl⟩))
    have HD3 := hid d3
    have HD4 := hid d4
    have l3 := (HB1.out.ext HE2.out).lt
    have l4 := (HB2.out.ext HE2.out).lt
    clear d3 d4 d0
    go_loopw [9, 37] (fun v9 i W => ∃ (k : Nat), i = .int .i64 k ∧ k ≤ headLen times ∧ Hid (W.ownsRow w2.heap.size 2 1 v9 k (flat encI (iota k))) ∧ Hid (Ext w2 W)) (fun _ i _ => headLen times - (intOf i).toNat)
    case atStart => exact ⟨0, rfl, Nat.zero_le _, hid ⟨rfl, .inl ⟨rfl, rfl⟩⟩, hid (Below.refl _ _)⟩
    case round =>
      obtain ⟨k, rfl, hk, HO, HE3⟩ := hrel
      by_cases hkl : k < headLen times
      · have hz3 := HE3.out.size
        go_wp2_with (at_builtin; refine wp_append1 wr rfl (.tmp 40) (.tmp 42) _ rfl w2.heap.size 2 1 8 _ Try.underlying27 infoInt rfl (by omega) (by omega) _ _ _ HO.out rfl [.int .i64 k] rfl (by simp [Value.oneCell']) _ rfl rfl (by omega) hz3 ?_; intro v' w' ho' hb')
        go_roundw
        case rel => exact ⟨k + 1, by go_num, by omega, hid (by rw [iota_snoc, flat_snoc]; exact ho'), hid (HE3.out.trans hb')⟩
        case measure => simp [intOf]; omega
      · obtain rfl : k = headLen times := by omega
        have hS := Sl.of_own HO.out (by unfold maxLen; omega)
        have HS := hid hS
        have e3 := (HE3.out.cell (p := ⟨w.heap.size, 0, none⟩) l3).trans HD3.out
        have e4 := (HE3.out.cell (p := ⟨w.heap.size + 1, 0, none⟩) l4).trans HD4.out
        have l3' := Nat.lt_of_lt_of_le l3 HE3.out.size
        have l4' := Nat.lt_of_lt_of_le l4 HE3.out.size
        clear hS
        obtain ⟨A9, c9, rfl⟩ := own_slice HO.out
        go_wp2_with (go_at_call 56; refine (firstAt times limit budget lo hi w.heap.size (w.heap.size + 1) _ _ _ _ w wr (Ext.tr (Ext.tr HX.out HE2.out) HE3.out) HV.out HF.out h1 HRW.out ⟨by omega, by omega⟩ HS.out e3 e4 l3' l4').mono ?_; rintro e w4 ⟨⟨v4, rfl, ho4⟩, hE4⟩)
        go_ret2
        exact ⟨⟨_, rfl, ho4⟩, hE4⟩
end Go.Proofs.Ytopjccbjdcoanaa
