/- Small callees of the monitors' law: lists compared, a number looked for, a minute in an alarm. -/
import Derived.Test.YtopjccbjdcoanaaMonP
import Derived.Test.YtopjccbjdcoanaaAnyL
import Derived.Test.YtopjccbjdcoanaaDraw
namespace Go.Proofs.Ytopjccbjdcoanaa
set_option linter.unusedVariables false
open Go.RowKit
theorem b10Long (bs : List Int) (lo hi : Nat) (v : Value) (w : World) (hv : Sl lo hi w 1 v bs.length (flat encB bs)) :
    Calls Try.prog 10 #[v] w fun e w' => e = .returned (.bool (decide (1048576 < bs.length))) ∧ w = w' := by
  obtain ⟨_, _, A, c, rfl, hnc, hcm, _⟩ := hv
  unfold maxLen at hcm
  by_cases h : 1048576 < bs.length
  · have h' : (1048576 : Int) < bs.length := by omega
    go_enter Try.func10, Try.ntmps10
    go_wp2
    go_ret
    exact ⟨ret_bool (decide_eq_true h).symm, rfl⟩
  · have h' : ¬ (1048576 : Int) < bs.length := by omega
    go_enter Try.func10, Try.ntmps10
    go_wp2
    go_ret
    exact ⟨rfl, rfl⟩
theorem b10Nums (xs : List Int) (lo hi lo2 hi2 : Nat) (v v2 : Value) (w : World) (hv : Sl lo hi w 1 v xs.length (flat encI xs)) (hv2 : Sl lo2 hi2 w 1 v2 xs.length (flat encI xs)) (hn : xs.length ≤ 1048576) :
    Calls Try.prog 42 #[v, v2] w fun e w' => e = .returned (.bool true) ∧ Ext w w' := by
  obtain ⟨hhi, _, A, c, rfl, hnc, hcm, hcell⟩ := hv
  obtain ⟨hhi2, _, A2, c2, rfl, hnc2, hcm2, hcell2⟩ := hv2
  go_enter Try.func42, Try.ntmps42
  go_wp2
  go_loopw [5] (fun i wr => ∃ k : Nat, k ≤ xs.length ∧ i = .int .i64 k ∧ Hid (Ext w wr)) (fun i _ => xs.length - (intOf i).toNat)
  case atStart => exact ⟨0, Nat.zero_le _, rfl, hid (Below.refl _ _)⟩
  case round =>
    obtain ⟨k, hk, rfl, HE⟩ := hrel
    by_cases hlt : k < xs.length
    · obtain ⟨b, off, rfl, hb1, hb2, hc⟩ := hcell (by omega)
      obtain ⟨b', off', rfl, hb1', hb2', hc'⟩ := hcell2 (by omega)
      have c0 : wr.cell? ⟨b, off + k, none⟩ = some (.int .i64 xs[k]) := (HE.out.cell (p := ⟨b, off + k, none⟩) (by show b < _; omega)).trans (cellsI hc k hlt)
      have c1 : wr.cell? ⟨b', off' + k, none⟩ = some (.int .i64 xs[k]) := (HE.out.cell (p := ⟨b', off' + k, none⟩) (by show b' < _; omega)).trans (cellsI hc' k hlt)
      clear hc hc'
      go_wp2_with fail
      go_quiet (fail)
      go_wp2
      go_roundw
      case rel => exact ⟨k + 1, by omega, by go_num, hid (Ext.tr HE.out (Ext.drewN _ _))⟩
      case measure => simp [intOf]; omega
    · obtain rfl : k = xs.length := by omega
      go_wp2
      go_ret
      exact ⟨rfl, HE.out⟩
theorem b10Has (xs : List Int) (x : Int) (hx : x ∈ xs) (lo hi : Nat) (v : Value) (w : World) (hv : Sl lo hi w 1 v xs.length (flat encI xs)) (hn : xs.length ≤ 1048576) :
    Calls Try.prog 43 #[v, .int .i64 x] w fun e w' => e = .returned (.bool true) ∧ w = w' := by
  obtain ⟨hhi, _, A, c, rfl, hnc, hcm, hcell⟩ := hv
  have HX := hid hx
  clear hx
  go_enter Try.func43, Try.ntmps43
  go_wp2
  go_loop [5] (fun i => ∃ k : Nat, k ≤ xs.length ∧ i = .int .i64 k ∧ Hid (∀ j (h : j < xs.length), j < k → xs[j] ≠ x)) (fun i => xs.length - (intOf i).toNat)
  case atStart => exact ⟨0, Nat.zero_le _, rfl, hid (fun j h h2 => by omega)⟩
  case round =>
    obtain ⟨k, hk, rfl, HN⟩ := hrel
    by_cases hlt : k < xs.length
    · obtain ⟨b, off, rfl, hb1, hb2, hc⟩ := hcell (by omega)
      have c0 := cellsI hc k hlt
      clear hc
      cases he : (xs[k] == x)
      · have hne : xs[k] ≠ x := by simpa using he
        have HN2 := hid (show ∀ j (h : j < xs.length), j < k + 1 → xs[j] ≠ x from fun j h hj => by rcases Nat.lt_succ_iff_lt_or_eq.1 hj with h1 | rfl; exact HN.out j h h1; exact hne)
        clear hne
        go_wp2
        go_round
        case rel => exact ⟨k + 1, by omega, by go_num, HN2⟩
        case measure => simp [intOf]; omega
      · go_wp2
        go_ret
        exact ⟨rfl, rfl⟩
    · exfalso
      obtain ⟨j, hj, e⟩ := List.getElem_of_mem HX.out
      exact HN.out j hj (by omega) e
theorem indexValid (xs : List Int) (t : Int) (lo hi : Nat) (v : Value) (w : World) (hv : Sl lo hi w 1 v xs.length (flat encI xs)) (hn : xs.length ≤ 1048576) :
    Calls Try.prog 86 #[v, .int .i64 t] w fun e w' => e = .returned (.bool (inB t 0 ((xs.length : Int) - 1))) ∧ w = w' := by
  obtain ⟨hhi, _, A, c, rfl, hnc, hcm, hcell⟩ := hv
  go_enter Try.func86, Try.ntmps86
  go_wp2_with (go_at_call 83; refine (within _ _ _ _).mono ?_; rintro e w' ⟨rfl, rfl⟩)
  go_ret
  exact ⟨rfl, rfl⟩
def inP (t : Int) (a : List Int) : Bool := inB t (a.getD 0 0) (a.getD 1 0 - 1)
theorem inP_any (t : Int) (L : List (List Int)) : L.any (inP t) = inAny t L := by
  unfold inAny inP inB
  congr 1
  funext a
  rw [Bool.eq_iff_iff]; simp; omega
theorem inCl (t s e' : Int) (g lo hi : Nat) (A : Option Addr) (c : Nat) (W : World) (hs : Sl lo hi W 1 (.slice A 2 c) 2 (flat encI [s, e'])) (hg : W.cell? ⟨g, 0, none⟩ = some (.int .i64 t)) (hb : 0 ≤ e' ∧ e' ≤ 1000000) :
    Calls Try.prog 87 #[.slice A 2 c, .pointer (some ⟨g, 0, none⟩)] W fun e w' => e = .returned (.bool (inP t [s, e'])) ∧ Ext W w' := by
  obtain ⟨hb0, hb1⟩ := hb
  obtain ⟨hhi, _, A', c', he, hnc, hcm, hcell⟩ := hs
  simp only [Value.slice.injEq, true_and] at he
  obtain ⟨rfl, rfl⟩ := he
  obtain ⟨b, off, rfl, _, hb2, hc⟩ := hcell (by omega)
  have c0 : W.cell? ⟨b, off, none⟩ = some (.int .i64 s) := cellsI (xs := [s, e']) hc 0 (by simp)
  have c1 : W.cell? ⟨b, off + 1, none⟩ = some (.int .i64 e') := cellsI (xs := [s, e']) hc 1 (by simp)
  clear hc hcell
  go_enter Try.func87, Try.ntmps87
  go_wp2_with fail
  go_quiet ((go_at_call 83; exact Calls.quiet_of_same (qs (within _ _ _ _))))
  go_wp2
  go_ret
  exact ⟨rfl, Ext.drewN _ _⟩
theorem AlGood.at_ {x : Sensor} {ns : List Int} : ∀ {last : Int} {L : List (List Int)}, AlGood x ns last L → ∀ k (h : k < L.length), ∃ s e : Nat, L[k] = [(s : Int), (e : Int)] ∧ True ∧ Al1 x ns s e
  | _, [], _, k, h => absurd h (by simp)
  | _, a :: L, ⟨s, e, ha, _, h1, _⟩, 0, _ => ⟨s, e, ha, trivial, h1⟩
  | _, a :: L, ⟨_, _, _, _, _, h4⟩, k + 1, h => AlGood.at_ h4 k (by simpa using h)
set_option maxRecDepth 100000 in
theorem idxInA (als : List (List Int)) (p : List Int → Bool) (c1 : Value) (lo hi : Nat) (v : Value) (w : World) (hv : SlSS lo hi w v als) (hn : als.length ≤ 1048576)
    (hcl : ∀ k (h : k < als.length) (A : Option Addr) (c : Nat) (W : World), Ext w W → Sl lo hi W 1 (.slice A als[k].length c) als[k].length (flat encI als[k]) → Calls Try.prog 87 #[.slice A als[k].length c, c1] W fun e w' => e = .returned (.bool (p als[k])) ∧ Ext W w') :
    Calls Try.prog 89 #[v, .func (.func 87) #[] #[c1]] w fun e w' => idxP (als.any p) e ∧ Ext w w' := by
  obtain ⟨ys, hys, ⟨hhi, _, A, c, rfl, hnc, hcm, hcell⟩, hin⟩ := SlSS.opn hv
  have HY := hid hys
  have HI := hid hin
  have HCL := hid hcl
  clear hys hin hcl hv
  go_enter Try.func89, Try.ntmps89
  go_wp2
  go_loopw [8] (fun i wr => ∃ k : Nat, k ≤ als.length ∧ i = .int .i64 k ∧ Hid (∀ j (h : j < als.length), j < k → p als[j] = false) ∧ Ext w wr) (fun i _ => als.length - (intOf i).toNat)
  case atStart => exact ⟨0, Nat.zero_le _, rfl, hid (fun j h hj => absurd hj (by omega)), Below.refl _ _⟩
  case round =>
    obtain ⟨k, hk, rfl, hall, hE⟩ := hrel
    by_cases hlt : k < als.length
    · obtain ⟨b', off, rfl, hb1, hb2, hc⟩ := hcell (by omega)
      have hbw : b' < w.heap.size := by omega
      obtain ⟨Au, cu, c0, hu⟩ := SS.at_ HY.out HI.out hc hE hbw k hlt
      clear hc
      have HC := hid (HCL.out k hlt Au cu wr hE hu)
      cases hp : p als[k]
      · go_wp2_with (go_at_call 87; refine (cv HC.out (vb hp)).mono ?_; rintro e w2 ⟨rfl, hE2⟩)
        go_roundw
        case rel => exact ⟨k + 1, by omega, by go_num, hid (fun j h hj => by rcases Nat.lt_succ_iff_lt_or_eq.1 hj with h1 | rfl; exact hall.out j h h1; exact hp), Ext.tr hE hE2⟩
        case measure => simp [intOf]; omega
      · go_wp2_with (go_at_call 87; refine (cv HC.out (vb hp)).mono ?_; rintro e w2 ⟨rfl, hE2⟩)
        go_ret
        exact ⟨idxP_yes k (List.any_eq_true.2 ⟨_, List.getElem_mem hlt, hp⟩), Ext.tr hE hE2⟩
    · obtain rfl : k = als.length := by omega
      go_wp2
      go_ret
      exact ⟨idxP_no (any_no fun j h => hall.out j h h), hE⟩
theorem anyInA (als : List (List Int)) (p : List Int → Bool) (c1 : Value) (lo hi : Nat) (v : Value) (w : World) (hv : SlSS lo hi w v als) (hn : als.length ≤ 1048576)
    (hcl : ∀ k (h : k < als.length) (A : Option Addr) (c : Nat) (W : World), Ext w W → Sl lo hi W 1 (.slice A als[k].length c) als[k].length (flat encI als[k]) → Calls Try.prog 87 #[.slice A als[k].length c, c1] W fun e w' => e = .returned (.bool (p als[k])) ∧ Ext W w') :
    Calls Try.prog 51 #[v, .func (.func 87) #[] #[c1]] w fun e w' => e = .returned (.bool (als.any p)) ∧ Ext w w' := by
  have HX := hid (idxInA als p c1 lo hi v w hv hn hcl)
  clear hcl hv
  go_enter Try.func51, Try.ntmps51
  go_wp2_with (go_at_call 89; refine HX.out.mono ?_; rintro e w' ⟨⟨r, rfl, hr⟩, hE⟩)
  all_goals
    go_ret
    refine ⟨ret_bool ?_, hE⟩
    go_tidy
    cases hA : als.any p <;> rw [hA] at hr <;> simp at hr ⊢ <;> omega
set_option maxRecDepth 100000 in
set_option maxHeartbeats 1000000 in
theorem implInAlarm (x : Sensor) (ns : List Int) (t : Nat) (lo hi : Nat) (v : Value) (w : World) (hs : x.id.size ≤ maxLen) (hv : Sl lo hi w 1 v ns.length (flat encI ns)) (hn : ns.length ≤ 1048576) (h1 : sensorB x = true) (h2 : seriesB ns = true) (ht : t < ns.length) :
    Calls Try.prog 40 #[.agg #[.string x.id, .int .i64 x.junction, .int .i64 x.limit, .int .i64 x.delay, .int .i64 x.release], v, .int .i64 t] w fun e w' => e = .returned (.tuple #[.bool (inAny t (alarms x ns)), .int .i64 0]) ∧ Ext w w' := by
  have hX : Ext w ((w.alloc (.cells #[.string x.id, .int .i64 x.junction, .int .i64 x.limit, .int .i64 x.delay, .int .i64 x.release] 40)).alloc (.cells #[.int .i64 t] 2)) := Ext.tr (Ext.new _ _) (Ext.new _ _)
  have HB1 := hid (show Blk ((w.alloc (.cells #[.string x.id, .int .i64 x.junction, .int .i64 x.limit, .int .i64 x.delay, .int .i64 x.release] 40)).alloc (.cells #[.int .i64 t] 2)) w.heap.size 40 #[.string x.id, .int .i64 x.junction, .int .i64 x.limit, .int .i64 x.delay, .int .i64 x.release] from (Blk.new _ _ _).ext (Ext.new _ _))
  have HB2 := hid (show Blk ((w.alloc (.cells #[.string x.id, .int .i64 x.junction, .int .i64 x.limit, .int .i64 x.delay, .int .i64 x.release] 40)).alloc (.cells #[.int .i64 t] 2)) (w.heap.size + 1) 2 #[.int .i64 t] by have := Blk.new (w.alloc (.cells #[.string x.id, .int .i64 x.junction, .int .i64 x.limit, .int .i64 x.delay, .int .i64 x.release] 40)) 2 #[.int .i64 t]; simpa using this)
  have hin : inB t 0 ((ns.length : Int) - 1) = true := by unfold inB; simp; omega
  go_enter Try.func40, Try.ntmps40
  go_wp2_with fail
  generalize (w.alloc _).alloc _ = B at *
  have HX := hid hX
  clear hX
  refine (cv (sensorI x B hs) (vb h1)).mono ?_
  rintro e w1 ⟨rfl, hE1⟩
  have HE1 := hid (Ext.tr HX.out hE1)
  have HB3 := hid (HB1.out.ext hE1)
  have HB4 := hid (HB2.out.ext hE1)
  clear hE1 HB1 HB2
  have t0 : w1.cell? ⟨w.heap.size + 1, 0, none⟩ = some (.int .i64 t) := HB4.out.cell 0
  go_wp2_with fail
  refine (cv (seriesOk ns lo hi _ w1 (hv.ext HE1.out) hn) (vb h2)).mono ?_
  rintro e w2 ⟨rfl, hE2⟩
  have HE2 := hid (Ext.tr HE1.out hE2)
  have HB5 := hid (HB3.out.ext hE2)
  have HB6 := hid (HB4.out.ext hE2)
  clear hE2 HB3 HB4 t0
  have t0 : w2.cell? ⟨w.heap.size + 1, 0, none⟩ = some (.int .i64 t) := HB6.out.cell 0
  have d0 : w2.cell? ⟨w.heap.size, 0, none⟩ = some (.string x.id) := HB5.out.cell 0
  have d1 : w2.cell? ⟨w.heap.size, 1, none⟩ = some (.int .i64 x.junction) := HB5.out.cell 1
  have d2 : w2.cell? ⟨w.heap.size, 2, none⟩ = some (.int .i64 x.limit) := HB5.out.cell 2
  have d3 : w2.cell? ⟨w.heap.size, 3, none⟩ = some (.int .i64 x.delay) := HB5.out.cell 3
  have d4 : w2.cell? ⟨w.heap.size, 4, none⟩ = some (.int .i64 x.release) := HB5.out.cell 4
  have HI := hid (cv (indexValid ns t lo hi _ w2 (hv.ext HE2.out) hn) (vb hin))
  have HA := hid (implAlarms x ns lo hi v w2 h1 (hv.ext HE2.out) h2)
  obtain ⟨hx1, hx2, hx3, hx4, hx5, hx6⟩ := sensorB_le h1
  have HG := hid (alarms_good x ns (by omega) (by omega))
  clear hv hin
  go_wp2_with (first | (go_at_call 86; refine HI.out.mono ?_; rintro e w' ⟨rfl, rfl⟩) | (go_at_call 68; refine HA.out.mono ?_; rintro e w3 ⟨⟨v3, rfl, hO3⟩, hE3⟩))
  have HE3 := hid (Ext.tr HE2.out hE3)
  have HB7 := hid (HB6.out.ext hE3)
  have hg := HB7.out.lt
  have HO := hid hO3
  clear hO3 hE3 t0 d0 d1 d2 d3 d4
  have hbd := alarms_bd x ns (by omega) (by omega)
  have hns := series_len h2
  have HC := hid (anyInA (alarms x ns) (inP t) (.pointer (some ⟨w.heap.size + 1, 0, none⟩)) _ _ v3 w3 HO.out.sl (by omega) (fun k hk A c W hW hu => by
    obtain ⟨s, e', ha, _, ⟨_, he, _⟩⟩ := AlGood.at_ HG.out k hk
    rw [ha] at hu ⊢
    exact inCl t s e' (w.heap.size + 1) _ _ A c W hu ((HB7.out.ext hW).cell 0) (by omega)))
  go_wp2_with (go_at_call 51; refine (cv HC.out (vb (inP_any t (alarms x ns)))).mono ?_; rintro e w4 ⟨rfl, hE4⟩)
  go_ret2
  exact ⟨rfl, Ext.tr HE3.out hE4⟩
end Go.Proofs.Ytopjccbjdcoanaa
