/- Contracts of PlanDrills in both packages: the plain words and the small callees. -/
import Derived.Test.YtibmcailjodpkaaPlan
import Derived.Test.YtibmcailjodpkaaApp2
import Derived.Deep.OwnRows
namespace Go.Proofs.Ytibmcailjodpkaa
set_option linter.unusedVariables false
open Go.RowKit
theorem l28Interval (n : Int) (w : World) : Calls Try.prog 55 #[.int .i64 n] w fun e w' => e = .returned (.bool (inB n 1 1000)) ∧ w = w' := by
  go_enter Try.func55, Try.ntmps55
  go_wp2_with (go_at_call 50; refine (l00In _ _ _ _).mono ?_; rintro e w' ⟨rfl, rfl⟩)
  go_ret
  exact ⟨rfl, rfl⟩
def days (xs : List Drill) (k : Nat) : List Int := (xs.map Drill.day).take k
theorem days_snoc {xs : List Drill} {k : Nat} (h : k < xs.length) : days xs (k + 1) = days xs k ++ [xs[k].day] := by
  unfold days; rw [List.take_succ_eq_append_getElem (by simpa using h)]; simp
theorem days_all (xs : List Drill) : days xs xs.length = xs.map Drill.day := by unfold days; rw [List.take_of_length_le (by simp)]
theorem days_len (xs : List Drill) (k : Nat) : (days xs k).length ≤ k := by unfold days; simp; omega
theorem takenB_app (xs : List Drill) (ps : List Int) (d : Int) : hasI (xs.map Drill.day ++ ps) d = takenB xs ps d := by
  unfold takenB hasI; rw [List.any_append, Bool.or_comm]
theorem takenB_any (xs : List Drill) (ps : List Int) (d : Int) : takenB xs ps d = (hasI ps d || xs.any fun x => decide (x.day = d)) := by
  unfold takenB hasI; rw [List.any_map]; rfl
def PlanOk (xs : List Drill) (cs : List ByteArray) (f iv : Int) (k : Nat) (ps : List Int) : Prop := planTo xs cs f iv k = some ps ∧ ps.length = k ∧ ∀ p ∈ ps, p ≤ 100000
theorem PlanOk.zero {xs : List Drill} {cs : List ByteArray} {f iv : Int} : PlanOk xs cs f iv 0 [] := ⟨rfl, rfl, fun p h => by cases h⟩
theorem PlanOk.succ {xs : List Drill} {cs : List ByteArray} {f iv d : Int} {k : Nat} {ps : List Int} (h : PlanOk xs cs f iv k ps) (hk : k < cs.length) (hd : dayOf xs ps cs[k] f iv = d) (hl : d ≤ 100000) : PlanOk xs cs f iv (k + 1) (ps ++ [d]) := by
  refine ⟨?_, by simp [h.2.1], fun p hp => ?_⟩
  · rw [planTo_ok hk h.1 (by omega), hd]
  · rcases List.mem_append.1 hp with hp | hp
    · exact h.2.2 p hp
    · rw [List.mem_singleton] at hp; omega
theorem taken_le {xs : List Drill} {ps : List Int} {d : Int} (hx : drillsB xs = true) (hp : ∀ p ∈ ps, p ≤ 100000) (h : takenB xs ps d = true) : d ≤ 100000 := by
  unfold takenB hasI at h
  rw [Bool.or_eq_true, List.any_eq_true, List.any_eq_true] at h
  rcases h with ⟨p, hm, he⟩ | ⟨p, hm, he⟩
  · have := hp p hm; have := of_decide_eq_true he; omega
  · rw [List.mem_map] at hm
    obtain ⟨x, hx2, rfl⟩ := hm
    obtain ⟨j, hj, rfl⟩ := List.getElem_of_mem hx2
    have := drill_day hx j hj; have := of_decide_eq_true he; omega
def Look (xs : List Drill) (ps : List Int) (D d : Int) : Prop := ∃ m : Nat, d = D + m ∧ d ≤ 101000 ∧ freeF (takenB xs ps) D 200000 = freeF (takenB xs ps) d (200000 - m)
theorem Look.zero {xs : List Drill} {ps : List Int} {D : Int} (h : D ≤ 101000) : Look xs ps D D := ⟨0, by simp, h, rfl⟩
theorem Look.bd {xs : List Drill} {ps : List Int} {D d : Int} (h0 : 0 ≤ D) (h : Look xs ps D d) : 0 ≤ d ∧ d ≤ 101000 := by obtain ⟨m, h1, h2, _⟩ := h; omega
theorem Look.next {xs : List Drill} {ps : List Int} {D d : Int} (h0 : 0 ≤ D) (hx : drillsB xs = true) (hp : ∀ p ∈ ps, p ≤ 100000) (h : Look xs ps D d) (ht : takenB xs ps d = true) : Look xs ps D (d + 1) := by
  have := taken_le hx hp ht
  obtain ⟨m, h1, h2, h3⟩ := h
  refine ⟨m + 1, by omega, by omega, ?_⟩
  rw [h3, show 200000 - m = (200000 - (m + 1)) + 1 by omega, freeF_go ht]
theorem Look.stop {xs : List Drill} {ps : List Int} {D d : Int} (h : Look xs ps D d) (ht : takenB xs ps d = false) : freeF (takenB xs ps) D 200000 = d := by
  obtain ⟨m, h1, h2, h3⟩ := h
  rw [h3, freeF_stop ht]
theorem start_none {xs : List Drill} {crew : ByteArray} {f iv : Int} (h : drillsB xs = true) (he : (ixs (ofP xs crew) xs.length).length = 0) : startTo xs crew f iv xs.length = f := by
  rw [startTo_last h _ (Nat.le_refl _), List.eq_nil_of_length_eq_zero he]; rfl
theorem start_last {xs : List Drill} {crew : ByteArray} {f iv : Int} (h : drillsB xs = true) (hne : (ixs (ofP xs crew) xs.length).length ≠ 0) (i : Nat) (hi : i < xs.length) (e : ofAt xs crew (lastJ xs crew) = (i : Int)) : startTo xs crew f iv xs.length = maxI f (xs[i].day + iv) := by
  rw [startTo_last h _ (Nat.le_refl _), List.getLast?_eq_getElem?, List.getElem?_eq_getElem (by omega)]
  have h1 := ofAt_eq xs crew (lastJ xs crew) (by unfold lastJ; omega)
  rw [e] at h1
  have h2 : (ixs (ofP xs crew) xs.length)[(ixs (ofP xs crew) xs.length).length - 1] = (i : Int) := h1
  rw [h2]
  simp only [Int.toNat_natCast, List.getElem?_eq_getElem hi, Option.map_some, Option.getD_some]
theorem store_ext {w W : World} {g a : Nat} (h : Ext w W) (hg : w.heap.size ≤ g) (v : Value) : Ext w (W.setCell ⟨g, a, none⟩ v) :=
  ((KeepI.refl w.heap.size (g + 1) W).set_ (g := g) (m := a) hg (by omega) v).ext h (Nat.le_refl _)
theorem dayCl (g : Nat) (d : Int) (x : Drill) (w : World) (hg : w.cell? ⟨g, 0, none⟩ = some (.int .i64 d)) (hgl : g < w.heap.size) :
    Calls Try.prog 65 #[.agg #[.int .i64 x.day, .string x.crew, .int .i64 x.persons, .int .i64 x.seconds, .int .i64 x.missing], .pointer (some ⟨g, 0, none⟩)] w fun e w' => e = .returned (.bool (decide (x.day = d))) ∧ Ext w w' := by
  go_enter Try.func65, Try.ntmps65
  go_wp2
  go_ret
  exact ⟨rfl, by go_tidy; go_grown⟩
theorem idxDay (g : Nat) (d : Int) (xs : List Drill) (lo hi : Nat) (v : Value) (w : World) (hg : w.cell? ⟨g, 0, none⟩ = some (.int .i64 d)) (hgl : g < w.heap.size) (hv : Sl lo hi w 5 v xs.length (flat Drill.enc xs)) (hn : xs.length ≤ 1048576) :
    Calls Try.prog 82 #[v, .func (.func 65) #[] #[.pointer (some ⟨g, 0, none⟩)]] w fun e w' => idxP (xs.any (fun x => decide (x.day = d))) e ∧ Ext w w' := by
  obtain ⟨hhi, _, A, c, rfl, hnc, hcm, hcell⟩ := hv
  go_enter Try.func82, Try.ntmps82
  go_wp2
  go_loopw [8] (fun i wr => ∃ k : Nat, k ≤ xs.length ∧ i = .int .i64 k ∧ Hid (∀ j (h : j < xs.length), j < k → (fun x => decide (x.day = d)) xs[j] = false) ∧ Ext w wr) (fun i _ => xs.length - (intOf i).toNat)
  case atStart => exact ⟨0, Nat.zero_le _, rfl, hid (fun j h hj => absurd hj (by omega)), Below.refl _ _⟩
  case round =>
    obtain ⟨k, hk, rfl, hall, hE⟩ := hrel
    by_cases hlt : k < xs.length
    · obtain ⟨b', off, rfl, hb1, hb2, hc⟩ := hcell (by omega)
      obtain ⟨cc0, cc1, cc2, cc3, cc4⟩ := Drill.cells hc k hlt
      clear hc
      have hcc := (bcell hE).1
      have hbw : b' < w.heap.size := by omega
      skip
      cases hp : (fun x => decide (x.day = d)) xs[k]
      all_goals have hp2 : (decide (xs[k].day = d)) = _ := hp
      · go_wp2_with (go_at_call 65; refine (cv (dayCl g d xs[k] _ (((bcell hE).1 _ _ hgl).trans hg) (Nat.lt_of_lt_of_le hgl hE.size)) (vb hp2)).mono ?_; rintro e w2 ⟨rfl, hE2⟩)
        go_roundw
        case rel => exact ⟨k + 1, by omega, by go_num, hid (fun j h hj => by rcases Nat.lt_succ_iff_lt_or_eq.1 hj with h1 | rfl; exact hall.out j h h1; exact hp), Ext.tr hE hE2⟩
        case measure => simp [intOf]; omega
      · go_wp2_with (go_at_call 65; refine (cv (dayCl g d xs[k] _ (((bcell hE).1 _ _ hgl).trans hg) (Nat.lt_of_lt_of_le hgl hE.size)) (vb hp2)).mono ?_; rintro e w2 ⟨rfl, hE2⟩)
        go_ret
        exact ⟨idxP_yes k (List.any_eq_true.2 ⟨_, List.getElem_mem hlt, hp⟩), Ext.tr hE hE2⟩
    · obtain rfl : k = xs.length := by omega
      go_wp2
      go_ret
      exact ⟨idxP_no (any_no fun j h => hall.out j h h), hE⟩
theorem anyDay (g : Nat) (d : Int) (xs : List Drill) (lo hi : Nat) (v : Value) (w : World) (hg : w.cell? ⟨g, 0, none⟩ = some (.int .i64 d)) (hgl : g < w.heap.size) (hv : Sl lo hi w 5 v xs.length (flat Drill.enc xs)) (hn : xs.length ≤ 1048576) :
    Calls Try.prog 60 #[v, .func (.func 65) #[] #[.pointer (some ⟨g, 0, none⟩)]] w fun e w' => e = .returned (.bool (xs.any (fun x => decide (x.day = d)))) ∧ Ext w w' := by
  go_enter Try.func60, Try.ntmps60
  go_wp2_with (go_at_call 82; refine (idxDay g d xs lo hi v _ hg hgl hv hn).mono ?_; rintro e w' ⟨⟨r, rfl, hr⟩, hE⟩)
  all_goals
    go_ret
    refine ⟨ret_bool ?_, hE⟩
    go_tidy
    cases hA : xs.any (fun x => decide (x.day = d)) <;> rw [hA] at hr <;> simp at hr ⊢ <;> omega

end Go.Proofs.Ytibmcailjodpkaa
