/- Contracts of ShortestHours in both packages. -/
import Derived.Test.YtlilmopcikogpaaMRefuge
import Derived.Test.YtlilmopcikogpaaApp
import Derived.Test.YtlilmopcikogpaaAnyL
import Derived.Test.YtlilmopcikogpaaWithin
import Derived.Deep.OwnRows
import Derived.IntWalk
namespace Go.Proofs.Ytlilmopcikogpaa
set_option linter.unusedVariables false
open Go.RowKit
def hoursI (air x y : Int) : Int := if x = 0 then 1000 else minI 1000 (air / (x * y))
theorem mul_bd {x y : Int} (hx : 1 ≤ x ∧ x ≤ 200) (hy : 1 ≤ y ∧ y ≤ 10000) : 1 ≤ x * y ∧ x * y ≤ 2000000 := by
  constructor
  · have := Int.mul_le_mul hx.1 hy.1 (by omega) (by omega); omega
  · have := Int.mul_le_mul hx.2 hy.2 (by omega) (by omega); omega
theorem l20Use (n : Int) (w : World) :
    Calls Try.prog 63 #[.int .i64 n] w fun e w' => e = .returned (.bool (inB n 1 10000)) ∧ w = w' := by
  go_enter Try.func63, Try.ntmps63
  go_wp2_with (go_at_call 53; refine (l00In _ _ _ _).mono ?_; rintro e w' ⟨rfl, rfl⟩)
  go_ret
  exact ⟨rfl, rfl⟩
theorem l20Hours (b o : Nat) (r : Refuge) (x y : Int) (w : World) (hA : 0 ≤ r.air ∧ r.air ≤ 10000000) (hx : 0 ≤ x ∧ x ≤ 200) (hy : 1 ≤ y ∧ y ≤ 10000) (hr : Refuge.At w b o r) :
    Calls Try.prog 65 #[.pointer (some ⟨b, o, none⟩), .int .i64 x, .int .i64 y] w fun e w' => e = .returned (.int .i64 (hoursI r.air x y)) ∧ w = w' := by
  obtain ⟨hA1, hA2⟩ := hA
  obtain ⟨hx1, hx2⟩ := hx
  obtain ⟨_, _, _, c3⟩ := hr
  by_cases hz : x = 0
  · subst hz
    go_enter Try.func65, Try.ntmps65
    go_wp2
    go_ret
    exact ⟨by simp [hoursI], rfl⟩
  · have HQ := hid (show hoursI r.air x y = minI 1000 (r.air / (x * y)) by unfold hoursI; rw [if_neg hz])
    obtain ⟨m1, m2⟩ := mul_bd (x := x) (y := y) ⟨by omega, hx2⟩ hy
    obtain ⟨hy1, hy2⟩ := hy
    have d1 : 0 ≤ r.air / (x * y) := Int.ediv_nonneg hA1 (by omega)
    have d2 : r.air / (x * y) ≤ 10000000 := Int.le_trans (Int.ediv_le_self _ hA1) hA2
    have hz' : (x == 0) = false := by simp [hz]
    have hm' : ¬ x * y = 0 := by omega
    go_enter Try.func65, Try.ntmps65
    go_wp2_with (go_at_call 64; refine (l00Min _ _ _).mono ?_; rintro e w' ⟨rfl, rfl⟩)
    go_ret
    exact ⟨by rw [HQ.out]; rfl, rfl⟩
theorem hoursG (r : Refuge) (x y : Int) (w : World) (hA : 0 ≤ r.air ∧ r.air ≤ 10000000) (hx : 0 ≤ x ∧ x ≤ 200) (hy : 1 ≤ y ∧ y ≤ 10000) :
    Calls Try.prog 71 #[.agg #[.string r.id, .int .i64 r.junction, .int .i64 r.places, .int .i64 r.air], .int .i64 x, .int .i64 y] w fun e w' => e = .returned (.int .i64 (hoursI r.air x y)) ∧ Ext w w' := by
  obtain ⟨hA1, hA2⟩ := hA
  obtain ⟨hx1, hx2⟩ := hx
  by_cases hz : x = 0
  · subst hz
    go_enter Try.func71, Try.ntmps71
    go_wp2
    go_ret
    exact ⟨by simp [hoursI], by go_tidy; go_grown⟩
  · have HQ := hid (show hoursI r.air x y = minI 1000 (r.air / (x * y)) by unfold hoursI; rw [if_neg hz])
    obtain ⟨m1, m2⟩ := mul_bd (x := x) (y := y) ⟨by omega, hx2⟩ hy
    obtain ⟨hy1, hy2⟩ := hy
    have d1 : 0 ≤ r.air / (x * y) := Int.ediv_nonneg hA1 (by omega)
    have d2 : r.air / (x * y) ≤ 10000000 := Int.le_trans (Int.ediv_le_self _ hA1) hA2
    have hz' : (x == 0) = false := by simp [hz]
    have hm' : ¬ x * y = 0 := by omega
    go_enter Try.func71, Try.ntmps71
    go_wp2
    all_goals (go_ret; refine ⟨?_, by go_tidy; go_grown⟩; rw [HQ.out]; go_tidy; simp [minI]; try omega)
def persTo (ss ps : List Int) (a : Nat) : Nat → Int
  | 0 => 0
  | k + 1 => persTo ss ps a k + (if h : k < ps.length then (if ps[k] = (a : Int) then (ss[k]?).getD 0 else 0) else 0)
theorem persTo_yes {ss ps : List Int} {a k : Nat} (h : k < ps.length) (h2 : k < ss.length) (e : ps[k] = (a : Int)) : persTo ss ps a (k + 1) = persTo ss ps a k + ss[k] := by
  rw [persTo, dif_pos h, if_pos e, List.getElem?_eq_getElem h2]; rfl
theorem persTo_no {ss ps : List Int} {a k : Nat} (h : k < ps.length) (e : ¬ ps[k] = (a : Int)) : persTo ss ps a (k + 1) = persTo ss ps a k := by
  rw [persTo, dif_pos h, if_neg e]; omega
theorem persTo_bd {ss ps : List Int} {a : Nat} (hs : allIn ss 1 200 = true) (hl : ss.length = ps.length) (k : Nat) (hk : k ≤ ps.length) : 0 ≤ persTo ss ps a k ∧ persTo ss ps a k ≤ 200 * k := by
  induction k with
  | zero => simp [persTo]
  | succ k ih =>
    have := ih (by omega)
    have h2 := allIn_at hs k (by omega)
    by_cases e : ps[k] = (a : Int)
    · rw [persTo_yes (by omega) (by omega) e]; omega
    · rw [persTo_no (by omega) e]; omega
theorem pers_next {ss ps : List Int} {a k : Nat} {w : World} {g n : Nat} (h : k < ps.length) (h2 : k < ss.length) (e : ps[k] = (a : Int)) (hr : w.rowIs g 2 n (fun b => .int .i64 (persTo ss ps b k))) :
    (w.setCell ⟨g, a, none⟩ (.int .i64 (persTo ss ps a k + ss[k]))).rowIs g 2 n (fun b => .int .i64 (persTo ss ps b (k + 1))) :=
  (hr.set a _).congr fun b hb => by
    by_cases hab : b = a
    · subst hab; rw [if_pos rfl, persTo_yes h h2 e]
    · rw [if_neg hab, persTo_no h (by rw [e]; omega)]
theorem pers_same {ss ps : List Int} {k : Nat} {w : World} {g n : Nat} (h : k < ps.length) (e : ps[k] < 0) (hr : w.rowIs g 2 n (fun b => .int .i64 (persTo ss ps b k))) :
    w.rowIs g 2 n (fun b => .int .i64 (persTo ss ps b (k + 1))) := hr.congr fun b hb => by rw [persTo_no h (by omega)]
theorem store_ext {w W : World} {g a : Nat} (h : Ext w W) (hg : w.heap.size ≤ g) (v : Value) : Ext w (W.setCell ⟨g, a, none⟩ v) :=
  ((KeepI.refl w.heap.size (g + 1) W).set_ (g := g) (m := a) hg (by omega) v).ext h (Nat.le_refl _)
def pers (ss ps : List Int) (a : Nat) : Int := persTo ss ps a ps.length
def fitAt (xs : List Refuge) (ss ps : List Int) (k : Nat) : Bool := if h : k < xs.length then decide (pers ss ps k ≤ xs[k].places) else true
def leastTo (xs : List Refuge) (ss ps : List Int) (use : Int) : Nat → Int
  | 0 => 1000
  | k + 1 => minI (leastTo xs ss ps use k) (if h : k < xs.length then hoursI xs[k].air (pers ss ps k) use else 1000)
theorem leastTo_succ {xs : List Refuge} {ss ps : List Int} {use : Int} {k : Nat} (h : k < xs.length) : leastTo xs ss ps use (k + 1) = minI (leastTo xs ss ps use k) (hoursI xs[k].air (pers ss ps k) use) := by rw [leastTo, dif_pos h]
def refsB (xs : List Refuge) : Bool := decide (xs.length ≤ 8) && !(xs.any fun x => !refugeP x)
def sizesB (xs : List Refuge) (ss ps : List Int) (use : Int) : Bool := decide ((ss.length : Int) = ps.length) && decide (ss.length ≤ 8) && allIn ss 1 200 && allIn ps (-1) ((xs.length : Int) - 1) && inB use 1 10000
def shortH (xs : List Refuge) (ss ps : List Int) (use : Int) : Int × Int :=
  if refsB xs then (if sizesB xs ss ps use then (if (List.range xs.length).all (fitAt xs ss ps) then (leastTo xs ss ps use xs.length, 0) else (0, 2)) else (0, 2)) else (0, 1)
theorem shortH_no {xs : List Refuge} (ss ps : List Int) (use : Int) (h : refsB xs = false) : shortH xs ss ps use = (0, 1) := by unfold shortH; rw [h]; rfl
theorem shortH_range {xs : List Refuge} {ss ps : List Int} {use : Int} (h : refsB xs = true) (h2 : sizesB xs ss ps use = false) : shortH xs ss ps use = (0, 2) := by unfold shortH; rw [h, h2]; rfl
theorem shortH_full {xs : List Refuge} {ss ps : List Int} {use : Int} (h : refsB xs = true) (k : Nat) (hk : k < xs.length) (hf : fitAt xs ss ps k = false) : shortH xs ss ps use = (0, 2) := by
  have h3 : (List.range xs.length).all (fitAt xs ss ps) = false := by
    rw [Bool.eq_false_iff]; intro hh; rw [List.all_eq_true] at hh
    have := hh k (by simpa using hk); rw [hf] at this; cases this
  unfold shortH; rw [h, h3]; simp
theorem shortH_ok {xs : List Refuge} {ss ps : List Int} {use : Int} (h : refsB xs = true) (h2 : sizesB xs ss ps use = true) (h3 : ∀ k, k < xs.length → fitAt xs ss ps k = true) : shortH xs ss ps use = (leastTo xs ss ps use xs.length, 0) := by
  have h4 : (List.range xs.length).all (fitAt xs ss ps) = true := by rw [List.all_eq_true]; intro k hk; exact h3 k (by simpa using hk)
  unfold shortH; rw [h, h2, h4]; rfl
theorem sizes_bd {xs : List Refuge} {ss ps : List Int} {use : Int} (h : sizesB xs ss ps use = true) : ss.length = ps.length ∧ ss.length ≤ 8 ∧ allIn ss 1 200 = true ∧ allIn ps (-1) ((xs.length : Int) - 1) = true ∧ (1 ≤ use ∧ use ≤ 10000) := by
  unfold sizesB at h; simp only [Bool.and_eq_true, decide_eq_true_eq] at h
  obtain ⟨⟨⟨⟨h1, h2⟩, h3⟩, h4⟩, h5⟩ := h
  unfold inB at h5; simp only [Bool.and_eq_true, decide_eq_true_eq] at h5
  exact ⟨by omega, h2, h3, h4, h5⟩
theorem refs_bd {xs : List Refuge} (h : refsB xs = true) : xs.length ≤ 8 ∧ ∀ k (h : k < xs.length), (1 ≤ xs[k].places ∧ xs[k].places ≤ 200) ∧ (0 ≤ xs[k].air ∧ xs[k].air ≤ 10000000) := by
  unfold refsB at h; simp only [Bool.and_eq_true, decide_eq_true_eq, Bool.not_eq_true'] at h
  refine ⟨h.1, fun k hk => ?_⟩
  have h2 := h.2
  rw [List.any_eq_false] at h2
  have := h2 _ (List.getElem_mem hk)
  unfold refugeP inB at this; simp only [Bool.not_eq_true, Bool.not_eq_false', Bool.and_eq_true, decide_eq_true_eq] at this
  omega
theorem fit_bd {xs : List Refuge} {ss ps : List Int} {k : Nat} (hk : k < xs.length) (hf : fitAt xs ss ps k = true) : pers ss ps k ≤ xs[k].places := by
  unfold fitAt at hf; rw [dif_pos hk] at hf; simpa using hf
theorem l20Sizes (xs : List Int) (lo hi : Nat) (v : Value) (w : World) (hv : Sl lo hi w 1 v xs.length (flat encI xs)) (hn : xs.length ≤ 1048576) :
    Calls Try.prog 62 #[v] w fun e w' => e = .returned (.bool (allIn xs 1 200)) ∧ w = w' := by
  obtain ⟨hhi, _, A, c, rfl, hnc, hcm, hcell⟩ := hv
  go_enter Try.func62, Try.ntmps62
  go_wp2
  go_loop [3] (fun i => ∃ k : Nat, k ≤ xs.length ∧ i = .int .i64 k ∧ Hid (∀ j (h : j < xs.length), j < k → inB xs[j] 1 200 = true)) (fun i => xs.length - (intOf i).toNat)
  case atStart => exact ⟨0, by omega, rfl, hid (fun j h hj => absurd hj (by omega))⟩
  case round =>
    obtain ⟨k, hk, rfl, hall⟩ := hrel
    by_cases hlt : k < xs.length
    · obtain ⟨b, off, rfl, hb1, hb2, hc⟩ := hcell (by omega)
      have c0 := cellsI hc k hlt
      clear hc
      cases hp : inB xs[k] 1 200
      · go_wp2_with (go_at_call 53; refine (cv (l00In _ _ _ _) (vb hp)).mono ?_; rintro e w' ⟨rfl, rfl⟩)
        go_ret
        exact ⟨ret_bool (allIn_no k hlt hp).symm, rfl⟩
      · go_wp2_with (go_at_call 53; refine (cv (l00In _ _ _ _) (vb hp)).mono ?_; rintro e w' ⟨rfl, rfl⟩)
        go_round
        case rel => exact ⟨k + 1, by omega, by go_num, hid (fun j h hj => by rcases Nat.lt_succ_iff_lt_or_eq.1 hj with h1 | rfl; exact hall.out j h h1; exact hp)⟩
        case measure => simp [intOf]; omega
    · obtain rfl : k = xs.length := by omega
      go_wp2
      go_ret
      exact ⟨ret_bool (allIn_yes (fun k hk => hall.out k hk hk)).symm, rfl⟩
theorem refCl (x : Refuge) (w : World) (hs : x.id.size ≤ maxLen) :
    Calls Try.prog 68 #[.agg #[.string x.id, .int .i64 x.junction, .int .i64 x.places, .int .i64 x.air]] w fun e w' => e = .returned (.bool (!refugeP x)) ∧ Ext w w' := by
  go_enter Try.func68, Try.ntmps68
  go_wp2_with (go_at_call 69; refine (refugePI x _ hs).mono ?_; rintro e w1 ⟨rfl, hE⟩)
  go_ret
  exact ⟨rfl, Ext.tr (by go_tidy; go_grown) hE⟩
theorem idxRef  (xs : List Refuge) (lo hi : Nat) (v : Value) (w : World)  (hv : Sl lo hi w 4 v xs.length (flat Refuge.enc xs)) (hn : xs.length ≤ 1048576) (hs : ∀ x ∈ xs, x.id.size ≤ maxLen) :
    Calls Try.prog 100 #[v, .func (.func 68) #[] #[]] w fun e w' => idxP (xs.any (fun x => !refugeP x)) e ∧ Ext w w' := by
  obtain ⟨hhi, _, A, c, rfl, hnc, hcm, hcell⟩ := hv
  go_enter Try.func100, Try.ntmps100
  go_wp2
  go_loopw [8] (fun i wr => ∃ k : Nat, k ≤ xs.length ∧ i = .int .i64 k ∧ Hid (∀ j (h : j < xs.length), j < k → (fun x => !refugeP x) xs[j] = false) ∧ Ext w wr) (fun i _ => xs.length - (intOf i).toNat)
  case atStart => exact ⟨0, Nat.zero_le _, rfl, hid (fun j h hj => absurd hj (by omega)), Below.refl _ _⟩
  case round =>
    obtain ⟨k, hk, rfl, hall, hE⟩ := hrel
    by_cases hlt : k < xs.length
    · obtain ⟨b', off, rfl, hb1, hb2, hc⟩ := hcell (by omega)
      obtain ⟨cc0, cc1, cc2, cc3⟩ := Refuge.cells hc k hlt
      clear hc
      have hcc := (bcell hE).1
      have hbw : b' < w.heap.size := by omega
      skip
      cases hp : (fun x => !refugeP x) xs[k]
      all_goals have hp2 : (!refugeP xs[k]) = _ := hp
      · go_wp2_with (go_at_call 68; refine (cv (refCl xs[k] _ (hs _ (List.getElem_mem hlt))) (vb hp2)).mono ?_; rintro e w2 ⟨rfl, hE2⟩)
        go_roundw
        case rel => exact ⟨k + 1, by omega, by go_num, hid (fun j h hj => by rcases Nat.lt_succ_iff_lt_or_eq.1 hj with h1 | rfl; exact hall.out j h h1; exact hp), Ext.tr hE hE2⟩
        case measure => simp [intOf]; omega
      · go_wp2_with (go_at_call 68; refine (cv (refCl xs[k] _ (hs _ (List.getElem_mem hlt))) (vb hp2)).mono ?_; rintro e w2 ⟨rfl, hE2⟩)
        go_ret
        exact ⟨idxP_yes k (List.any_eq_true.2 ⟨_, List.getElem_mem hlt, hp⟩), Ext.tr hE hE2⟩
    · obtain rfl : k = xs.length := by omega
      go_wp2
      go_ret
      exact ⟨idxP_no (any_no fun j h => hall.out j h h), hE⟩
theorem anyRef  (xs : List Refuge) (lo hi : Nat) (v : Value) (w : World)  (hv : Sl lo hi w 4 v xs.length (flat Refuge.enc xs)) (hn : xs.length ≤ 1048576) (hs : ∀ x ∈ xs, x.id.size ≤ maxLen) :
    Calls Try.prog 67 #[v, .func (.func 68) #[] #[]] w fun e w' => e = .returned (.bool (xs.any (fun x => !refugeP x))) ∧ Ext w w' := by
  go_enter Try.func67, Try.ntmps67
  go_wp2_with (go_at_call 100; refine (idxRef  xs lo hi v _ hv hn hs).mono ?_; rintro e w' ⟨⟨r, rfl, hr⟩, hE⟩)
  all_goals
    go_ret
    refine ⟨ret_bool ?_, hE⟩
    go_tidy
    cases hA : xs.any (fun x => !refugeP x) <;> rw [hA] at hr <;> simp at hr ⊢ <;> omega

end Go.Proofs.Ytlilmopcikogpaa
