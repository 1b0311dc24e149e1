/- Contracts of DrillsDue: the plain words, the reference's function. -/
import Derived.Test.YtibmcailjodpkaaK28
namespace Go.Proofs.Ytibmcailjodpkaa
set_option linter.unusedVariables false
open Go.RowKit
def dueB (xs : List Drill) (crew : ByteArray) (day iv : Int) : Bool := !(xs.any fun x => decide (x.crew.toList = crew.toList) && inB x.day (day - iv + 1) day)
def dayAt (xs : List Drill) (i : Int) : Int := ((xs[i.toNat]?).map Drill.day).getD 0
theorem dayAt_nat (xs : List Drill) (i : Nat) (h : i < xs.length) : dayAt xs i = xs[i].day := by unfold dayAt; rw [Int.toNat_natCast, List.getElem?_eq_getElem h]; rfl
def dueTo (xs : List Drill) (crew : ByteArray) (day iv : Int) (q : Nat) : Bool := ((ixs (ofP xs crew) xs.length).take q).all fun i => !inB (dayAt xs i) (day - iv + 1) day
theorem dueTo_succ {xs : List Drill} {crew : ByteArray} (day iv : Int) {q i : Nat} (h : q < (ixs (ofP xs crew) xs.length).length) (hi : i < xs.length) (e : ofAt xs crew q = (i : Int)) : dueTo xs crew day iv (q + 1) = (dueTo xs crew day iv q && !inB xs[i].day (day - iv + 1) day) := by
  unfold dueTo
  rw [List.take_succ_eq_append_getElem h, List.all_append, ofAt_eq xs crew q h, e]
  simp only [List.all_cons, List.all_nil, Bool.and_true, dayAt_nat xs i hi]
theorem ixs_mem {p : Nat → Bool} {n : Nat} {i : Int} : i ∈ ixs p n ↔ ∃ a : Nat, a < n ∧ p a = true ∧ i = (a : Int) := by
  unfold ixs
  rw [List.mem_map]
  constructor
  · rintro ⟨a, ha, rfl⟩
    rw [List.mem_filter, List.mem_range] at ha
    exact ⟨a, ha.1, ha.2, rfl⟩
  · rintro ⟨a, h1, h2, rfl⟩
    exact ⟨a, by rw [List.mem_filter, List.mem_range]; exact ⟨h1, h2⟩, rfl⟩
theorem dueTo_all (xs : List Drill) (crew : ByteArray) (day iv : Int) : dueTo xs crew day iv (ixs (ofP xs crew) xs.length).length = dueB xs crew day iv := by
  unfold dueTo dueB
  rw [List.take_of_length_le (Nat.le_refl _), Bool.eq_iff_iff, List.all_eq_true, Bool.not_eq_true', List.any_eq_false]
  constructor
  · intro h x hx
    obtain ⟨a, ha, rfl⟩ := List.getElem_of_mem hx
    intro hh
    simp only [Bool.and_eq_true, decide_eq_true_eq] at hh
    have hp : ofP xs crew a = true := by
      unfold ofP; rw [tst_at xs _ a ha]; simp [hh.1]
    have := h a (ixs_mem.2 ⟨a, ha, hp, rfl⟩)
    rw [dayAt_nat xs a ha, hh.2] at this
    cases this
  · intro h i hi
    obtain ⟨a, ha, hp, rfl⟩ := ixs_mem.1 hi
    have := h _ (List.getElem_mem ha)
    have hc : xs[a].crew.toList = crew.toList := by
      unfold ofP at hp; rw [tst_at xs _ a ha] at hp; simpa using hp
    rw [dayAt_nat xs a ha]
    simpa [hc] using this
def dueTk (xs : List Drill) (cs : List ByteArray) (day iv : Int) (k : Nat) : List ByteArray := (cs.take k).filter fun c => dueB xs c day iv
def dueL (xs : List Drill) (cs : List ByteArray) (day iv : Int) : List ByteArray := cs.filter fun c => dueB xs c day iv
theorem dueTk_yes {xs : List Drill} {cs : List ByteArray} {day iv : Int} {k : Nat} (h : k < cs.length) (hd : dueB xs cs[k] day iv = true) : dueTk xs cs day iv (k + 1) = dueTk xs cs day iv k ++ [cs[k]] := by
  unfold dueTk; rw [List.take_succ_eq_append_getElem h, List.filter_append]; simp [hd]
theorem dueTk_no {xs : List Drill} {cs : List ByteArray} {day iv : Int} {k : Nat} (h : k < cs.length) (hd : dueB xs cs[k] day iv = false) : dueTk xs cs day iv (k + 1) = dueTk xs cs day iv k := by
  unfold dueTk; rw [List.take_succ_eq_append_getElem h, List.filter_append]; simp [hd]
theorem dueTk_len (xs : List Drill) (cs : List ByteArray) (day iv : Int) (k : Nat) : (dueTk xs cs day iv k).length ≤ cs.length := by
  unfold dueTk; exact Nat.le_trans (List.length_filter_le _ _) (by simp; omega)
theorem dueTk_all (xs : List Drill) (cs : List ByteArray) (day iv : Int) : dueTk xs cs day iv cs.length = dueL xs cs day iv := by unfold dueTk dueL; rw [List.take_of_length_le (Nat.le_refl _)]
def dueR (xs : List Drill) (cs : List ByteArray) (day iv : Int) : List ByteArray × Int :=
  if drillsB xs then (if argsB cs day iv then (dueL xs cs day iv, 0) else ([], 2)) else ([], 1)
theorem dueR_no {xs : List Drill} (cs : List ByteArray) (f iv : Int) (h : drillsB xs = false) : dueR xs cs f iv = ([], 1) := by unfold dueR; rw [h]; rfl
theorem dueR_range {xs : List Drill} {cs : List ByteArray} {f iv : Int} (h : drillsB xs = true) (h2 : argsB cs f iv = false) : dueR xs cs f iv = ([], 2) := by unfold dueR; rw [h, h2]; rfl
theorem dueR_ok {xs : List Drill} {cs : List ByteArray} {f iv : Int} (h : drillsB xs = true) (h2 : argsB cs f iv = true) : dueR xs cs f iv = (dueL xs cs f iv, 0) := by unfold dueR; rw [h, h2]; rfl
set_option maxRecDepth 100000 in
set_option maxHeartbeats 8000000 in
theorem specDrillsDue (xs : List Drill) (cs : List ByteArray) (f iv : Int) (lo hi lo2 hi2 : Nat) (v v2 : Value) (w : World) (hv : Sl lo hi w 5 v xs.length (flat Drill.enc xs)) (hs : ∀ x ∈ xs, x.crew.size ≤ maxLen) (hn : xs.length ≤ 1048576) (hv2 : Sl lo2 hi2 w 1 v2 cs.length (flat encT cs)) (hs2 : ∀ x ∈ cs, x.size ≤ maxLen) (hn2 : cs.length ≤ 1048576) :
    Calls Try.prog 27 #[v, v2, .int .i64 f, .int .i64 iv] w fun e w' => (∃ v', e = .returned (.tuple #[v', .int .i64 (dueR xs cs f iv).2]) ∧ Own w.heap.size w'.heap.size w' 9 1 v' (dueR xs cs f iv).1.length (flat encT (dueR xs cs f iv).1)) ∧ Ext w w' := by
  cases h1 : drillsB xs
  · have HQ := hid (dueR_no cs f iv h1)
    go_enter Try.func27, Try.ntmps27
    go_wp2_with (first | (go_at_call 43; refine (cv (l28Ok xs lo hi _ _ hv hs hn) (vb h1)).mono ?_; rintro e w1 ⟨rfl, hE⟩))
    go_ret2
    exact ⟨⟨_, by rw [HQ.out]; rfl, by rw [HQ.out]; exact Own.nil _ _ hE⟩, hE⟩
  cases h2 : namesB cs
  · have HQ := hid (dueR_range h1 (show argsB cs f iv = false by unfold argsB; rw [h2]; rfl))
    go_enter Try.func27, Try.ntmps27
    go_wp2_with (first | (go_at_call 43; refine (cv (l28Ok xs lo hi _ _ hv hs hn) (vb h1)).mono ?_; rintro e w1 ⟨rfl, hE⟩) | (go_at_call 53; refine (cv (l28Names cs lo2 hi2 _ _ (hv2.ext hE) hs2 hn2) (vb h2)).mono ?_; rintro e w2 ⟨rfl, hE2⟩))
    replace hE := Ext.tr hE hE2
    go_ret2
    exact ⟨⟨_, by rw [HQ.out]; rfl, by rw [HQ.out]; exact Own.nil _ _ hE⟩, hE⟩
  cases h3 : inB f 0 100000
  · have HQ := hid (dueR_range h1 (show argsB cs f iv = false by unfold argsB; rw [h2, h3]; rfl))
    go_enter Try.func27, Try.ntmps27
    go_wp2_with (first | (go_at_call 43; refine (cv (l28Ok xs lo hi _ _ hv hs hn) (vb h1)).mono ?_; rintro e w1 ⟨rfl, hE⟩) | (go_at_call 53; refine (cv (l28Names cs lo2 hi2 _ _ (hv2.ext hE) hs2 hn2) (vb h2)).mono ?_; rintro e w2 ⟨rfl, hE2⟩) | (go_at_call 54; refine (cv (l28Day _ _) (vb h3)).mono ?_; rintro e w' ⟨rfl, rfl⟩))
    replace hE := Ext.tr hE hE2
    go_ret2
    exact ⟨⟨_, by rw [HQ.out]; rfl, by rw [HQ.out]; exact Own.nil _ _ hE⟩, hE⟩
  cases h4 : inB iv 1 1000
  · have HQ := hid (dueR_range h1 (show argsB cs f iv = false by unfold argsB; rw [h2, h3, h4]; rfl))
    go_enter Try.func27, Try.ntmps27
    go_wp2_with (first | (go_at_call 43; refine (cv (l28Ok xs lo hi _ _ hv hs hn) (vb h1)).mono ?_; rintro e w1 ⟨rfl, hE⟩) | (go_at_call 53; refine (cv (l28Names cs lo2 hi2 _ _ (hv2.ext hE) hs2 hn2) (vb h2)).mono ?_; rintro e w2 ⟨rfl, hE2⟩) | (go_at_call 54; refine (cv (l28Day _ _) (vb h3)).mono ?_; rintro e w' ⟨rfl, rfl⟩) | (go_at_call 55; refine (cv (l28Interval _ _) (vb h4)).mono ?_; rintro e w' ⟨rfl, rfl⟩))
    replace hE := Ext.tr hE hE2
    go_ret2
    exact ⟨⟨_, by rw [HQ.out]; rfl, by rw [HQ.out]; exact Own.nil _ _ hE⟩, hE⟩
  have hargs : argsB cs f iv = true := by unfold argsB; rw [h2, h3, h4]; rfl
  have hl8 := names_len h2
  have hl32 : xs.length ≤ 32 := by unfold drillsB at h1; simp only [Bool.and_eq_true, decide_eq_true_eq] at h1; exact h1.1
  have hf : 0 ≤ f ∧ f ≤ 100000 := by unfold inB at h3; simp only [Bool.and_eq_true, decide_eq_true_eq] at h3; exact h3
  have hi' : 1 ≤ iv ∧ iv ≤ 1000 := by unfold inB at h4; simp only [Bool.and_eq_true, decide_eq_true_eq] at h4; exact h4
  have HF := hid hf
  have HI := hid hi'
  obtain ⟨hf0, hf1⟩ := hf
  obtain ⟨hi0, hi1⟩ := hi'
  have hv0 := hv
  have hv20 := hv2
  obtain ⟨hhi, _, A, c, rfl, hnc, hcm, hcell⟩ := hv0
  obtain ⟨hhi2, _, A2, c2, rfl, hnc2, hcm2, hcell2⟩ := hv20
  go_enter Try.func27, Try.ntmps27
  go_wp2_with (first | (go_at_call 43; refine (cv (l28Ok xs lo hi _ _ hv hs hn) (vb h1)).mono ?_; rintro e w1 ⟨rfl, hE⟩) | (go_at_call 53; refine (cv (l28Names cs lo2 hi2 _ _ (hv2.ext hE) hs2 hn2) (vb h2)).mono ?_; rintro e w2 ⟨rfl, hE2⟩) | (go_at_call 54; refine (cv (l28Day _ _) (vb h3)).mono ?_; rintro e w' ⟨rfl, rfl⟩) | (go_at_call 55; refine (cv (l28Interval _ _) (vb h4)).mono ?_; rintro e w' ⟨rfl, rfl⟩))
  replace hE := Ext.tr hE hE2
  have hz := hE.size
  have HQ := hid (dueR_ok h1 hargs)
  go_loopw [10, 11] (fun u i wr => ∃ k : Nat, k ≤ cs.length ∧ i = .int .i64 k ∧ wr.ownsRow w.heap.size 9 1 u (dueTk xs cs f iv k).length (flat encT (dueTk xs cs f iv k)) ∧ Ext w wr) (fun _ i _ => cs.length - (intOf i).toNat)
  case atStart => exact ⟨0, by omega, rfl, own_empty _ _ _ _ hz, Ext.tr hE (Ext.new _ _)⟩
  case round =>
    obtain ⟨k, hk, rfl, hu, hE4⟩ := hrel
    by_cases hlt : k < cs.length
    · obtain ⟨b2, off2, rfl, hb21, hb22, hc2⟩ := hcell2 (by omega)
      have hb2w : b2 < w.heap.size := by omega
      have y0 := ((bcell hE4).1 _ _ hb2w).trans (cellsT hc2 k hlt)
      have HC2 := hid hc2
      clear hc2
      have hblen := ixs_len (ofP xs cs[k]) xs.length
      have HLN := hid (dueTk_len xs cs f iv k)
      go_wp2_with (first | (go_at_call 48; refine (l28Of xs cs[k] lo hi _ _ (hv.ext hE4) hn).mono ?_; rintro e w3 ⟨⟨v', rfl, hO⟩, hE5⟩; obtain ⟨_, _, A5, c5, rfl, hnc5, hcm5, hcO⟩ := hO.sl; clear hO))
      have hT3 := Ext.tr hE4 hE5
      have HZ3 := hid hT3.size
      have HU := hid (ownE hu hE5)
      have y1 := ((bcell hT3).1 _ _ hb2w).trans (cellsT HC2.out k hlt)
      have HCO := hid hcO
      clear hu y0 hcO
      go_loop [13, 14] (fun dv i => ∃ (q : Nat) (d : Bool), q ≤ (ixs (ofP xs cs[k]) xs.length).length ∧ i = .int .i64 q ∧ dv = .bool d ∧ Hid (dueTo xs cs[k] f iv q = d)) (fun _ i => (ixs (ofP xs cs[k]) xs.length).length - (intOf i).toNat)
      case atStart => exact ⟨0, true, by omega, rfl, rfl, hid rfl⟩
      case round =>
        obtain ⟨q, d, hq, rfl, rfl, hd⟩ := hrel
        by_cases hltq : q < (ixs (ofP xs cs[k]) xs.length).length
        · obtain ⟨i1, hi1', e1⟩ := ofAt_lt xs cs[k] q hltq
          have HX := hid (dueTo_succ f iv hltq hi1' e1)
          obtain ⟨bo, offo, rfl, _, _, hco⟩ := HCO.out (by omega)
          have g1 := cellsI hco q hltq
          rw [ofAt_eq xs cs[k] q hltq, e1] at g1
          have hd1 := drill_day h1 i1 hi1'
          obtain ⟨dd0, dd1⟩ := hd1
          have ii1 : (i1 : Int) < xs.length := by omega
          have qq1 : (q : Int) < (ixs (ofP xs cs[k]) xs.length).length := by omega
          obtain ⟨b, off, rfl, hb1, hb2, hc⟩ := hcell (by omega)
          have hbw : b < w.heap.size := by omega
          obtain ⟨x0, _, _, _, _⟩ := Drill.at_of hc hT3 hbw i1 hi1'
          clear hco hc e1
          cases d
          · go_wp2
            go_round
            case rel => exact ⟨q + 1, false, by omega, by go_num, rfl, hid (by rw [HX.out, hd.out]; rfl)⟩
            case measure => simp [intOf]; omega
          · cases hI : inB xs[i1].day (f - iv + 1) f
            all_goals
              go_wp2_with (go_at_call 50; refine (cv (l00In _ _ _ _) (vb hI)).mono ?_; rintro e w' ⟨rfl, rfl⟩)
              go_round
              case rel => exact ⟨q + 1, _, by omega, by go_num, rfl, hid (by rw [HX.out, hd.out, hI]; rfl)⟩
              case measure => simp [intOf]; omega
        · obtain rfl : q = (ixs (ofP xs cs[k]) xs.length).length := by omega
          have HDD := hid (show dueB xs cs[k] f iv = d by rw [← dueTo_all]; exact hd.out)
          cases d
          · go_wp2
            go_roundw
            case rel => exact ⟨k + 1, by omega, by go_num, by rw [dueTk_no hlt HDD.out]; exact HU.out, hT3⟩
            case measure => simp [intOf]; omega
          · go_wp2_with (at_builtin; refine wp_append1 w3 rfl (.tmp 69) (.tmp 74) _ rfl w.heap.size 9 1 16 _ Try.underlying39 infoStr rfl (by omega) (by omega) _ _ _ HU.out rfl [.string cs[k]] rfl (by simp [Value.oneCell']) _ rfl rfl (by have := HLN.out; omega) HZ3.out ?_; intro v' w' ho' hb')
            go_roundw
            case rel => exact ⟨k + 1, by omega, by go_num, by rw [dueTk_yes hlt HDD.out, flat_snoc, List.length_append]; exact ho', hT3.trans hb'⟩
            case measure => simp [intOf]; omega
    · obtain rfl : k = cs.length := by omega
      rw [dueTk_all] at hu
      go_wp2
      go_ret2
      exact ⟨⟨_, by rw [HQ.out]; rfl, by rw [HQ.out]; exact Own.of hu (by have := dueTk_len xs cs f iv cs.length; rw [dueTk_all] at this; show (dueL xs cs f iv).length ≤ _; omega)⟩, hE4⟩
end Go.Proofs.Ytibmcailjodpkaa
