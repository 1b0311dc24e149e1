/- Leaf functions of the search for the fewest sensors: the least time of some places; the lists of times. -/
import Derived.Test.YtopjccbjdcoanaaSen
import Derived.Test.YtopjccbjdcoanaaSrch
namespace Go.Proofs.Ytopjccbjdcoanaa
set_option linter.unusedVariables false
open Go.RowKit
def tAt (L : List Int) (p : Nat) : Int := L.getD p 0
theorem tAt_of {L : List Int} {p : Nat} (h : p < L.length) : L[p] = tAt L p := by unfold tAt; rw [List.getD_eq_getElem?_getD, List.getElem?_eq_getElem h]; rfl
theorem t_cell {lo hi n : Nat} {w : World} {v : Value} {xs : List Int} (h : Sl lo hi w 1 v n (flat encI xs)) (k : Nat) (hk : k < xs.length) (hn : xs.length = n) : ∃ b off c, v = .slice (some ⟨b, off, none⟩) n c ∧ b < hi ∧ w.cell? ⟨b, off + k, none⟩ = some (.int .i64 (tAt xs k)) := by
  obtain ⟨h1, h2, A, c', rfl, h4, h5, h6⟩ := h
  obtain ⟨b, off, rfl, h7, h8, h9⟩ := h6 (by omega)
  exact ⟨b, off, c', rfl, h8, by rw [← tAt_of hk]; exact cellsI h9 k hk⟩
def dstep (ts : List Int) (l s : Int) : Int := if 0 ≤ tAt ts s.toNat ∧ (l < 0 ∨ tAt ts s.toNat < l) then tAt ts s.toNat else l
/-- the least time of some places, or -1 -/
def det (ts set : List Int) : Int := set.foldl (dstep ts) (-1)
theorem det_take (ts set : List Int) (k : Nat) (hk : k < set.length) : det ts (set.take (k + 1)) = dstep ts (det ts (set.take k)) set[k] := by
  unfold det; rw [List.take_succ_eq_append_getElem hk, List.foldl_append]; rfl
theorem det_end (ts set : List Int) : det ts (set.take set.length) = det ts set := by rw [List.take_length]
theorem dstep_yes (ts : List Int) (l : Int) (m : Nat) (h : 0 ≤ tAt ts m) (h2 : l < 0 ∨ tAt ts m < l) : dstep ts l (m : Int) = tAt ts m := by unfold dstep; rw [Int.toNat_natCast, if_pos ⟨h, h2⟩]
theorem dstep_no (ts : List Int) (l : Int) (m : Nat) (h : ¬ (0 ≤ tAt ts m ∧ (l < 0 ∨ tAt ts m < l))) : dstep ts l (m : Int) = l := by unfold dstep; rw [Int.toNat_natCast, if_neg h]
/-- all places of a set lie in a list of so many -/
def Plc (P : Nat) (set : List Int) : Prop := ∀ j (h : j < set.length), ∃ m : Nat, set[j] = (m : Int) ∧ m < P
theorem l24Detect (ts set : List Int) (lo hi lo2 hi2 : Nat) (v v2 : Value) (w : World) (hv : Sl lo hi w 1 v ts.length (flat encI ts)) (hv2 : Sl lo2 hi2 w 1 v2 set.length (flat encI set)) (hp : Plc ts.length set) (hn : ts.length ≤ 1048576) (hn2 : set.length ≤ 1048576) :
    Calls Try.prog 61 #[v, v2] w fun e w' => e = .returned (.int .i64 (det ts set)) ∧ w = w' := by
  obtain ⟨hhi, _, A, c, rfl, hnc, hcm, hcell⟩ := id hv
  obtain ⟨hhi2, _, A2, c2, rfl, hnc2, hcm2, hcell2⟩ := id hv2
  have HP := hid hp
  have HV := hid hv
  clear hp hv hcell
  go_enter Try.func61, Try.ntmps61
  go_wp2
  go_loop [5, 6] (fun l i => ∃ k : Nat, ∃ d : Int, k ≤ set.length ∧ l = .int .i64 d ∧ i = .int .i64 k ∧ Hid (d = det ts (set.take k))) (fun _ i => set.length - (intOf i).toNat)
  case atStart => exact ⟨0, -1, Nat.zero_le _, rfl, rfl, hid rfl⟩
  case round =>
    obtain ⟨k, d, hk, rfl, rfl, hd⟩ := hrel
    by_cases hlt : k < set.length
    · obtain ⟨b', off, rfl, hb1, hb2, hc⟩ := hcell2 (by omega)
      obtain ⟨m, hm, hmP⟩ := HP.out k hlt
      have c0 := cellsI hc k hlt
      rw [hm] at c0
      have HN := hid (det_take ts set k hlt)
      rw [hm, ← hd.out] at HN
      clear hc hm
      obtain ⟨bt, ot, ct, he, hbt, c1⟩ := t_cell HV.out m hmP rfl
      simp only [Value.slice.injEq] at he
      obtain ⟨rfl, _, rfl⟩ := he
      have hmi : (m : Int) < ts.length := by omega
      by_cases h1 : 0 ≤ tAt ts m ∧ (d < 0 ∨ tAt ts m < d)
      · have HE := hid (HN.out.trans (dstep_yes ts d m h1.1 h1.2))
        obtain ⟨h2, h3⟩ := h1
        rcases h3 with h3 | h3
        all_goals
          go_wp2
          go_round
          case rel => exact ⟨k + 1, tAt ts m, by omega, rfl, by go_num, hid HE.out.symm⟩
          case measure => simp [intOf]; omega
      · have HE := hid (HN.out.trans (dstep_no ts d m h1))
        by_cases h2 : 0 ≤ tAt ts m
        · have h3 : ¬ d < 0 := fun h => h1 ⟨h2, .inl h⟩
          have h4 : ¬ tAt ts m < d := fun h => h1 ⟨h2, .inr h⟩
          clear h1
          go_wp2
          go_round
          case rel => exact ⟨k + 1, d, by omega, rfl, by go_num, hid HE.out.symm⟩
          case measure => simp [intOf]; omega
        · clear h1
          go_wp2
          go_round
          case rel => exact ⟨k + 1, d, by omega, rfl, by go_num, hid HE.out.symm⟩
          case measure => simp [intOf]; omega
    · obtain rfl : k = set.length := by omega
      have HE := hid (hd.out.trans (det_end ts set))
      clear hd
      go_wp2
      go_ret
      exact ⟨by rw [HE.out]; rfl, rfl⟩
/-- where the least time is -/
def PlcR (ts set : List Int) (r : Int) : Prop := (r = -1 ∧ det ts set = -1) ∨ ∃ p : Nat, p < ts.length ∧ r = (p : Int) ∧ tAt ts p = det ts set ∧ 0 ≤ det ts set
theorem firstReached (ts set : List Int) (lo hi lo2 hi2 : Nat) (v v2 : Value) (w : World) (hv : Sl lo hi w 1 v ts.length (flat encI ts)) (hv2 : Sl lo2 hi2 w 1 v2 set.length (flat encI set)) (hp : Plc ts.length set) (hn : ts.length ≤ 1048576) (hn2 : set.length ≤ 1048576) :
    Calls Try.prog 55 #[v, v2] w fun e w' => (∃ r, e = .returned (.int .i64 r) ∧ PlcR ts set r) ∧ w = w' := by
  obtain ⟨hhi, _, A, c, rfl, hnc, hcm, hcell⟩ := id hv
  obtain ⟨hhi2, _, A2, c2, rfl, hnc2, hcm2, hcell2⟩ := id hv2
  have HP := hid hp
  have HV := hid hv
  clear hp hv hcell
  go_enter Try.func55, Try.ntmps55
  go_wp2
  go_loop [5, 11] (fun l i => ∃ k : Nat, ∃ d : Int, k ≤ set.length ∧ l = .int .i64 d ∧ i = .int .i64 k ∧ Hid (PlcR ts (set.take k) d)) (fun _ i => set.length - (intOf i).toNat)
  case atStart => exact ⟨0, -1, Nat.zero_le _, rfl, rfl, hid (.inl ⟨rfl, rfl⟩)⟩
  case round =>
    obtain ⟨k, d, hk, rfl, rfl, hd⟩ := hrel
    by_cases hlt : k < set.length
    · obtain ⟨b', off, rfl, hb1, hb2, hc⟩ := hcell2 (by omega)
      obtain ⟨m, hm, hmP⟩ := HP.out k hlt
      have c0 := cellsI hc k hlt
      rw [hm] at c0
      have HN := hid (det_take ts set k hlt)
      rw [hm] at HN
      clear hc hm
      obtain ⟨bt, ot, ct, he, hbt, c1⟩ := t_cell HV.out m hmP rfl
      simp only [Value.slice.injEq] at he
      obtain ⟨rfl, _, rfl⟩ := he
      have hmi : (m : Int) < ts.length := by omega
      by_cases h1 : 0 ≤ tAt ts m ∧ (det ts (set.take k) < 0 ∨ tAt ts m < det ts (set.take k))
      · have HE := hid (HN.out.trans (dstep_yes ts _ m h1.1 h1.2))
        have HG : Hid (PlcR ts (set.take (k + 1)) (m : Int)) := hid (.inr ⟨m, hmP, rfl, HE.out.symm, by rw [HE.out]; exact h1.1⟩)
        obtain ⟨h2, h3⟩ := h1
        rcases hd.out with ⟨rfl, hd2⟩ | ⟨p, hpl, rfl, hpd, hp0⟩
        · clear h3 hd2
          go_wp2
          go_round
          case rel => exact ⟨k + 1, (m : Int), by omega, rfl, by go_num, HG⟩
          case measure => simp [intOf]; omega
        · have h4 : tAt ts m < tAt ts p := by rw [hpd]; omega
          obtain ⟨_, _, _, he, _, c2'⟩ := t_cell HV.out p hpl rfl
          simp only [Value.slice.injEq, Option.some.injEq, Addr.mk.injEq, and_true, true_and] at he
          obtain ⟨⟨rfl, rfl⟩, rfl⟩ := he
          have hpi : (p : Int) < ts.length := by omega
          clear h3 hpd hp0
          go_wp2
          go_round
          case rel => exact ⟨k + 1, (m : Int), by omega, rfl, by go_num, HG⟩
          case measure => simp [intOf]; omega
      · have HE := hid (HN.out.trans (dstep_no ts _ m h1))
        have HG : Hid (PlcR ts (set.take (k + 1)) d) := hid (by unfold PlcR; rw [HE.out]; exact hd.out)
        by_cases h2 : 0 ≤ tAt ts m
        · have h3 : ¬ det ts (set.take k) < 0 := fun h => h1 ⟨h2, .inl h⟩
          have h4 : ¬ tAt ts m < det ts (set.take k) := fun h => h1 ⟨h2, .inr h⟩
          rcases hd.out with ⟨rfl, hd2⟩ | ⟨p, hpl, rfl, hpd, hp0⟩
          · exact absurd (by rw [hd2]; omega) h3
          · have h5 : ¬ tAt ts m < tAt ts p := by rw [hpd]; omega
            obtain ⟨_, _, _, he, _, c2'⟩ := t_cell HV.out p hpl rfl
            simp only [Value.slice.injEq, Option.some.injEq, Addr.mk.injEq, and_true, true_and] at he
            obtain ⟨⟨rfl, rfl⟩, rfl⟩ := he
            have hpi : (p : Int) < ts.length := by omega
            clear h1 h3 h4 hpd hp0
            go_wp2
            go_round
            case rel => exact ⟨k + 1, (p : Int), by omega, rfl, by go_num, HG⟩
            case measure => simp [intOf]; omega
        · clear h1
          go_wp2
          go_round
          case rel => exact ⟨k + 1, d, by omega, rfl, by go_num, HG⟩
          case measure => simp [intOf]; omega
    · obtain rfl : k = set.length := by omega
      have HE : Hid (PlcR ts set d) := hid (by have := hd.out; rw [List.take_length] at this; exact this)
      clear hd
      go_wp2
      go_ret
      exact ⟨⟨_, rfl, HE.out⟩, rfl⟩
def timesB (ts : List Int) : Bool := decide (ts.length ≤ 16) && allIn ts (-1) 1000000000000
theorem l24Times (ns : List Int) (lo hi : Nat) (v : Value) (w : World) (hv : Sl lo hi w 1 v ns.length (flat encI ns)) (hn : ns.length ≤ 1048576) :
    Calls Try.prog 59 #[v] w fun e w' => e = .returned (.bool (timesB ns)) ∧ w = w' := by
  obtain ⟨hhi, _, A, c, rfl, hnc, hcm, hcell⟩ := hv
  go_enter Try.func59, Try.ntmps59
  go_wp2
  go_loop [3] (fun i => ∃ k : Nat, k ≤ ns.length ∧ i = .int .i64 k ∧ Hid (∀ j (h : j < ns.length), j < k → inB ns[j] (-1) 1000000000000 = true)) (fun i => ns.length - (intOf i).toNat)
  case atStart => exact ⟨0, Nat.zero_le _, rfl, hid (fun j h hj => absurd hj (by omega))⟩
  case round =>
    obtain ⟨k, hk, rfl, hall⟩ := hrel
    by_cases hlt : k < ns.length
    · obtain ⟨b', off, rfl, hb1, hb2, hc⟩ := hcell (by omega)
      have c0 := cellsI hc k hlt
      clear hc
      cases hp : inB ns[k] (-1) 1000000000000
      · have HQ := hid (show timesB ns = false by unfold timesB; rw [allIn_no k hlt hp]; simp)
        go_wp2_with (go_at_call 73; refine (cv (l00In _ _ _ _) (vb hp)).mono ?_; rintro e w' ⟨rfl, rfl⟩)
        go_ret
        exact ⟨ret_bool HQ.out.symm, rfl⟩
      · go_wp2_with (go_at_call 73; refine (cv (l00In _ _ _ _) (vb hp)).mono ?_; rintro e w' ⟨rfl, rfl⟩)
        go_round
        case rel => exact ⟨k + 1, by omega, by go_num, hid (fun j h hj => by rcases Nat.lt_succ_iff_lt_or_eq.1 hj with h1 | rfl; exact hall.out j h h1; exact hp)⟩
        case measure => simp [intOf]; omega
    · obtain rfl : k = ns.length := by omega
      have HQ := hid (show timesB ns = decide (ns.length ≤ 16) by unfold timesB; rw [allIn_yes fun k hk => hall.out k hk hk]; simp)
      go_wp2
      go_ret
      exact ⟨ret_bool (by rw [HQ.out]; simp; omega), rfl⟩
theorem timesOk (ns : List Int) (lo hi : Nat) (v : Value) (w : World) (hv : Sl lo hi w 1 v ns.length (flat encI ns)) (hn : ns.length ≤ 1048576) :
    Calls Try.prog 50 #[v] w fun e w' => e = .returned (.bool (timesB ns)) ∧ Ext w w' := by
  have hv0 := hv
  obtain ⟨hhi, _, A, c, rfl, hnc, hcm, hcell⟩ := hv0
  clear hcell
  by_cases h : ns.length ≤ 16
  · have HQ := hid (show timesB ns = allIn ns (-1) 1000000000000 by unfold timesB; simp [h])
    have h' : (ns.length : Int) ≤ 16 := by omega
    go_enter Try.func50, Try.ntmps50
    go_wp2_with (go_at_call 58; refine (allWithin ns _ _ lo hi _ _ hv hn).mono ?_; rintro e w1 ⟨rfl, hE⟩)
    go_ret
    exact ⟨ret_bool HQ.out.symm, hE⟩
  · have HQ := hid (show timesB ns = false by unfold timesB; simp [h])
    have h' : ¬ (ns.length : Int) ≤ 16 := by omega
    go_enter Try.func50, Try.ntmps50
    go_wp2
    go_ret
    exact ⟨ret_bool HQ.out.symm, Below.refl _ _⟩
end Go.Proofs.Ytopjccbjdcoanaa
