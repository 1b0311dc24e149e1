/- Contracts of LastDrill and ImprovementOf in both packages. -/
import Derived.Test.YtibmcailjodpkaaF28
namespace Go.Proofs.Ytibmcailjodpkaa
set_option linter.unusedVariables false
open Go.RowKit
theorem vi {k : IntKind} {a b : Int} (h : a = b) : Value.int k a = Value.int k b := by rw [h]
theorem askD_split {xs : List Drill} {crew : ByteArray} (h : askD xs crew = 0) : drillsB xs = true ∧ (ixs (ofP xs crew) xs.length).length ≠ 0 := by
  cases h1 : drillsB xs
  · rw [askD_no crew h1] at h; cases h
  · refine ⟨rfl, fun h2 => ?_⟩
    rw [askD_none h1 h2] at h; cases h
def ofAt (xs : List Drill) (crew : ByteArray) (j : Nat) : Int := (ixs (ofP xs crew) xs.length).getD j 0
theorem ofAt_eq (xs : List Drill) (crew : ByteArray) (j : Nat) (h : j < (ixs (ofP xs crew) xs.length).length) : (ixs (ofP xs crew) xs.length)[j] = ofAt xs crew j := by
  unfold ofAt; rw [List.getD_eq_getElem?_getD, List.getElem?_eq_getElem h]; rfl
theorem ofAt_lt (xs : List Drill) (crew : ByteArray) (j : Nat) (h : j < (ixs (ofP xs crew) xs.length).length) : ∃ i : Nat, i < xs.length ∧ ofAt xs crew j = (i : Int) := by
  rw [← ofAt_eq xs crew j h]; exact ixs_at _ _ _ h
def lastJ (xs : List Drill) (crew : ByteArray) : Nat := (ixs (ofP xs crew) xs.length).length - 1
def lastD (xs : List Drill) (crew : ByteArray) : Int := if askD xs crew = 0 then ofAt xs crew (lastJ xs crew) else 0
def secAt (xs : List Drill) (i : Int) : Int := ((xs[i.toNat]?).map Drill.seconds).getD 0
def improved (xs : List Drill) (crew : ByteArray) : Int := if askD xs crew = 0 then secAt xs (ofAt xs crew 0) - secAt xs (ofAt xs crew (lastJ xs crew)) else 0
theorem secAt_nat (xs : List Drill) (i : Nat) (h : i < xs.length) : secAt xs i = xs[i].seconds := by
  unfold secAt; rw [Int.toNat_natCast, List.getElem?_eq_getElem h]; rfl
theorem sec_bd {xs : List Drill} (h : drillsB xs = true) (i : Nat) (hi : i < xs.length) : 0 ≤ xs[i].seconds ∧ xs[i].seconds ≤ 36000 := by
  unfold drillsB at h; rw [Bool.and_eq_true] at h
  have := allOk_p h.2 i hi
  unfold drillB inB at this; simp only [Bool.and_eq_true, decide_eq_true_eq] at this; omega
theorem own_cells {xs : List Drill} {crew : ByteArray} {lo hi : Nat} {w : World} {v : Value} (hO : Own lo hi w 2 1 v (ixs (ofP xs crew) xs.length).length (flat encI (ixs (ofP xs crew) xs.length))) (hne : (ixs (ofP xs crew) xs.length).length ≠ 0) :
    ∃ b off c, v = .slice (some ⟨b, off, none⟩) (ixs (ofP xs crew) xs.length).length c ∧ w.cell? ⟨b, off, none⟩ = some (.int .i64 (ofAt xs crew 0)) ∧ w.cell? ⟨b, off + ((ixs (ofP xs crew) xs.length).length - 1), none⟩ = some (.int .i64 (ofAt xs crew (lastJ xs crew))) := by
  obtain ⟨_, _, A, c, rfl, _, _, hcell⟩ := hO.sl
  obtain ⟨b, off, rfl, _, _, hc⟩ := hcell (by omega)
  refine ⟨b, off, c, rfl, ?_, ?_⟩
  · have := cellsI hc 0 (by omega)
    rw [ofAt_eq] at this; exact this
  · have := cellsI hc ((ixs (ofP xs crew) xs.length).length - 1) (by omega)
    rw [ofAt_eq] at this; exact this
theorem specLastDrill (xs : List Drill) (crew : ByteArray) (lo hi : Nat) (v : Value) (w : World) (hv : Sl lo hi w 5 v xs.length (flat Drill.enc xs)) (hs : ∀ x ∈ xs, x.crew.size ≤ maxLen) (hn : xs.length ≤ 1048576) :
    Calls Try.prog 16 #[v, .string crew] w fun e w' => e = .returned (.tuple #[.int .i64 (lastD xs crew), .int .i64 (askD xs crew)]) ∧ Ext w w' := by
  by_cases ha : askD xs crew = 0
  · obtain ⟨h1, hne⟩ := askD_split ha
    have HQ := hid (show lastD xs crew = ofAt xs crew (lastJ xs crew) by unfold lastD; rw [if_pos ha])
    have HA := hid ha
    have hb := ixs_len (ofP xs crew) xs.length
    clear ha
    go_enter Try.func16, Try.ntmps16
    go_wp2_with (first | (go_at_call 47; refine (cv (l28Ask xs crew lo hi v _ hv hs hn) (vi HA.out)).mono ?_; rintro e w1 ⟨rfl, hE⟩) | (go_at_call 48; refine (l28Of xs crew _ _ _ _ (hv.ext hE) hn).mono ?_; rintro e w2 ⟨⟨v', rfl, hO⟩, hE2⟩; obtain ⟨b, off, c, rfl, g0, g1⟩ := own_cells hO hne; clear hO))
    go_ret2
    exact ⟨by rw [HQ.out, HA.out]; rfl, Ext.tr hE hE2⟩
  · have HQ := hid (show lastD xs crew = 0 by unfold lastD; rw [if_neg ha])
    go_enter Try.func16, Try.ntmps16
    go_wp2_with (first | (go_at_call 47; refine (l28Ask xs crew lo hi v _ hv hs hn).mono ?_; rintro e w1 ⟨rfl, hE⟩))
    go_ret2
    exact ⟨by rw [HQ.out]; rfl, hE⟩
theorem implLastDrill (xs : List Drill) (crew : ByteArray) (lo hi : Nat) (v : Value) (w : World) (hv : Sl lo hi w 5 v xs.length (flat Drill.enc xs)) (hs : ∀ x ∈ xs, x.crew.size ≤ maxLen) (hn : xs.length ≤ 1048576) :
    Calls Try.prog 17 #[v, .string crew] w fun e w' => e = .returned (.tuple #[.int .i64 (lastD xs crew), .int .i64 (askD xs crew)]) ∧ Ext w w' := by
  by_cases ha : askD xs crew = 0
  · obtain ⟨h1, hne⟩ := askD_split ha
    have HQ := hid (show lastD xs crew = ofAt xs crew (lastJ xs crew) by unfold lastD; rw [if_pos ha])
    have HA := hid ha
    have hb := ixs_len (ofP xs crew) xs.length
    clear ha
    go_enter Try.func17, Try.ntmps17
    go_wp2_with (first | (go_at_call 49; refine (drillsOf xs crew lo hi v _ hv hs hn).mono ?_; rintro e w1 ⟨⟨v', rfl, hO⟩, hE⟩; rw [drillsOfR_ok crew h1] at hO; obtain ⟨b, off, c, rfl, g0, g1⟩ := own_cells hO hne; clear hO; rw [HA.out]))
    go_ret2
    exact ⟨by rw [HQ.out, HA.out]; rfl, hE⟩
  · have HQ := hid (show lastD xs crew = 0 by unfold lastD; rw [if_neg ha])
    go_enter Try.func17, Try.ntmps17
    go_wp2_with (first | (go_at_call 49; refine (drillsOf xs crew lo hi v _ hv hs hn).mono ?_; rintro e w1 ⟨⟨v', rfl, hO⟩, hE⟩; clear hO))
    go_ret2
    exact ⟨by rw [HQ.out]; rfl, hE⟩
set_option maxRecDepth 100000 in
set_option maxHeartbeats 1000000 in
theorem specImprovementOf (xs : List Drill) (crew : ByteArray) (lo hi : Nat) (v : Value) (w : World) (hv : Sl lo hi w 5 v xs.length (flat Drill.enc xs)) (hs : ∀ x ∈ xs, x.crew.size ≤ maxLen) (hn : xs.length ≤ 1048576) :
    Calls Try.prog 18 #[v, .string crew] w fun e w' => e = .returned (.tuple #[.int .i64 (improved xs crew), .int .i64 (askD xs crew)]) ∧ Ext w w' := by
  by_cases ha : askD xs crew = 0
  · obtain ⟨h1, hne⟩ := askD_split ha
    have HQ := hid (show improved xs crew = secAt xs (ofAt xs crew 0) - secAt xs (ofAt xs crew (lastJ xs crew)) by unfold improved; rw [if_pos ha])
    have HA := hid ha
    have hb := ixs_len (ofP xs crew) xs.length
    obtain ⟨i0, hi0, e0⟩ := ofAt_lt xs crew 0 (by omega)
    obtain ⟨i1, hi1, e1⟩ := ofAt_lt xs crew (lastJ xs crew) (by unfold lastJ; omega)
    have E0 := hid e0
    have E1 := hid e1
    obtain ⟨s00, s01⟩ := sec_bd h1 i0 hi0
    obtain ⟨s10, s11⟩ := sec_bd h1 i1 hi1
    have ii0 : (i0 : Int) < xs.length := by omega
    have ii1 : (i1 : Int) < xs.length := by omega
    clear ha e0 e1
    have hv0 := hv
    obtain ⟨hhi, _, A, cc, rfl, hnc, hcm, hcell⟩ := hv0
    obtain ⟨bx, offx, rfl, hb1, hb2, hc⟩ := hcell (by omega)
    have hbw : bx < w.heap.size := by omega
    have p0 : (0 : Nat) < (ixs (ofP xs crew) xs.length).length := by omega
    have q0 : (0 : Int) < (ixs (ofP xs crew) xs.length).length := by omega
    have q1 : ((ixs (ofP xs crew) xs.length).length : Int) - 1 < (ixs (ofP xs crew) xs.length).length := by omega
    go_enter Try.func18, Try.ntmps18
    go_wp2_with (first | (go_at_call 47; refine (cv (l28Ask xs crew lo hi _ _ hv hs hn) (vi HA.out)).mono ?_; rintro e w1 ⟨rfl, hE⟩) | (go_at_call 48; refine (l28Of xs crew _ _ _ _ (hv.ext hE) hn).mono ?_; rintro e w2 ⟨⟨v', rfl, hO⟩, hE2⟩; obtain ⟨b, off, c, rfl, g0, g1⟩ := own_cells hO hne; clear hO))
    have hT : Ext w w2 := Ext.tr hE hE2
    rw [E0.out] at g0
    rw [E1.out] at g1
    obtain ⟨_, _, _, x3, _⟩ := Drill.at_of hc hT hbw i0 hi0
    obtain ⟨_, _, _, y3, _⟩ := Drill.at_of hc hT hbw i1 hi1
    clear hcell hc
    go_quiet (fail)
    go_wp2
    go_ret2
    exact ⟨by rw [HQ.out, HA.out, E0.out, E1.out, secAt_nat xs i0 hi0, secAt_nat xs i1 hi1]; rfl, Ext.tr hT (Ext.drewN _ _)⟩
  · have HQ := hid (show improved xs crew = 0 by unfold improved; rw [if_neg ha])
    go_enter Try.func18, Try.ntmps18
    go_wp2_with (first | (go_at_call 47; refine (l28Ask xs crew lo hi _ _ hv hs hn).mono ?_; rintro e w1 ⟨rfl, hE⟩))
    go_ret2
    exact ⟨by rw [HQ.out]; rfl, hE⟩
set_option maxRecDepth 100000 in
set_option maxHeartbeats 1000000 in
theorem implImprovementOf (xs : List Drill) (crew : ByteArray) (lo hi : Nat) (v : Value) (w : World) (hv : Sl lo hi w 5 v xs.length (flat Drill.enc xs)) (hs : ∀ x ∈ xs, x.crew.size ≤ maxLen) (hn : xs.length ≤ 1048576) :
    Calls Try.prog 19 #[v, .string crew] w fun e w' => e = .returned (.tuple #[.int .i64 (improved xs crew), .int .i64 (askD xs crew)]) ∧ Ext w w' := by
  by_cases ha : askD xs crew = 0
  · obtain ⟨h1, hne⟩ := askD_split ha
    have HQ := hid (show improved xs crew = secAt xs (ofAt xs crew 0) - secAt xs (ofAt xs crew (lastJ xs crew)) by unfold improved; rw [if_pos ha])
    have HA := hid ha
    have hb := ixs_len (ofP xs crew) xs.length
    obtain ⟨i0, hi0, e0⟩ := ofAt_lt xs crew 0 (by omega)
    obtain ⟨i1, hi1, e1⟩ := ofAt_lt xs crew (lastJ xs crew) (by unfold lastJ; omega)
    have E0 := hid e0
    have E1 := hid e1
    obtain ⟨s00, s01⟩ := sec_bd h1 i0 hi0
    obtain ⟨s10, s11⟩ := sec_bd h1 i1 hi1
    have ii0 : (i0 : Int) < xs.length := by omega
    have ii1 : (i1 : Int) < xs.length := by omega
    clear ha e0 e1
    have hv0 := hv
    obtain ⟨hhi, _, A, cc, rfl, hnc, hcm, hcell⟩ := hv0
    obtain ⟨bx, offx, rfl, hb1, hb2, hc⟩ := hcell (by omega)
    have hbw : bx < w.heap.size := by omega
    have p0 : (0 : Nat) < (ixs (ofP xs crew) xs.length).length := by omega
    have q0 : (0 : Int) < (ixs (ofP xs crew) xs.length).length := by omega
    have q1 : ((ixs (ofP xs crew) xs.length).length : Int) - 1 < (ixs (ofP xs crew) xs.length).length := by omega
    go_enter Try.func19, Try.ntmps19
    go_wp2_with (first | (go_at_call 49; refine (drillsOf xs crew lo hi _ _ hv hs hn).mono ?_; rintro e w2 ⟨⟨v', rfl, hO⟩, hE2⟩; rw [drillsOfR_ok crew h1] at hO; obtain ⟨b, off, c, rfl, g0, g1⟩ := own_cells hO hne; clear hO; rw [HA.out]))
    have hT : Ext w w2 := hE2
    rw [E0.out] at g0
    rw [E1.out] at g1
    obtain ⟨_, _, _, x3, _⟩ := Drill.at_of hc hT hbw i0 hi0
    obtain ⟨_, _, _, y3, _⟩ := Drill.at_of hc hT hbw i1 hi1
    clear hcell hc
    go_quiet (fail)
    go_wp2
    go_ret2
    exact ⟨by rw [HQ.out, HA.out, E0.out, E1.out, secAt_nat xs i0 hi0, secAt_nat xs i1 hi1]; rfl, Ext.tr hT (Ext.drewN _ _)⟩
  · have HQ := hid (show improved xs crew = 0 by unfold improved; rw [if_neg ha])
    go_enter Try.func19, Try.ntmps19
    go_wp2_with (first | (go_at_call 49; refine (drillsOf xs crew lo hi _ _ hv hs hn).mono ?_; rintro e w1 ⟨⟨v', rfl, hO⟩, hE⟩; clear hO))
    go_ret2
    exact ⟨by rw [HQ.out]; rfl, hE⟩
end Go.Proofs.Ytibmcailjodpkaa
