/- The note's search for the fewest sensors: its state in memory; a set that is tried. -/
import Derived.Test.YtopjccbjdcoanaaFsa
import Derived.Test.YtopjccbjdcoanaaRowK
import Derived.Test.YtopjccbjdcoanaaXSS
import Derived.Test.YtopjccbjdcoanaaApp
import Derived.BigQuiet
namespace Go.Proofs.Ytopjccbjdcoanaa
set_option linter.unusedVariables false
open Go.RowKit
def StS (tv sv : Value) (P limit n nodes budget : Int) (full : Bool) : Array Value := #[tv, .int .i64 P, .int .i64 limit, .int .i64 n, sv, .int .i64 nodes, .int .i64 budget, .bool full]
section
variable {w w' : World} {g t : Nat} {tv sv : Value} {P limit n nodes budget : Int} {full : Bool}
theorem StS.cells (h : Blk w g t (StS tv sv P limit n nodes budget full)) : w.cell? ⟨g, 0, none⟩ = some tv ∧ w.cell? ⟨g, 1, none⟩ = some (.int .i64 P) ∧ w.cell? ⟨g, 2, none⟩ = some (.int .i64 limit) ∧ w.cell? ⟨g, 3, none⟩ = some (.int .i64 n) ∧ w.cell? ⟨g, 4, none⟩ = some sv ∧ w.cell? ⟨g, 5, none⟩ = some (.int .i64 nodes) ∧ w.cell? ⟨g, 6, none⟩ = some (.int .i64 budget) ∧ w.cell? ⟨g, 7, none⟩ = some (.bool full) :=
  ⟨h.cell 0, h.cell 1, h.cell 2, h.cell 3, h.cell 4, h.cell 5, h.cell 6, h.cell 7⟩
theorem StS.set3 (h : Blk w g t (StS tv sv P limit n nodes budget full)) (n' : Int) : Blk (w.setCell ⟨g, 3, none⟩ (.int .i64 n')) g t (StS tv sv P limit n' nodes budget full) := h.set_ 3 _
theorem StS.set4 (h : Blk w g t (StS tv sv P limit n nodes budget full)) (u : Value) : Blk (w.setCell ⟨g, 4, none⟩ u) g t (StS tv u P limit n nodes budget full) := h.set_ 4 _
theorem StS.set5 (h : Blk w g t (StS tv sv P limit n nodes budget full)) (n' : Int) : Blk (w.setCell ⟨g, 5, none⟩ (.int .i64 n')) g t (StS tv sv P limit n n' budget full) := h.set_ 5 _
theorem StS.set7 (h : Blk w g t (StS tv sv P limit n nodes budget full)) (b : Bool) : Blk (w.setCell ⟨g, 7, none⟩ (.bool b)) g t (StS tv sv P limit n nodes budget b) := h.set_ 7 _
end
theorem SlSS.below {lo hi base : Nat} {w w' : World} {v : Value} {xs : List (List Int)} (h : SlSS lo hi w v xs) (hB : Below base w w') (hh : hi ≤ base) : SlSS lo hi w' v xs := by
  obtain ⟨ys, h1, h2, h3⟩ := h
  exact ⟨ys, h1, h2.below hB hh hB.size, fun p hp => (h3 p hp).below hB hh hB.size⟩
theorem SlSS.slice {lo hi : Nat} {w : World} {v : Value} {xs : List (List Int)} (h : SlSS lo hi w v xs) : ∃ A c, v = .slice A xs.length c ∧ xs.length ≤ c ∧ c ≤ maxLen := by
  obtain ⟨_, _, ⟨_, _, A, c, h1, h2, h3, _⟩, _⟩ := h
  exact ⟨A, c, h1, h2, h3⟩
/-- a set is right: each source is met in time -/
def rightB (times : List (List Int)) (limit : Int) (set : List Int) : Bool := times.all fun ts => decide (0 ≤ det ts set ∧ det ts set ≤ limit)
theorem right_no {times : List (List Int)} {limit : Int} {set : List Int} (k : Nat) (hk : k < times.length) (h : ¬ (0 ≤ det times[k] set ∧ det times[k] set ≤ limit)) : rightB times limit set = false := by
  rw [Bool.eq_false_iff]; intro hh; unfold rightB at hh; rw [List.all_eq_true] at hh
  have := hh _ (List.getElem_mem hk); simp only [decide_eq_true_eq] at this; exact h this
theorem right_yes {times : List (List Int)} {limit : Int} {set : List Int} (h : ∀ k (hk : k < times.length), 0 ≤ det times[k] set ∧ det times[k] set ≤ limit) : rightB times limit set = true := by
  unfold rightB; rw [List.all_eq_true]; intro x hx
  obtain ⟨k, hk, rfl⟩ := List.getElem_of_mem hx; simpa using h k hk
/-- what the search leaves -/
def PostS (sb : Nat) (tv : Value) (P limit N budget : Int) (set : List Int) (r : SR) (w w' : World) : Prop :=
  ∃ sv', Blk w' sb 93 (StS tv sv' P limit N (if r.2.2 < 0 then budget else budget - r.2.2) budget (decide (r.2.2 < 0))) ∧ w'.ownsRow (sb + 1) 2 1 sv' (if r.1 then r.2.1 else set).length (flat encI (if r.1 then r.2.1 else set)) ∧ Below sb w w'
theorem own_slice {w : World} {base e K n : Nat} {v : Value} {xs : List Value} (h : w.ownsRow base e K v n xs) : ∃ A c, v = .slice A n c := by
  rcases h.2 with ⟨rfl, rfl⟩ | ⟨g, c, cur, rfl, _⟩
  · exact ⟨none, 0, rfl⟩
  · exact ⟨_, _, rfl⟩
theorem postS_no {sb : Nat} {tv sv' : Value} {P limit N budget nd b' : Int} {set st : List Int} {r : SR} {full : Bool} {w w' : World} (hr : r = (false, st, b')) (hB : Blk w' sb 93 (StS tv sv' P limit N nd budget full)) (hn : nd = if b' < 0 then budget else budget - b') (hf : full = decide (b' < 0))
    (hO : w'.ownsRow (sb + 1) 2 1 sv' set.length (flat encI set)) (hb : Below sb w w') : PostS sb tv P limit N budget set r w w' := by
  subst hr hn hf; exact ⟨sv', hB, hO, hb⟩
theorem postS_yes {sb : Nat} {tv sv' : Value} {P limit N budget nd b' : Int} {set st : List Int} {r : SR} {full : Bool} {w w' : World} (hr : r = (true, st, b')) (hB : Blk w' sb 93 (StS tv sv' P limit N nd budget full)) (hn : nd = if b' < 0 then budget else budget - b') (hf : full = decide (b' < 0))
    (hO : w'.ownsRow (sb + 1) 2 1 sv' st.length (flat encI st)) (hb : Below sb w w') : PostS sb tv P limit N budget set r w w' := by
  subst hr hn hf; exact ⟨sv', hB, hO, hb⟩
set_option maxRecDepth 100000 in
set_option maxHeartbeats 1000000 in
theorem runS0 (times : List (List Int)) (P : Nat) (limit budget b nd : Int) (set : List Int) (tv sv : Value) (lo hi sb : Nat) (frm : Int) (w : World) (hhs : hi ≤ sb) (hT : SlSS lo hi w tv times) (hTP : ∀ k (h : k < times.length), times[k].length = P) (hnt : times.length ≤ 16) (hP : P ≤ 16) (hp : Plc P set) (hset : set.length ≤ 16)
    (hB : Blk w sb 93 (StS tv sv P limit set.length nd budget false)) (hO : w.ownsRow (sb + 1) 2 1 sv set.length (flat encI set)) (hb : 0 ≤ b ∧ b ≤ budget) (hnd : nd = budget - b) (hbud : budget ≤ 20000) :
    Calls Try.prog 74 #[.pointer (some ⟨sb, 0, none⟩), .int .i64 frm] w fun e w' => e = .returned (.bool (extS (rightB times limit) P 0 frm.toNat set b).1) ∧ PostS sb tv P limit set.length budget set (extS (rightB times limit) P 0 frm.toNat set b) w w' := by
  obtain ⟨hb0, hb1⟩ := hb
  obtain ⟨A, c, rfl⟩ := own_slice hO
  obtain ⟨At, ct, rfl, hnct, hcct⟩ := SlSS.slice hT
  have HO := hid hO
  have HB := hid hB
  have HT := hid hT
  have HND := hid hnd
  have HTP := hid hTP
  clear hTP
  have hnd0 : 0 ≤ nd ∧ nd ≤ 20000 := by omega
  obtain ⟨hn0, hn1⟩ := hnd0
  obtain ⟨q0, q1, q2, q3, q4, q5, q6, q7⟩ := StS.cells hB
  have f5 := hB.frozen 5
  have f7 := hB.frozen 7
  have hlt := hB.lt
  by_cases h0 : nd = budget
  · subst h0
    have hb : b = 0 := by omega
    have HQ := hid (show extS (rightB times limit) P 0 frm.toNat set b = (false, [], -1) by rw [hb]; rfl)
    clear hO hB hT hnd hb
    go_enter Try.func74, Try.ntmps74
    go_wp2
    go_quiet (fail)
    rename Nat => n1
    go_wp2
    go_quiet (fail)
    go_wp2
    go_ret
    refine ⟨by rw [HQ.out]; rfl, postS_no HQ.out (StS.set7 (HB.out.ext (Ext.drewN w (n1 + nq))) true) rfl rfl (ownsRow_setCell_below (ownE HO.out (Ext.drewN w (n1 + nq))) (Nat.lt_succ_self sb) _) ?_⟩
    exact Below.setCell ((Ext.drewN w (n1 + nq)).mono (Nat.le_of_lt hlt)) (p := ⟨sb, 7, none⟩) (Nat.le_refl _) _
  · have e0 : (nd == budget) = false := by simpa using h0
    have hb2 : 0 ≤ b - 1 := by omega
    clear h0 hO hB hT hnd
    go_enter Try.func74, Try.ntmps74
    go_wp2
    go_quiet (fail)
    rename Nat => n1
    go_wp2
    go_quiet (fail)
    go_wp2
    have HB1 := hid (StS.set5 (HB.out.ext (Ext.drewN w (n1 + nq))) (nd + 1))
    have HO1 := hid (ownsRow_setCell_below (ownE HO.out (Ext.drewN w (n1 + nq))) (a := ⟨sb, 5, none⟩) (Nat.lt_succ_self sb) (.int .i64 (nd + 1)))
    have HW : Hid (Below sb w ((w.drewN (n1 + nq)).setCell ⟨sb, 5, none⟩ (.int .i64 (nd + 1)))) := hid (Below.setCell ((Ext.drewN w (n1 + nq)).mono (Nat.le_of_lt hlt)) (p := ⟨sb, 5, none⟩) (Nat.le_refl _) _)
    have HT1 := hid (HT.out.below HW.out hhs)
    generalize (w.drewN (n1 + nq)).setCell ⟨sb, 5, none⟩ (.int .i64 (nd + 1)) = w1 at *
    clear q0 q1 q2 q3 q4 q5 q6 q7 f5 f7 HB HO HT e0
    go_loopw [5] (fun i wr => ∃ k : Nat, k ≤ times.length ∧ i = .int .i64 k ∧ Hid (∀ j (h : j < times.length), j < k → 0 ≤ det times[j] set ∧ det times[j] set ≤ limit) ∧ Hid (Ext w1 wr)) (fun i _ => times.length - (intOf i).toNat)
    case atStart => exact ⟨0, Nat.zero_le _, rfl, hid (fun j h hj => absurd hj (by omega)), hid (Below.refl _ _)⟩
    case round =>
      obtain ⟨k, hk, rfl, hall, HE⟩ := hrel
      have HB2 := hid (HB1.out.ext HE.out)
      obtain ⟨q0, q1, q2, q3, q4, q5, q6, q7⟩ := StS.cells HB2.out
      by_cases hltk : k < times.length
      · obtain ⟨ys, hys, ⟨hhi, _, A', c', he, _, _, hcell⟩, hin⟩ := SlSS.opn (HT1.out.ext HE.out)
        simp only [Value.slice.injEq, true_and] at he
        obtain ⟨rfl, rfl⟩ := he
        obtain ⟨b', off, rfl, _, hb2', hc⟩ := hcell (by omega)
        obtain ⟨Au, cu, c0, hu⟩ := SS.at_ hys hin hc (Below.refl _ _) (by omega) k hltk
        have HU := hid hu
        have HS := hid (Sl.of_own (ownE HO1.out HE.out) (by unfold maxLen; omega))
        obtain ⟨dd, hdd⟩ : ∃ dd, dd = det times[k] set := ⟨_, rfl⟩
        have HD := hid hdd
        have HPl : Hid (Plc times[k].length set) := hid (by rw [HTP.out k hltk]; exact hp)
        have HL : Hid (times[k].length ≤ 1048576) := hid (by rw [HTP.out k hltk]; omega)
        clear hys hin hcell hc hu hdd
        by_cases h1 : 0 ≤ dd ∧ dd ≤ limit
        · obtain ⟨h1, h2⟩ := h1
          go_wp2
          go_quiet ((go_at_call 61; exact Calls.quiet_of_same (qv (l24Detect times[k] set _ _ _ _ _ _ _ (HU.out.ext (Ext.drewN _ _)) (HS.out.ext (Ext.drewN _ _)) HPl.out HL.out (by omega)) (show Value.int .i64 (det times[k] set) = .int .i64 dd by rw [HD.out]))))
          go_wp2
          go_roundw
          case rel => exact ⟨k + 1, by omega, by go_num, hid (fun j h hj => by rcases Nat.lt_succ_iff_lt_or_eq.1 hj with h3 | rfl; exact hall.out j h h3; rw [← HD.out]; exact ⟨h1, h2⟩), hid (Ext.tr HE.out (Ext.drewN _ _))⟩
          case measure => simp [intOf]; omega
        · have HQ := hid (show extS (rightB times limit) P 0 frm.toNat set b = (false, [], b - 1) by
            show (if 0 ≤ b - 1 ∧ rightB times limit set = true then (true, set, b - 1) else (false, [], b - 1)) = _
            rw [right_no k hltk (by rw [← HD.out]; exact h1), if_neg (by simp)])
          by_cases h2 : dd < 0
          · clear h1
            go_wp2
            go_quiet ((go_at_call 61; exact Calls.quiet_of_same (qv (l24Detect times[k] set _ _ _ _ _ _ _ (HU.out.ext (Ext.drewN _ _)) (HS.out.ext (Ext.drewN _ _)) HPl.out HL.out (by omega)) (show Value.int .i64 (det times[k] set) = .int .i64 dd by rw [HD.out]))))
            go_wp2
            go_ret
            exact ⟨by rw [HQ.out]; rfl, postS_no HQ.out (HB2.out.ext (Ext.drewN _ _)) (by rw [if_neg (by omega)]; have := HND.out; omega) (by rw [decide_eq_false (by omega)]) (ownE HO1.out (Ext.tr HE.out (Ext.drewN _ _))) (HW.out.trans ((Ext.tr HE.out (Ext.drewN _ _)).mono (Nat.le_trans (Nat.le_of_lt hlt) HW.out.size)))⟩
          · have h3 : limit < dd := by omega
            clear h1
            go_wp2
            go_quiet ((go_at_call 61; exact Calls.quiet_of_same (qv (l24Detect times[k] set _ _ _ _ _ _ _ (HU.out.ext (Ext.drewN _ _)) (HS.out.ext (Ext.drewN _ _)) HPl.out HL.out (by omega)) (show Value.int .i64 (det times[k] set) = .int .i64 dd by rw [HD.out]))))
            go_wp2
            go_ret
            exact ⟨by rw [HQ.out]; rfl, postS_no HQ.out (HB2.out.ext (Ext.drewN _ _)) (by rw [if_neg (by omega)]; have := HND.out; omega) (by rw [decide_eq_false (by omega)]) (ownE HO1.out (Ext.tr HE.out (Ext.drewN _ _))) (HW.out.trans ((Ext.tr HE.out (Ext.drewN _ _)).mono (Nat.le_trans (Nat.le_of_lt hlt) HW.out.size)))⟩
      · obtain rfl : k = times.length := by omega
        have HQ := hid (show extS (rightB times limit) P 0 frm.toNat set b = (true, set, b - 1) by
            show (if 0 ≤ b - 1 ∧ rightB times limit set = true then (true, set, b - 1) else (false, [], b - 1)) = _
            rw [right_yes (fun k hk => hall.out k hk hk), if_pos ⟨hb2, rfl⟩])
        go_wp2
        go_ret
        exact ⟨by rw [HQ.out]; rfl, postS_yes HQ.out HB2.out (by rw [if_neg (by omega)]; have := HND.out; omega) (by rw [decide_eq_false (by omega)]) (ownE HO1.out HE.out) (HW.out.trans (HE.out.mono (Nat.le_trans (Nat.le_of_lt hlt) HW.out.size)))⟩
end Go.Proofs.Ytopjccbjdcoanaa
