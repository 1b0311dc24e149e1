/- The note's search for the fewest sensors: it goes through all sets. -/
import Derived.Test.YtopjccbjdcoanaaFsb
import Derived.BigRegion
namespace Go.Proofs.Ytopjccbjdcoanaa
set_option linter.unusedVariables false
open Go.RowKit
theorem extS_succ (R : List Int → Bool) (P m frm : Nat) (set : List Int) (b : Int) : extS R P (m + 1) frm set b = lp (fun i b => extS R P m (i + 1) (set ++ [(i : Int)]) b) (P - frm) frm b := rfl
theorem plc_snoc {P : Nat} {set : List Int} {k : Nat} (h : Plc P set) (hk : k < P) : Plc P (set ++ [(k : Int)]) := by
  intro j hj
  by_cases h1 : j < set.length
  · rw [List.getElem_append_left h1]; exact h j h1
  · have : j = set.length := by simp at hj; omega
    subst this
    exact ⟨k, by simp, hk⟩
theorem extS_bd (R : List Int → Bool) (P m frm : Nat) (set : List Int) (b : Int) (hb : 0 ≤ b) : -1 ≤ (extS R P m frm set b).2.2 ∧ (extS R P m frm set b).2.2 ≤ b := by
  rw [extS_eq R P m frm set b hb]; exact ext_budget R P m frm set b hb
theorem Blk.belowB {w W : World} {g t B : Nat} {cs : Array Value} (h : Blk w g t cs) (hB : Below B w W) (hg : g < B) : Blk W g t cs := (hB.block g hg).trans h
theorem postS_open {sb : Nat} {tv : Value} {P limit N budget b' : Int} {set st : List Int} {w w' : World} (h : PostS sb tv P limit N budget set (false, st, b') w w') :
    ∃ sv', Blk w' sb 93 (StS tv sv' P limit N (if b' < 0 then budget else budget - b') budget (decide (b' < 0))) ∧ w'.ownsRow (sb + 1) 2 1 sv' set.length (flat encI set) ∧ Below sb w w' := h
theorem row_untake {w : World} {base e g c k : Nat} {set : List Int} (h : w.ownsRow base e 1 (.slice (some ⟨g, 0, none⟩) (set.length + 1) c) (set.length + 1) (flat encI (set ++ [(k : Int)]))) : w.ownsRow base e 1 (.slice (some ⟨g, 0, none⟩) set.length c) set.length (flat encI set) := by
  have h1 := row_take h (Nat.le_succ set.length)
  rw [flat_snoc, List.take_left' (by rw [flat_length (K := 1) (fun _ => rfl)]; omega)] at h1
  exact h1
set_option maxRecDepth 100000 in
set_option maxHeartbeats 1000000 in
theorem runS (times : List (List Int)) (P : Nat) (limit budget N : Int) (tv : Value) (lo hi sb : Nat) (hhs : hi ≤ sb) (hTP : ∀ k (h : k < times.length), times[k].length = P) (hnt : times.length ≤ 16) (hP : P ≤ 16) (hbud : budget ≤ 20000) :
    ∀ (m frm : Nat) (fi : Int) (b nd : Int) (set : List Int) (sv : Value) (w : World), fi = frm → frm ≤ P → N = set.length + m → set.length + m ≤ 16 → SlSS lo hi w tv times → Plc P set →
    Blk w sb 93 (StS tv sv P limit N nd budget false) → w.ownsRow (sb + 1) 2 1 sv set.length (flat encI set) → 0 ≤ b ∧ b ≤ budget → nd = budget - b →
    Calls Try.prog 74 #[.pointer (some ⟨sb, 0, none⟩), .int .i64 fi] w fun e w' => e = .returned (.bool (extS (rightB times limit) P m frm set b).1) ∧ PostS sb tv P limit N budget set (extS (rightB times limit) P m frm set b) w w' := by
  intro m
  induction m with
  | zero =>
    intro frm fi b nd set sv w hfi hfP hN hset hT hp hB hO hb hnd
    obtain rfl : N = set.length := by omega
    exact runS0 times P limit budget b nd set tv sv lo hi sb fi w hhs hT hTP hnt hP hp (by omega) hB hO hb hnd hbud
  | succ m ih =>
    intro frm fi b nd set sv w hfi hfP hN hset hT hp hB hO hb hnd
    subst hfi
    obtain ⟨hb0, hb1⟩ := hb
    have hlt := hB.lt
    have HTP := hid hTP
    clear hTP
    obtain ⟨A, c, rfl⟩ := own_slice hO
    have HO := hid hO
    have HB := hid hB
    have HT := hid hT
    have HND := hid hnd
    have HN := hid hN
    have hset' : set.length ≤ 15 := by omega
    have e0 : ((set.length : Int) == N) = false := by simp; omega
    obtain ⟨q0, q1, q2, q3, q4, q5, q6, q7⟩ := StS.cells hB
    clear hO hB hT hnd hN
    have HQ := hid (extS_succ (rightB times limit) P m frm set b)
    go_enter Try.func74, Try.ntmps74
    go_wp2
    go_quiet (fail)
    rename Nat => n1
    go_wp2
    clear q0 q1 q2 q3 q4 q5 q6 q7 e0
    go_loopw [7] (fun i wr => ∃ (k : Nat) (b' nd' : Int) (sv' : Value), frm ≤ k ∧ k ≤ P ∧ i = .int .i64 k ∧ (-1 ≤ b' ∧ b' ≤ b) ∧ Hid (lp (fun i b => extS (rightB times limit) P m (i + 1) (set ++ [(i : Int)]) b) (P - frm) frm b = if b' < 0 then (false, [], b') else lp (fun i b => extS (rightB times limit) P m (i + 1) (set ++ [(i : Int)]) b) (P - k) k b') ∧ Hid (nd' = if b' < 0 then budget else budget - b') ∧ Hid (Blk wr sb 93 (StS tv sv' P limit N nd' budget (decide (b' < 0)))) ∧ Hid (wr.ownsRow (sb + 1) 2 1 sv' set.length (flat encI set)) ∧ Hid (Below sb w wr)) (fun i _ => P - (intOf i).toNat)
    case atStart => exact ⟨frm, b, nd, _, Nat.le_refl _, hfP, rfl, ⟨by omega, by omega⟩, hid (by rw [if_neg (by omega)]), hid (by rw [if_neg (by omega)]; exact HND.out), hid (by rw [decide_eq_false (by omega)]; exact HB.out.ext (Ext.drewN _ _)), hid (ownE HO.out (Ext.drewN _ _)), hid ((Ext.drewN _ _).mono (Nat.le_of_lt hlt))⟩
    case round =>
      obtain ⟨k, b', nd', sv', hk1, hk2, rfl, ⟨hb'1, hb'2⟩, HL, HD, HB2, HO2, HW⟩ := hrel
      obtain ⟨q0, q1, q2, q3, q4, q5, q6, q7⟩ := StS.cells HB2.out
      by_cases h1 : b' < 0
      · have HQ2 := hid (HQ.out.trans (HL.out.trans (if_pos h1)))
        have e7 : decide (b' < 0) = true := by simpa using h1
        by_cases hkP : k < P
        · go_wp2
          go_ret
          exact ⟨by rw [HQ2.out]; rfl, postS_no HQ2.out HB2.out HD.out rfl HO2.out HW.out⟩
        · go_wp2
          go_ret
          exact ⟨by rw [HQ2.out]; rfl, postS_no HQ2.out HB2.out HD.out rfl HO2.out HW.out⟩
      · have HL2 := hid (HL.out.trans (if_neg h1))
        have e7 : decide (b' < 0) = false := by simpa using h1
        rw [e7] at q7
        have HD2 := hid (HD.out.trans (if_neg h1))
        by_cases hkP : k < P
        · obtain ⟨A2, c2, rfl⟩ := own_slice HO2.out
          have hz := HW.out.size
          have hsbw : sb + 1 ≤ wr.heap.size := by omega
          have f4 := HB2.out.frozen 4
          go_wp2_with (at_builtin; refine wp_append1 wr rfl (.tmp 88) (.tmp 90) _ rfl (sb + 1) 2 1 8 _ Try.underlying27 infoInt rfl (by omega) (by omega) _ _ _ HO2.out rfl [.int .i64 k] rfl (by simp [Value.oneCell']) _ rfl rfl (by omega) hsbw ?_; intro v' w' ho' hb'; obtain ⟨g3, c3, _, rfl, hg3, _, _, hgc3⟩ := row_open ho' 0 (by omega); have f4' := (HB2.out.belowB hb' (Nat.lt_succ_self sb)).frozen 4; have q4' : w'.cell? ⟨sb, 4, none⟩ = some (Value.slice A2 set.length c2) := (HB2.out.belowB hb' (Nat.lt_succ_self sb)).cell 4)
          have HP : Hid (w'.ownsRow (sb + 1) 2 1 (.slice (some ⟨g3, 0, none⟩) (set.length + 1) c3) (set ++ [(k : Int)]).length (flat encI (set ++ [(k : Int)]))) := hid (by rw [flat_snoc, List.length_append]; exact ho')
          have HWb := hid (Below.setCell (HW.out.trans (hb'.mono (Nat.le_succ sb))) (p := ⟨sb, 4, none⟩) (Nat.le_refl _) (.slice (some ⟨g3, 0, none⟩) (set.length + 1) c3))
          have HB3 := hid (StS.set4 (HB2.out.belowB hb' (Nat.lt_succ_self sb)) (.slice (some ⟨g3, 0, none⟩) (set.length + 1) c3))
          have HO3 := hid (ownsRow_setCell_below HP.out (a := ⟨sb, 4, none⟩) (Nat.lt_succ_self sb) (.slice (some ⟨g3, 0, none⟩) (set.length + 1) c3))
          clear HP ho' hb' q4' f4' f4 q0 q1 q2 q3 q4 q5 q6 q7
          generalize w'.setCell ⟨sb, 4, none⟩ (.slice (some ⟨g3, 0, none⟩) (set.length + 1) c3) = wa at *
          rw [e7] at HB3
          have HC := hid (ih (k + 1) ((k : Int) + 1) b' nd' (set ++ [(k : Int)]) (.slice (some ⟨g3, 0, none⟩) (set.length + 1) c3) wa rfl (by omega) (by have := HN.out; simp; omega) (by simp; omega) (HT.out.below HWb.out hhs) (plc_snoc hp hkP) HB3.out HO3.out ⟨by omega, by omega⟩ HD2.out)
          have hrd := extS_bd (rightB times limit) P m (k + 1) (set ++ [(k : Int)]) b' (by omega)
          have HR := hid (HQ.out.trans (HL2.out.trans ((congrArg (fun z => lp (fun i b => extS (rightB times limit) P m (i + 1) (set ++ [(i : Int)]) b) z k b') (show P - k = (P - (k + 1)) + 1 by omega)).trans (lp_succ _ (P - (k + 1)) k b'))))
          dsimp only [Hid] at HR
          generalize extS (rightB times limit) P m (k + 1) (set ++ [(k : Int)]) b' = r at *
          obtain ⟨ok, st, b2⟩ := r
          replace HR := hid HR
          cases ok
          · have e1 : (set ++ [(k : Int)]).length = set.length + 1 := by simp
            have HR2 := hid (HR.out.trans (if_neg (by simp)))
            clear HR
            have E1 := hid e1
            clear e1
            go_wp2_with (go_at_call 74; refine HC.out.mono ?_; rintro e w2 ⟨rfl, hPS⟩; obtain ⟨sv4, hB4, hO4, hb4⟩ := postS_open hPS; rw [E1.out] at hO4; obtain ⟨g4, c4, _, rfl, hg4, _, _, hgc4⟩ := row_open hO4 0 (by omega); have f4 := hB4.frozen 4; have q4 : w2.cell? ⟨sb, 4, none⟩ = some (.slice (some ⟨g4, 0, none⟩) (set.length + 1) c4) := hB4.cell 4; have HB4 := hid hB4; have HO4 := hid hO4; have HW4 := hid (HWb.out.trans hb4); clear hB4 hO4 hb4)
            go_region
            have HO5 := hid (row_untake HO4.out)
            go_wp2
            go_roundw
            case rel => exact ⟨k + 1, b2, _, _, by omega, by omega, by go_num, ⟨hrd.1, by omega⟩, hid HR2.out, hid rfl, hid ((StS.set4 HB4.out (.slice (some ⟨g4, 0, none⟩) set.length c4)).ext (Ext.drewN _ 1)), hid (ownE (ownsRow_setCell_below HO5.out (a := ⟨sb, 4, none⟩) (Nat.lt_succ_self sb) _) (Ext.drewN _ 1)), hid (Below.trans (HW4.out.setCell (p := ⟨sb, 4, none⟩) (Nat.le_refl _) _) ((Ext.drewN _ 1).mono (Nat.le_trans (Nat.le_of_lt hlt) (HW4.out.setCell (p := ⟨sb, 4, none⟩) (Nat.le_refl _) _).size)))⟩
            case measure => simp [intOf]; omega
          · have HQ2 := hid (HR.out.trans (if_pos rfl))
            go_wp2_with (go_at_call 74; refine HC.out.mono ?_; rintro e w2 ⟨rfl, hPS⟩)
            go_ret
            obtain ⟨sv4, hB4, hO4, hb4⟩ := hPS
            exact ⟨by rw [HQ2.out]; rfl, postS_yes HQ2.out hB4 rfl rfl hO4 (HWb.out.trans hb4)⟩
        · obtain rfl : k = P := by omega
          have HQ2 := hid (HQ.out.trans (HL2.out.trans (show lp _ (k - k) k b' = (false, [], b') by rw [Nat.sub_self]; rfl)))
          go_wp2
          go_ret
          exact ⟨by rw [HQ2.out]; rfl, postS_no HQ2.out HB2.out HD.out rfl HO2.out HW.out⟩
end Go.Proofs.Ytopjccbjdcoanaa
