/- The program's search: all sets, one after the other. -/
import Derived.Test.YtopjccbjdcoanaaFsf
import Derived.Test.YtopjccbjdcoanaaAppR
import Derived.Deep.RegionLaw
namespace Go.Proofs.Ytopjccbjdcoanaa
set_option linter.unusedVariables false
open Go.RowKit
def iota (P : Nat) : List Int := (List.range P).map Int.ofNat
theorem iota_len (P : Nat) : (iota P).length = P := by unfold iota; simp
theorem iota_at (P k : Nat) (h : k < P) : tAt (iota P) k = (k : Int) := by
  rw [← tAt_of (by rw [iota_len]; exact h)]; unfold iota; simp
theorem ext_succ (R : List Int → Bool) (P m frm : Nat) (set : List Int) (b : Int) : ext R P (m + 1) frm set b = lp (fun i b => ext R P m (i + 1) (set ++ [(i : Int)]) b) (P - m - frm) frm b := rfl
set_option maxRecDepth 100000 in
set_option maxHeartbeats 4000000 in
theorem extI (R : List Int → Bool) (P : Nat) (c1 c2 lv : Value) (llo lhi sb : Nat) (w0 : World) (hR : ClOk R P sb c1 c2 w0) (hlv : Sl llo lhi w0 1 lv P (flat encI (iota P))) (hlh : lhi ≤ sb) (hP : P ≤ 16) :
    ∀ (m frm : Nat) (fi mi b : Int) (set : List Int) (sv : Value) (w : World), fi = frm → mi = m → frm ≤ P → set.length + m ≤ 16 → Below sb w0 w → Plc P set →
    Blk w sb 78 (StI lv (.func (.func 53) #[] #[c1, c2]) sv b) → w.ownsRow (sb + 1) 2 1 sv set.length (flat encI set) → 0 ≤ b ∧ b ≤ 20000 →
    Calls Try.prog 90 #[.pointer (some ⟨sb, 0, none⟩), .int .i64 fi, .int .i64 mi] w fun e w' => e = .returned (.bool (ext R P m frm set b).1) ∧ PostI sb lv (.func (.func 53) #[] #[c1, c2]) set (ext R P m frm set b) w w' := by
  obtain ⟨hl1, hl2, Al, cl, rfl, hlc, hcm, _⟩ := id hlv
  clear hl2
  have HLV := hid hlv
  have HR := hid hR
  clear hlv hR
  intro m
  induction m with
  | zero =>
    intro frm fi mi b set sv w hfi hmi hfP hset hw hp hB hO hb
    subst hmi
    exact extI0 R P c1 c2 sb w0 HR.out fi b set _ sv w hw hp (by omega) hB hO hb
  | succ m ih =>
    intro frm fi mi b set sv w hfi hmi hfP hset hw hp hB hO hb
    subst hfi
    obtain ⟨hb0, hb1⟩ := hb
    have hlt := hB.lt
    have HO := hid hO
    have HB := hid hB
    have HW0 := hid hw
    have HIH := hid ih
    have hm15 : m ≤ 15 := by omega
    have HM := hid hmi
    have hmi0 : mi = (m : Int) + 1 := by omega
    have hset' : set.length ≤ 15 := by omega
    clear hO hB hw ih hmi
    subst hmi0
    have e0 : ((m : Int) + 1 == 0) = false := by simp; omega
    have HQ := hid (ext_succ R P m frm set b)
    go_enter Try.func90, Try.ntmps90
    go_wp2
    go_loopw [7] (fun i wr => ∃ (k : Nat) (b' : Int) (sv' : Value), frm ≤ k ∧ k ≤ P ∧ i = .int .i64 k ∧ (0 ≤ b' ∧ b' ≤ b) ∧ Hid (lp (fun i b => ext R P m (i + 1) (set ++ [(i : Int)]) b) (P - m - frm) frm b = lp (fun i b => ext R P m (i + 1) (set ++ [(i : Int)]) b) (P - m - k) k b') ∧ Hid (Blk wr sb 78 (StI (.slice Al P cl) (.func (.func 53) #[] #[c1, c2]) sv' b')) ∧ Hid (wr.ownsRow (sb + 1) 2 1 sv' set.length (flat encI set)) ∧ Hid (Below sb w wr)) (fun i _ => P - (intOf i).toNat)
    case atStart => exact ⟨frm, b, _, Nat.le_refl _, hfP, rfl, ⟨hb0, Int.le_refl _⟩, hid rfl, HB, HO, hid (Below.refl _ _)⟩
    case round =>
      obtain ⟨k, b', sv', hk1, hk2, rfl, ⟨hb'1, hb'2⟩, HL, HB2, HO2, HW⟩ := hrel
      obtain ⟨q0, q1, q2, q3⟩ := StI.cells HB2.out
      by_cases hkP : k + (m + 1) ≤ P
      · have hki : (k : Int) < P := by omega
        have hz := HW.out.size
        have hz2 := HW0.out.size
        obtain ⟨A2, c2', rfl⟩ := own_slice HO2.out
        obtain ⟨bl, ol, cl2, he, hbl, c0⟩ := t_cell (Sl.below HLV.out (HW0.out.trans HW.out) hlh (Nat.le_trans hz2 hz)) k (by rw [iota_len]; omega) (iota_len P)
        rw [iota_at P k (by omega)] at c0
        simp only [Value.slice.injEq, true_and] at he
        obtain ⟨rfl, rfl⟩ := he
        go_wp2
        have hsb : sb < wr.heap.size := by omega
        have hblw : bl < wr.heap.size := by omega
        have HOa : Hid (((wr.alloc (.cells #[.int .i64 k] 2)).drew).ownsRow (sb + 1) 2 1 (.slice A2 set.length c2') set.length (flat encI set)) := hid (ownD (HO2.out.alloc _) 1)
        have hza : sb + 1 ≤ ((wr.alloc (.cells #[.int .i64 k] 2)).drew).heap.size := by show sb + 1 ≤ (wr.alloc (.cells #[.int .i64 k] 2)).heap.size; simp; omega
        have HZA := hid hza
        clear hza
        go_region_law (refine step_append_one _ rfl (.tmp 49) (.tmp 57) _ rfl (sb + 1) 2 8 _ Try.underlying27 infoInt rfl (by omega) _ set.length _ HOa.out rfl _ rfl wr.heap.size rfl ((Blk.new wr _ _).cell 0) (by omega) HZA.out ?_; intro v6 w6 ho6 hb6; obtain ⟨g3, c3, _, rfl, hg3, _, _, hgc3⟩ := row_open ho6 0 (by omega); have hb7 := (keepA (Below.refl (sb + 1) wr) (by omega) _).drew.trans hb6; have f3' := (HB2.out.belowB hb7 (Nat.lt_succ_self sb)).frozen 3; have q3' : w6.cell? ⟨sb, 3, none⟩ = some (Value.slice A2 set.length c2') := (HB2.out.belowB hb7 (Nat.lt_succ_self sb)).cell 3)
        all_goals
          have HP : Hid (w6.ownsRow (sb + 1) 2 1 (.slice (some ⟨g3, 0, none⟩) (set.length + 1) c3) (set ++ [(k : Int)]).length (flat encI (set ++ [(k : Int)]))) := hid (by rw [flat_snoc, List.length_append]; exact ho6)
          have HWb := hid (Below.setCell (HW.out.trans (hb7.mono (Nat.le_succ sb))) (p := ⟨sb, 3, none⟩) (Nat.le_refl _) (.slice (some ⟨g3, 0, none⟩) (set.length + 1) c3))
          have HB3 := hid (StI.set3 (HB2.out.belowB hb7 (Nat.lt_succ_self sb)) (.slice (some ⟨g3, 0, none⟩) (set.length + 1) c3))
          have HO3 := hid (ownsRow_setCell_below HP.out (a := ⟨sb, 3, none⟩) (Nat.lt_succ_self sb) (.slice (some ⟨g3, 0, none⟩) (set.length + 1) c3))
          clear HP ho6 hb7 hb6 q3' f3' q0 q1 q2 q3 c0 HOa HZA
          generalize w6.setCell ⟨sb, 3, none⟩ (.slice (some ⟨g3, 0, none⟩) (set.length + 1) c3) = wa at *
          have HC := hid (HIH.out (k + 1) ((k : Int) + 1) m b' (set ++ [(k : Int)]) (.slice (some ⟨g3, 0, none⟩) (set.length + 1) c3) wa rfl rfl (by omega) (by simp; omega) (HW0.out.trans HWb.out) (plc_snoc hp (by omega)) HB3.out HO3.out ⟨by omega, by omega⟩)
          have hrd := ext_budget R P m (k + 1) (set ++ [(k : Int)]) b' (by omega)
          have HR2 := hid (HQ.out.trans (HL.out.trans ((congrArg (fun z => lp (fun i b => ext R P m (i + 1) (set ++ [(i : Int)]) b) z k b') (show P - m - k = (P - m - (k + 1)) + 1 by omega)).trans (lp_succ _ (P - m - (k + 1)) k b'))))
          dsimp only [Hid] at HR2
          generalize ext R P m (k + 1) (set ++ [(k : Int)]) b' = r at *
          obtain ⟨ok, st, b2⟩ := r
          replace HR2 := hid HR2
          cases ok
          · have E1 := hid (show (set ++ [(k : Int)]).length = set.length + 1 by simp)
            by_cases hb2 : b2 < 0
            · have HQ2 := hid (HR2.out.trans ((if_neg (by simp)).trans (if_pos hb2)))
              go_wp2_with (go_at_call 90; refine HC.out.mono ?_; rintro e w2 ⟨rfl, hPS⟩; obtain ⟨sv4, hB4, hO4, hb4⟩ := postI_open hPS; rw [E1.out] at hO4; obtain ⟨g4, c4, _, rfl, hg4, _, _, hgc4⟩ := row_open hO4 0 (by omega); have f4 := hB4.frozen 3; have q4 : w2.cell? ⟨sb, 3, none⟩ = some (.slice (some ⟨g4, 0, none⟩) (set.length + 1) c4) := hB4.cell 3; have q2 : w2.cell? ⟨sb, 2, none⟩ = some (.int .i64 b2) := hB4.cell 2; have HB4 := hid hB4; have HO4 := hid hO4; have HW4 := hid (HWb.out.trans hb4); clear hB4 hO4 hb4)
              go_region
              have HO5 := hid (row_untake HO4.out)
              go_wp2
              go_ret
              exact ⟨by rw [HQ2.out]; rfl, postI_no HQ2.out ((StI.set3 HB4.out (.slice (some ⟨g4, 0, none⟩) set.length c4)).ext (Ext.drewN _ 1)) (ownE (ownsRow_setCell_below HO5.out (a := ⟨sb, 3, none⟩) (Nat.lt_succ_self sb) _) (Ext.drewN _ 1)) (Below.trans (HW4.out.setCell (p := ⟨sb, 3, none⟩) (Nat.le_refl _) _) ((Ext.drewN _ 1).mono (Nat.le_trans (Nat.le_of_lt hlt) (HW4.out.setCell (p := ⟨sb, 3, none⟩) (Nat.le_refl _) _).size)))⟩
            · have HQ2 := hid (HR2.out.trans ((if_neg (by simp)).trans (if_neg hb2)))
              go_wp2_with (go_at_call 90; refine HC.out.mono ?_; rintro e w2 ⟨rfl, hPS⟩; obtain ⟨sv4, hB4, hO4, hb4⟩ := postI_open hPS; rw [E1.out] at hO4; obtain ⟨g4, c4, _, rfl, hg4, _, _, hgc4⟩ := row_open hO4 0 (by omega); have f4 := hB4.frozen 3; have q4 : w2.cell? ⟨sb, 3, none⟩ = some (.slice (some ⟨g4, 0, none⟩) (set.length + 1) c4) := hB4.cell 3; have q2 : w2.cell? ⟨sb, 2, none⟩ = some (.int .i64 b2) := hB4.cell 2; have HB4 := hid hB4; have HO4 := hid hO4; have HW4 := hid (HWb.out.trans hb4); clear hB4 hO4 hb4)
              go_region
              have HO5 := hid (row_untake HO4.out)
              go_wp2
              go_roundw
              case rel => exact ⟨k + 1, b2, _, by omega, by omega, by go_num, ⟨by omega, by omega⟩, hid (HQ.out.symm.trans HQ2.out), hid ((StI.set3 HB4.out (.slice (some ⟨g4, 0, none⟩) set.length c4)).ext (Ext.drewN _ 1)), hid (ownE (ownsRow_setCell_below HO5.out (a := ⟨sb, 3, none⟩) (Nat.lt_succ_self sb) _) (Ext.drewN _ 1)), hid (Below.trans (HW4.out.setCell (p := ⟨sb, 3, none⟩) (Nat.le_refl _) _) ((Ext.drewN _ 1).mono (Nat.le_trans (Nat.le_of_lt hlt) (HW4.out.setCell (p := ⟨sb, 3, none⟩) (Nat.le_refl _) _).size)))⟩
              case measure => simp [intOf]; omega
          · have HQ2 := hid (HR2.out.trans (if_pos rfl))
            go_wp2_with (go_at_call 90; refine HC.out.mono ?_; rintro e w2 ⟨rfl, hPS⟩)
            go_ret
            obtain ⟨sv4, hB4, hO4, hb4⟩ := postI_open1 hPS
            exact ⟨by rw [HQ2.out]; rfl, postI_yes HQ2.out hB4 hO4 (HWb.out.trans hb4)⟩
      · have HQ2 := hid (HQ.out.trans (HL.out.trans (show lp _ (P - m - k) k b' = (false, [], b') by rw [show P - m - k = 0 by omega]; rfl)))
        go_wp2
        go_ret
        exact ⟨by rw [HQ2.out]; rfl, postI_no HQ2.out HB2.out HO2.out HW.out⟩
end Go.Proofs.Ytopjccbjdcoanaa
