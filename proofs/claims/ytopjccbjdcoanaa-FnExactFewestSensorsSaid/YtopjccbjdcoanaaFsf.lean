/- The program's search: it goes through all sets. -/
import Derived.Test.YtopjccbjdcoanaaFse
import Derived.BigRegion
import Derived.StillTailTactics
namespace Go.Proofs.Ytopjccbjdcoanaa
set_option linter.unusedVariables false
open Go.RowKit
def StI (lv rv sv : Value) (budget : Int) : Array Value := #[lv, rv, .int .i64 budget, sv]
section
variable {w w' : World} {g t : Nat} {lv rv sv : Value} {budget : Int}
theorem StI.cells (h : Blk w g t (StI lv rv sv budget)) : w.cell? ⟨g, 0, none⟩ = some lv ∧ w.cell? ⟨g, 1, none⟩ = some rv ∧ w.cell? ⟨g, 2, none⟩ = some (.int .i64 budget) ∧ w.cell? ⟨g, 3, none⟩ = some sv := ⟨h.cell 0, h.cell 1, h.cell 2, h.cell 3⟩
theorem StI.set1 (h : Blk w g t (StI lv rv sv budget)) (u : Value) : Blk (w.setCell ⟨g, 1, none⟩ u) g t (StI lv u sv budget) := h.set_ 1 _
theorem StI.set2 (h : Blk w g t (StI lv rv sv budget)) (n : Int) : Blk (w.setCell ⟨g, 2, none⟩ (.int .i64 n)) g t (StI lv rv sv n) := h.set_ 2 _
theorem StI.set3 (h : Blk w g t (StI lv rv sv budget)) (u : Value) : Blk (w.setCell ⟨g, 3, none⟩ u) g t (StI lv rv u budget) := h.set_ 3 _
end
/-- what the program's search leaves -/
def PostI (sb : Nat) (lv rv : Value) (set : List Int) (r : SR) (w w' : World) : Prop :=
  ∃ sv', Blk w' sb 78 (StI lv rv sv' r.2.2) ∧ w'.ownsRow (sb + 1) 2 1 sv' (if r.1 then r.2.1 else set).length (flat encI (if r.1 then r.2.1 else set)) ∧ Below sb w w'
theorem postI_no {sb : Nat} {lv rv sv' : Value} {b' : Int} {set st : List Int} {r : SR} {w w' : World} (hr : r = (false, st, b')) (hB : Blk w' sb 78 (StI lv rv sv' b')) (hO : w'.ownsRow (sb + 1) 2 1 sv' set.length (flat encI set)) (hb : Below sb w w') : PostI sb lv rv set r w w' := by
  subst hr; exact ⟨sv', hB, hO, hb⟩
theorem postI_yes {sb : Nat} {lv rv sv' : Value} {b' : Int} {set st : List Int} {r : SR} {w w' : World} (hr : r = (true, st, b')) (hB : Blk w' sb 78 (StI lv rv sv' b')) (hO : w'.ownsRow (sb + 1) 2 1 sv' st.length (flat encI st)) (hb : Below sb w w') : PostI sb lv rv set r w w' := by
  subst hr; exact ⟨sv', hB, hO, hb⟩
theorem postI_open {sb : Nat} {lv rv : Value} {b' : Int} {set st : List Int} {w w' : World} (h : PostI sb lv rv set (false, st, b') w w') :
    ∃ sv', Blk w' sb 78 (StI lv rv sv' b') ∧ w'.ownsRow (sb + 1) 2 1 sv' set.length (flat encI set) ∧ Below sb w w' := h
theorem postI_open1 {sb : Nat} {lv rv : Value} {b' : Int} {set st : List Int} {w w' : World} (h : PostI sb lv rv set (true, st, b') w w') :
    ∃ sv', Blk w' sb 78 (StI lv rv sv' b') ∧ w'.ownsRow (sb + 1) 2 1 sv' st.length (flat encI st) ∧ Below sb w w' := h
/-- the closure answers for a set in every world that keeps what lies below the search -/
def ClOk (R : List Int → Bool) (P sb : Nat) (c1 c2 : Value) (w0 : World) : Prop :=
  ∀ (W : World) (set : List Int) (sv : Value) (lo hi : Nat), Below sb w0 W → Sl lo hi W 1 sv set.length (flat encI set) → Plc P set → set.length ≤ 16 →
    Calls Try.prog 53 #[sv, c1, c2] W fun e w' => e = .returned (.bool (R set)) ∧ Ext W w'
set_option maxRecDepth 100000 in
set_option maxHeartbeats 1000000 in
theorem extI0 (R : List Int → Bool) (P : Nat) (c1 c2 : Value) (sb : Nat) (w0 : World) (hR : ClOk R P sb c1 c2 w0) (frm b : Int) (set : List Int) (lv sv : Value) (w : World) (hw : Below sb w0 w) (hp : Plc P set) (hset : set.length ≤ 16)
    (hB : Blk w sb 78 (StI lv (.func (.func 53) #[] #[c1, c2]) sv b)) (hO : w.ownsRow (sb + 1) 2 1 sv set.length (flat encI set)) (hb : 0 ≤ b ∧ b ≤ 20000) :
    Calls Try.prog 90 #[.pointer (some ⟨sb, 0, none⟩), .int .i64 frm, .int .i64 0] w fun e w' => e = .returned (.bool (ext R P 0 frm.toNat set b).1) ∧ PostI sb lv (.func (.func 53) #[] #[c1, c2]) set (ext R P 0 frm.toNat set b) w w' := by
  obtain ⟨hb0, hb1⟩ := hb
  obtain ⟨A, c, rfl⟩ := own_slice hO
  have HR := hid hR
  have HB1 := hid (StI.set2 hB (b - 1))
  have HO1 := hid (ownsRow_setCell_below hO (a := ⟨sb, 2, none⟩) (Nat.lt_succ_self sb) (.int .i64 (b - 1)))
  have HW : Hid (Below sb w (w.setCell ⟨sb, 2, none⟩ (.int .i64 (b - 1)))) := hid (Below.setCell (Below.refl _ _) (p := ⟨sb, 2, none⟩) (Nat.le_refl _) _)
  have HW0 := hid (hw.trans HW.out)
  have hlt := hB.lt
  obtain ⟨q0, q1, q2, q3⟩ := StI.cells hB
  have f2 := hB.frozen 2
  clear hB hO hw hR
  go_enter Try.func90, Try.ntmps90
  go_wp2
  generalize w.setCell ⟨sb, 2, none⟩ (.int .i64 (b - 1)) = w1 at *
  clear q0 q1 q2 q3 f2
  have HX := hid (show ext R P 0 frm.toNat set b = if 0 ≤ b - 1 ∧ R set = true then (true, set, b - 1) else (false, [], b - 1) from rfl)
  dsimp only [Hid] at HX
  generalize b - 1 = b1 at *
  replace HX := hid HX
  obtain ⟨q0, q1, q2, q3⟩ := StI.cells HB1.out
  by_cases h1 : 0 ≤ b1
  · have hd : decide (0 ≤ b1) = true := by simpa using h1
    go_still_tail 14, (by kernel_rfl)
    change wpList _ _ _ _ _ w1.drew
    have hE1 : Ext w1 w1.drew := Ext.drewN _ 1
    have HC := hid (HR.out w1.drew set _ _ _ (HW0.out.trans (hE1.mono (Nat.le_trans (Nat.le_of_lt hlt) HW.out.size))) (Sl.of_own (ownE HO1.out hE1) (by unfold maxLen; omega)) hp hset)
    have HB2 := hid (HB1.out.ext hE1)
    have HO2 := hid (ownE HO1.out hE1)
    have HW2 := hid (HW.out.trans (hE1.mono (Nat.le_trans (Nat.le_of_lt hlt) HW.out.size)))
    generalize w1.drew = w2 at *
    clear q0 q1 q2 q3
    cases hp2 : R set
    · have HQ := hid (HX.out.trans (if_neg (fun h => by rw [hp2] at h; cases h.2)))
      go_wp2_with (go_at_call 53; refine (cv HC.out (vb hp2)).mono ?_; rintro e w3 ⟨rfl, hE⟩)
      go_ret
      exact ⟨by rw [HQ.out]; rfl, postI_no HQ.out (HB2.out.ext hE) (ownE HO2.out hE) (HW2.out.trans (hE.mono (Nat.le_trans (Nat.le_of_lt hlt) HW2.out.size)))⟩
    · have HQ := hid (HX.out.trans (if_pos ⟨h1, hp2⟩))
      go_wp2_with (go_at_call 53; refine (cv HC.out (vb hp2)).mono ?_; rintro e w3 ⟨rfl, hE⟩)
      go_ret
      exact ⟨by rw [HQ.out]; rfl, postI_yes HQ.out (HB2.out.ext hE) (ownE HO2.out hE) (HW2.out.trans (hE.mono (Nat.le_trans (Nat.le_of_lt hlt) HW2.out.size)))⟩
  · have hd : decide (0 ≤ b1) = false := by simpa using h1
    have HQ := hid (HX.out.trans (if_neg (fun h => h1 h.1)))
    go_quiet (fail)
    go_wp2
    go_ret
    exact ⟨by rw [HQ.out]; rfl, postI_no HQ.out (HB1.out.ext (Ext.drewN _ _)) (ownE HO1.out (Ext.drewN _ _)) (HW.out.trans ((Ext.drewN _ _).mono (Nat.le_trans (Nat.le_of_lt hlt) HW.out.size)))⟩
end Go.Proofs.Ytopjccbjdcoanaa
