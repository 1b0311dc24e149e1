/- The program's FewestSensors. -/
import Derived.Test.YtopjccbjdcoanaaFsg
namespace Go.Proofs.Ytopjccbjdcoanaa
set_option linter.unusedVariables false
open Go.RowKit
set_option maxRecDepth 100000 in
set_option maxHeartbeats 1000000 in
theorem firstI (times : List (List Int)) (limit budget : Int) (c1 c2 lv : Value) (llo lhi sb : Nat) (w : World) (hF : fewOk times limit budget = true) (hR : ClOk (rightB times limit) (headLen times) sb c1 c2 w) (hlv : Sl llo lhi w 1 lv (headLen times) (flat encI (iota (headLen times)))) (hlh : lhi ≤ sb) (hP : headLen times ≤ 16)
    (hB : Blk w sb 78 (StI lv (.func (.func 53) #[] #[c1, c2]) (.slice none 0 0) budget)) (hb : 0 ≤ budget ∧ budget ≤ 20000) :
    Calls Try.prog 56 #[.pointer (some ⟨sb, 0, none⟩)] w fun e w' => (∃ v', e = .returned (.tuple #[v', .int .i64 (fewR times limit budget).2]) ∧ w'.ownsRow (sb + 1) 2 1 v' (fewR times limit budget).1.length (flat encI (fewR times limit budget).1)) ∧ Below sb w w' := by
  obtain ⟨hb0, hb1⟩ := hb
  obtain ⟨_, _, Al, cl, rfl, hlc, hcm, _⟩ := id hlv
  have HLV := hid hlv
  have HR := hid hR
  have HF := hid hF
  have HB := hid hB
  have hlt := hB.lt
  obtain ⟨q0, q1, q2, q3⟩ := StI.cells hB
  clear hlv hR hF hB
  go_enter Try.func56, Try.ntmps56
  go_wp2
  clear q0 q1 q2 q3
  go_loopw [11] (fun i W => ∃ (n : Nat) (b : Int) (sv : Value), i = .int .i64 n ∧ n ≤ headLen times + 1 ∧ (0 ≤ b ∧ b ≤ budget) ∧ Hid (firstG (rightB times limit) (headLen times) (headLen times + 1) 0 budget = firstG (rightB times limit) (headLen times) (headLen times + 1 - n) n b) ∧ Hid (Blk W sb 78 (StI (.slice Al (headLen times) cl) (.func (.func 53) #[] #[c1, c2]) sv b)) ∧ Hid (W.ownsRow (sb + 1) 2 1 sv 0 []) ∧ Hid (Below sb w W)) (fun i _ => headLen times + 1 - (intOf i).toNat)
  case atStart => exact ⟨0, budget, _, rfl, Nat.zero_le _, ⟨hb0, Int.le_refl _⟩, hid rfl, HB, hid ⟨rfl, .inl ⟨rfl, rfl⟩⟩, hid (Below.refl _ _)⟩
  case round =>
    obtain ⟨n, b, sv, rfl, hn1, ⟨hb0', hb1'⟩, HF2, HB2, HO2, HW⟩ := hrel
    obtain ⟨A2, c2', rfl⟩ := own_slice HO2.out
    by_cases hnP : n ≤ headLen times
    · have HC := hid (extI (rightB times limit) (headLen times) c1 c2 _ llo lhi sb w HR.out HLV.out hlh hP n 0 0 n b [] _ wr rfl rfl (Nat.zero_le _) (by simp; omega) HW.out (fun j h => absurd h (by simp)) HB2.out HO2.out ⟨hb0', by omega⟩)
      have hbd := ext_budget (rightB times limit) (headLen times) n 0 [] b hb0'
      have HF3 := hid (HF2.out.trans ((congrArg (fun z => firstG (rightB times limit) (headLen times) z n b) (show headLen times + 1 - n = (headLen times - n) + 1 by omega)).trans (show firstG (rightB times limit) (headLen times) ((headLen times - n) + 1) n b = if (ext (rightB times limit) (headLen times) n 0 [] b).1 then (some (ext (rightB times limit) (headLen times) n 0 [] b).2.1, false) else if (ext (rightB times limit) (headLen times) n 0 [] b).2.2 < 0 then (none, true) else firstG (rightB times limit) (headLen times) (headLen times - n) (n + 1) (ext (rightB times limit) (headLen times) n 0 [] b).2.2 from rfl)))
      dsimp only [Hid] at HF3
      generalize ext (rightB times limit) (headLen times) n 0 [] b = r at *
      obtain ⟨ok, st, b2⟩ := r
      replace HF3 := hid HF3
      cases ok
      · by_cases hb2 : b2 < 0
        · have HQ := hid (fewR_n HF.out (HF3.out.trans ((if_neg (by simp)).trans (if_pos hb2))))
          go_wp2_with (go_at_call 90; refine HC.out.mono ?_; rintro e w2 ⟨rfl, hPS⟩; obtain ⟨sv4, hB4, hO4, hb4⟩ := postI_open hPS; have q2 : w2.cell? ⟨sb, 2, none⟩ = some (.int .i64 b2) := hB4.cell 2; have HW4 := hid (HW.out.trans hb4); clear hB4 hO4 hb4)
          go_ret2
          exact ⟨⟨_, by rw [HQ.out]; rfl, by rw [HQ.out]; exact ⟨rfl, .inl ⟨rfl, rfl⟩⟩⟩, HW4.out⟩
        · have HF4 := hid (HF3.out.trans ((if_neg (by simp)).trans (if_neg hb2)))
          go_wp2_with (go_at_call 90; refine HC.out.mono ?_; rintro e w2 ⟨rfl, hPS⟩; obtain ⟨sv4, hB4, hO4, hb4⟩ := postI_open hPS; have q2 : w2.cell? ⟨sb, 2, none⟩ = some (.int .i64 b2) := hB4.cell 2; have HB4 := hid hB4; have HO4 := hid hO4; have HW4 := hid (HW.out.trans hb4); clear hB4 hO4 hb4)
          go_roundw
          case rel => exact ⟨n + 1, b2, sv4, by go_num, by omega, ⟨by omega, by omega⟩, hid (HF4.out.trans (congrArg (fun z => firstG (rightB times limit) (headLen times) z (n + 1) b2) (by omega))), HB4, HO4, HW4⟩
          case measure => simp [intOf]; omega
      · have HQ := hid (fewR_s HF.out (HF3.out.trans (if_pos rfl)))
        go_wp2_with (go_at_call 90; refine HC.out.mono ?_; rintro e w2 ⟨rfl, hPS⟩; obtain ⟨sv4, hB4, hO4, hb4⟩ := postI_open1 hPS; obtain ⟨A4, c4, rfl⟩ := own_slice hO4; have q3 : w2.cell? ⟨sb, 3, none⟩ = some (.slice A4 st.length c4) := hB4.cell 3; have HO4 := hid hO4; have HW4 := hid (HW.out.trans hb4); clear hB4 hO4 hb4)
        go_ret2
        exact ⟨⟨_, by rw [HQ.out]; rfl, by rw [HQ.out]; exact HO4.out⟩, HW4.out⟩
    · obtain rfl : n = headLen times + 1 := by omega
      have HQ := hid (fewR_n (f := false) HF.out (HF2.out.trans (by rw [Nat.sub_self]; rfl)))
      go_wp2
      go_ret2
      exact ⟨⟨_, by rw [HQ.out]; rfl, by rw [HQ.out]; exact ⟨rfl, .inl ⟨rfl, rfl⟩⟩⟩, HW.out⟩
end Go.Proofs.Ytopjccbjdcoanaa
