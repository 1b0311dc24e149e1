/- Contracts of the functions on one check: whether it is valid, when it is due, its size and its copy. -/
import Derived.Test.YtcocdigcmcpefaaBase
namespace Go.Proofs.Ytcocdigcmcpefaa
set_option linter.unusedVariables false
open Go.RowKit

def checkB (id : ByteArray) (every last : Int) : Bool := nameB id && inB every 1 365 && inB last 0 100000
theorem checkB_bd {id : ByteArray} {a p : Int} (h : checkB id a p = true) : (1 ≤ a ∧ a ≤ 365) ∧ (0 ≤ p ∧ p ≤ 100000) := by
  unfold checkB inB at h; simp at h; omega

theorem l25One (b o : Nat) (id : ByteArray) (a p : Int) (w : World) (hs : id.size ≤ maxLen)
    (c0 : w.cell? ⟨b, o, none⟩ = some (.string id)) (c1 : w.cell? ⟨b, o + 1, none⟩ = some (.int .i64 a)) (c2 : w.cell? ⟨b, o + 2, none⟩ = some (.int .i64 p)) :
    Calls Try.prog 54 #[.pointer (some ⟨b, o, none⟩)] w fun e w' => e = .returned (.bool (checkB id a p)) ∧ w = w' := by
  go_enter Try.func54, Try.ntmps54
  go_wp2_with (first | (go_at_call 65; refine (l01Name _ _ hs).mono ?_; rintro e w' ⟨rfl, rfl⟩) | (go_at_call 57; refine (l00In _ _ _ _).mono ?_; rintro e w' ⟨rfl, rfl⟩))
  all_goals (go_ret; refine ⟨ret_bool ?_, rfl⟩; go_tidy; grind [checkB])
theorem checkDay (n : Int) (w : World) :
    Calls Try.prog 41 #[.int .i64 n] w fun e w' => e = .returned (.bool (inB n 0 100000)) ∧ w = w' := by
  go_enter Try.func41, Try.ntmps41
  go_wp2_with (go_at_call 56; refine (within _ _ _ _).mono ?_; rintro e w' ⟨rfl, rfl⟩)
  go_ret
  exact ⟨rfl, rfl⟩
theorem l25Day (n : Int) (w : World) :
    Calls Try.prog 40 #[.int .i64 n] w fun e w' => e = .returned (.bool (inB n 0 100000)) ∧ w = w' := by
  go_enter Try.func40, Try.ntmps40
  go_wp2_with (go_at_call 57; refine (l00In _ _ _ _).mono ?_; rintro e w' ⟨rfl, rfl⟩)
  go_ret
  exact ⟨rfl, rfl⟩
theorem checkValid (id : ByteArray) (a p : Int) (w : World) (hs : id.size ≤ maxLen) :
    Calls Try.prog 33 #[.agg #[.string id, .int .i64 a, .int .i64 p]] w fun e w' => e = .returned (.bool (checkB id a p)) ∧ Ext w w' := by
  go_enter Try.func33, Try.ntmps33
  go_wp2_with (first | (go_at_call 55; refine (isName _ _ hs).mono ?_; rintro e w' ⟨rfl, rfl⟩) | (go_at_call 56; refine (within _ _ _ _).mono ?_; rintro e w' ⟨rfl, rfl⟩) | (go_at_call 41; refine (checkDay _ _).mono ?_; rintro e w' ⟨rfl, rfl⟩))
  all_goals (go_ret; refine ⟨ret_bool ?_, by go_tidy; go_grown⟩; go_tidy; grind [checkB])
theorem l25Due (b o : Nat) (a p : Int) (w : World) (ha : 1 ≤ a ∧ a ≤ 365) (hp : 0 ≤ p ∧ p ≤ 100000)
    (c1 : w.cell? ⟨b, o + 1, none⟩ = some (.int .i64 a)) (c2 : w.cell? ⟨b, o + 2, none⟩ = some (.int .i64 p)) :
    Calls Try.prog 36 #[.pointer (some ⟨b, o, none⟩)] w fun e w' => e = .returned (.int .i64 (p + a)) ∧ ∃ n, w' = w.drewN n := by
  obtain ⟨ha1, ha2⟩ := ha
  obtain ⟨hp1, hp2⟩ := hp
  go_enter Try.func36, Try.ntmps36
  go_wp2_with fail
  go_quiet (fail)
  go_wp2
  go_ret
  exact ⟨rfl, _, rfl⟩
theorem checkDue (id : ByteArray) (a p : Int) (w : World) (ha : 1 ≤ a ∧ a ≤ 365) (hp : 0 ≤ p ∧ p ≤ 100000) :
    Calls Try.prog 39 #[.agg #[.string id, .int .i64 a, .int .i64 p]] w fun e w' => e = .returned (.int .i64 (p + a)) ∧ Ext w w' := by
  obtain ⟨ha1, ha2⟩ := ha
  obtain ⟨hp1, hp2⟩ := hp
  go_enter Try.func39, Try.ntmps39
  go_wp2
  go_ret
  exact ⟨rfl, by go_tidy; go_grown⟩
end Go.Proofs.Ytcocdigcmcpefaa
