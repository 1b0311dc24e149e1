/- Contracts of the functions on one check: whether it is valid, when it is due, its size and its copy. -/
import Derived.Test.YtnbkbbjpnfhabaaBase
namespace Go.Proofs.Ytnbkbbjpnfhabaa
open Go.RowKit

def checkB (id : ByteArray) (every last : Int) : Bool := nameB id && inB every 1 365 && inB last 0 100000
theorem checkB_bd {id : ByteArray} {a p : Int} (h : checkB id a p = true) : (1 ≤ a ∧ a ≤ 365) ∧ (0 ≤ p ∧ p ≤ 100000) := by
  unfold checkB inB at h; simp at h; omega

theorem l25One (b o : Nat) (id : ByteArray) (a p : Int) (w : World) (hs : id.size ≤ maxLen)
    (c0 : w.cell? ⟨b, o, none⟩ = some (.string id)) (c1 : w.cell? ⟨b, o + 1, none⟩ = some (.int .i64 a)) (c2 : w.cell? ⟨b, o + 2, none⟩ = some (.int .i64 p)) :
    Calls Try.prog 37 #[.pointer (some ⟨b, o, none⟩)] w fun e w' => e = .returned (.bool (checkB id a p)) ∧ w = w' := by
  go_enter Try.func37, Try.ntmps37
  go_wp2_with (first | (go_at_call 50; refine (l01Name _ _ hs).mono ?_; rintro e w' ⟨rfl, rfl⟩) | (go_at_call 42; refine (l00In _ _ _ _).mono ?_; rintro e w' ⟨rfl, rfl⟩))
  all_goals (go_ret; refine ⟨ret_bool ?_, rfl⟩; go_tidy; grind [checkB])
theorem checkDay (n : Int) (w : World) :
    Calls Try.prog 43 #[.int .i64 n] w fun e w' => e = .returned (.bool (inB n 0 100000)) ∧ w = w' := by
  go_enter Try.func43, Try.ntmps43
  go_wp2_with (go_at_call 44; refine (within _ _ _ _).mono ?_; rintro e w' ⟨rfl, rfl⟩)
  go_ret
  exact ⟨rfl, rfl⟩
theorem l25Day (n : Int) (w : World) :
    Calls Try.prog 41 #[.int .i64 n] w fun e w' => e = .returned (.bool (inB n 0 100000)) ∧ w = w' := by
  go_enter Try.func41, Try.ntmps41
  go_wp2_with (go_at_call 42; refine (l00In _ _ _ _).mono ?_; rintro e w' ⟨rfl, rfl⟩)
  go_ret
  exact ⟨rfl, rfl⟩
theorem checkValid (id : ByteArray) (a p : Int) (w : World) (hs : id.size ≤ maxLen) :
    Calls Try.prog 39 #[.agg #[.string id, .int .i64 a, .int .i64 p]] w fun e w' => e = .returned (.bool (checkB id a p)) ∧ Ext w w' := by
  go_enter Try.func39, Try.ntmps39
  go_wp2_with (first | (go_at_call 51; refine (isName _ _ hs).mono ?_; rintro e w' ⟨rfl, rfl⟩) | (go_at_call 44; refine (within _ _ _ _).mono ?_; rintro e w' ⟨rfl, rfl⟩) | (go_at_call 43; refine (checkDay _ _).mono ?_; rintro e w' ⟨rfl, rfl⟩))
  all_goals (go_ret; refine ⟨ret_bool ?_, by go_tidy; go_grown⟩; go_tidy; grind [checkB])
theorem l25Due (b o : Nat) (a p : Int) (w : World) (ha : 1 ≤ a ∧ a ≤ 365) (hp : 0 ≤ p ∧ p ≤ 100000)
    (c1 : w.cell? ⟨b, o + 1, none⟩ = some (.int .i64 a)) (c2 : w.cell? ⟨b, o + 2, none⟩ = some (.int .i64 p)) :
    Calls Try.prog 38 #[.pointer (some ⟨b, o, none⟩)] w fun e w' => e = .returned (.int .i64 (p + a)) ∧ ∃ n, w' = w.drewN n := by
  obtain ⟨ha1, ha2⟩ := ha
  obtain ⟨hp1, hp2⟩ := hp
  go_enter Try.func38, Try.ntmps38
  go_wp2_with fail
  go_quiet (fail)
  go_wp2
  go_ret
  exact ⟨rfl, _, rfl⟩
theorem checkDue (id : ByteArray) (a p : Int) (w : World) (ha : 1 ≤ a ∧ a ≤ 365) (hp : 0 ≤ p ∧ p ≤ 100000) :
    Calls Try.prog 40 #[.agg #[.string id, .int .i64 a, .int .i64 p]] w fun e w' => e = .returned (.int .i64 (p + a)) ∧ Ext w w' := by
  obtain ⟨ha1, ha2⟩ := ha
  obtain ⟨hp1, hp2⟩ := hp
  go_enter Try.func40, Try.ntmps40
  go_wp2
  go_ret
  exact ⟨rfl, by go_tidy; go_grown⟩
theorem szCheck (id : ByteArray) (a p l : Int) (w : World) (hs : id.size ≤ maxLen) (hl : 0 ≤ l ∧ l ≤ 1048576) :
    Calls Try.prog 17 #[.agg #[.string id, .int .i64 a, .int .i64 p], .int .i64 l] w fun e w' => e = .returned (.int .i64 (szF l id.size)) ∧ Ext w w' := by
  obtain ⟨hl1, hl2⟩ := hl
  unfold maxLen at hs
  go_enter Try.func17, Try.ntmps17
  go_wp2
  all_goals (go_ret; refine ⟨ret_int ?_, by go_tidy; go_grown⟩; go_tidy; unfold szF; split <;> omega)
theorem toCheck (id : ByteArray) (a p : Int) (w : World) :
    Calls Try.prog 19 #[.agg #[.string id, .int .i64 a, .int .i64 p]] w fun e w' => e = .returned (.agg #[.string id, .int .i64 a, .int .i64 p]) ∧ Ext w w' := by
  go_enter Try.func19, Try.ntmps19
  go_wp2
  go_returns
  exact ⟨rfl, by go_tidy; go_grown⟩
end Go.Proofs.Ytnbkbbjpnfhabaa
