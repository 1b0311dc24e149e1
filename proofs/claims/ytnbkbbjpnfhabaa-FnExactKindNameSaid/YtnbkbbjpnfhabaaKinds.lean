/- Contracts of the functions on kinds of permits: a kind, its name, whether two kinds clash; and the laws' walks. -/
import Derived.Test.YtnbkbbjpnfhabaaBase
namespace Go.Proofs.Ytnbkbbjpnfhabaa
open Go.RowKit

def str (l : List UInt8) : ByteArray := ⟨l.toArray⟩
def kindNameS (n : Int) : ByteArray := if n = 1 then str [101, 110, 116, 114, 121] else if n = 2 then str [100, 111, 111, 114] else if n = 3 then str [104, 111, 116] else if n = 4 then str [98, 108, 97, 115, 116] else str []
def clashB (a b : Int) (same : Bool) : Bool :=
  if b = 4 then true else if b = 3 then (decide (a ≠ 1) || same) else decide (a = 2) && decide (b = 2) && same
def kindsClashB (a b : Int) (same : Bool) : Bool := inB a 1 4 && inB b 1 4 && clashB (minI a b) (maxI a b) same

theorem l26Kind (n : Int) (w : World) :
    Calls Try.prog 29 #[.int .i64 n] w fun e w' => e = .returned (.bool (inB n 1 4)) ∧ w = w' := by
  go_enter Try.func29, Try.ntmps29
  go_wp2_with (go_at_call 42; refine (l00In _ _ _ _).mono ?_; rintro e w' ⟨rfl, rfl⟩)
  all_goals (go_ret; exact ⟨rfl, rfl⟩)
theorem kindOk (n : Int) (w : World) :
    Calls Try.prog 28 #[.int .i64 n] w fun e w' => e = .returned (.bool (inB n 1 4)) ∧ w = w' := by
  go_enter Try.func28, Try.ntmps28
  go_wp2_with (go_at_call 44; refine (within _ _ _ _).mono ?_; rintro e w' ⟨rfl, rfl⟩)
  all_goals (go_ret; exact ⟨rfl, rfl⟩)
theorem l26Kinds (a b : Int) (same : Bool) (w : World) :
    Calls Try.prog 30 #[.int .i64 a, .int .i64 b, .bool same] w fun e w' => e = .returned (.bool (clashB a b same)) ∧ w = w' := by
  go_enter Try.func30, Try.ntmps30
  go_wp2
  all_goals (go_ret; refine ⟨ret_bool ?_, rfl⟩; go_tidy; grind [clashB])
theorem l26Name (n : Int) (w : World) :
    Calls Try.prog 27 #[.int .i64 n] w fun e w' => e = .returned (.string (kindNameS n)) ∧ w = w' := by
  go_enter Try.func27, Try.ntmps27
  go_wp2
  all_goals (go_ret; refine ⟨ret_str ?_, rfl⟩; go_tidy; simp_all [kindNameS, str])
theorem specKindName (n : Int) (w : World) :
    Calls Try.prog 9 #[.int .i64 n] w fun e w' => e = .returned (.string (kindNameS n)) ∧ w = w' := by
  go_enter Try.func9, Try.ntmps9
  go_wp2_with (go_at_call 27; refine (l26Name _ _).mono ?_; rintro e w' ⟨rfl, rfl⟩)
  go_ret
  exact ⟨rfl, rfl⟩
theorem kind_cases (n : Int) (h : inB n 1 4 = true) : n = 1 ∨ n = 2 ∨ n = 3 ∨ n = 4 := by unfold inB at h; simp at h; omega
theorem kindNameS_no (n : Int) (h : inB n 1 4 = false) : kindNameS n = str [] := by
  unfold inB at h
  unfold kindNameS
  rw [if_neg (by rintro rfl; simp at h), if_neg (by rintro rfl; simp at h), if_neg (by rintro rfl; simp at h), if_neg (by rintro rfl; simp at h)]
theorem implKindName (n : Int) (w : World) :
    Calls Try.prog 10 #[.int .i64 n] w fun e w' => e = .returned (.string (kindNameS n)) ∧ w = w' := by
  cases h : inB n 1 4
  · go_enter Try.func10, Try.ntmps10
    go_wp2_with (go_at_call 28; refine (kindOk _ _).mono ?_; rintro e w' ⟨rfl, rfl⟩)
    go_ret
    exact ⟨ret_str (kindNameS_no n h).symm, rfl⟩
  · rcases kind_cases n h with rfl | rfl | rfl | rfl
    all_goals
      have i1 : ∀ w, (Instr.index 49 (.agg #[.string (str []), .string (str [101, 110, 116, 114, 121]), .string (str [100, 111, 111, 114]), .string (str [104, 111, 116]), .string (str [98, 108, 97, 115, 116])]) (.int .i64 1)).run Try.prog w = .ok (.string (str [101, 110, 116, 114, 121])) w := fun _ => by kernel_rfl
      have i2 : ∀ w, (Instr.index 49 (.agg #[.string (str []), .string (str [101, 110, 116, 114, 121]), .string (str [100, 111, 111, 114]), .string (str [104, 111, 116]), .string (str [98, 108, 97, 115, 116])]) (.int .i64 2)).run Try.prog w = .ok (.string (str [100, 111, 111, 114])) w := fun _ => by kernel_rfl
      have i3 : ∀ w, (Instr.index 49 (.agg #[.string (str []), .string (str [101, 110, 116, 114, 121]), .string (str [100, 111, 111, 114]), .string (str [104, 111, 116]), .string (str [98, 108, 97, 115, 116])]) (.int .i64 3)).run Try.prog w = .ok (.string (str [104, 111, 116])) w := fun _ => by kernel_rfl
      have i4 : ∀ w, (Instr.index 49 (.agg #[.string (str []), .string (str [101, 110, 116, 114, 121]), .string (str [100, 111, 111, 114]), .string (str [104, 111, 116]), .string (str [98, 108, 97, 115, 116])]) (.int .i64 4)).run Try.prog w = .ok (.string (str [98, 108, 97, 115, 116])) w := fun _ => by kernel_rfl
      unfold str at i1 i2 i3 i4
      go_enter Try.func10, Try.ntmps10
      go_wp2_with (go_at_call 28; refine (kindOk _ _).mono ?_; rintro e w' ⟨rfl, rfl⟩)
      go_ret
      exact ⟨rfl, rfl⟩
theorem lawKindName (n : Int) (w : World) :
    Calls Try.prog 3 #[.int .i64 n] w fun e w' => e = .returned (.bool true) ∧ Ext w w' := by
  go_enter Try.func3, Try.ntmps3
  go_wp2_with (first | (go_at_call 9; refine (specKindName _ _).mono ?_; rintro e w' ⟨rfl, rfl⟩) | (go_at_call 10; refine (implKindName _ _).mono ?_; rintro e w' ⟨rfl, rfl⟩))
  go_ret
  exact ⟨rfl, Below.refl _ _⟩
theorem specKindsClash (a b : Int) (same : Bool) (w : World) :
    Calls Try.prog 11 #[.int .i64 a, .int .i64 b, .bool same] w fun e w' => e = .returned (.bool (kindsClashB a b same)) ∧ w = w' := by
  go_enter Try.func11, Try.ntmps11
  go_wp2_with (first | (go_at_call 29; refine (l26Kind _ _).mono ?_; rintro e w' ⟨rfl, rfl⟩) | (go_at_call 31; refine (l00Min _ _ _).mono ?_; rintro e w' ⟨rfl, rfl⟩) | (go_at_call 32; refine (l00Max _ _ _).mono ?_; rintro e w' ⟨rfl, rfl⟩) | (go_at_call 30; refine (l26Kinds _ _ _ _).mono ?_; rintro e w' ⟨rfl, rfl⟩))
  all_goals (go_ret; refine ⟨ret_bool ?_, rfl⟩; go_tidy; simp_all [kindsClashB])
theorem implKindsClash (a b : Int) (same : Bool) (w : World) :
    Calls Try.prog 12 #[.int .i64 a, .int .i64 b, .bool same] w fun e w' => e = .returned (.bool (kindsClashB a b same)) ∧ w = w' := by
  go_enter Try.func12, Try.ntmps12
  go_wp2_with (go_at_call 28; refine (kindOk _ _).mono ?_; rintro e w' ⟨rfl, rfl⟩)
  all_goals (go_ret; refine ⟨ret_bool ?_, rfl⟩; go_tidy; grind [kindsClashB, clashB, minI, maxI, inB])
theorem lawKindsClash (a b : Int) (same : Bool) (w : World) :
    Calls Try.prog 4 #[.int .i64 a, .int .i64 b, .bool same] w fun e w' => e = .returned (.bool true) ∧ Ext w w' := by
  go_enter Try.func4, Try.ntmps4
  go_wp2_with (first | (go_at_call 11; refine (specKindsClash _ _ _ _).mono ?_; rintro e w' ⟨rfl, rfl⟩) | (go_at_call 12; refine (implKindsClash _ _ _ _).mono ?_; rintro e w' ⟨rfl, rfl⟩))
  go_ret
  exact ⟨rfl, Below.refl _ _⟩
end Go.Proofs.Ytnbkbbjpnfhabaa
