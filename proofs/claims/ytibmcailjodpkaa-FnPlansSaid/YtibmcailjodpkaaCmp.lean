/- Contracts of Go's cmp functions at the types that the program uses: a number less than, equal to or above 0. -/
import Derived.Test.YtibmcailjodpkaaOk
import Derived.Deep.RegionHeld3
namespace Go.Proofs.Ytibmcailjodpkaa
set_option linter.unusedVariables false
open Go.RowKit
def cmpI (a b : Int) : Int := if a < b then -1 else if b < a then 1 else 0
def cmpS (a b : ByteArray) : Int := if strLt a b then -1 else if strLt b a then 1 else 0
theorem isNaNI (a : Int) (w : World) : Calls Try.prog 94 #[.int .i64 a] w fun e w' => e = .returned (.bool false) ∧ w = w' := by
  go_enter Try.func94, Try.ntmps94
  go_wp2
  go_ret
  exact ⟨rfl, rfl⟩
theorem compareI (a b : Int) (w : World) : Calls Try.prog 78 #[.int .i64 a, .int .i64 b] w fun e w' => e = .returned (.int .i64 (cmpI a b)) ∧ w = w' := by
  go_enter Try.func78, Try.ntmps78
  go_wp2_with (go_at_call 94; refine (isNaNI _ _).mono ?_; rintro e w' ⟨rfl, rfl⟩)
  all_goals (go_ret; refine ⟨ret_int ?_, rfl⟩; go_tidy; unfold cmpI; grind)
theorem isNaNS (a : ByteArray) (w : World) : Calls Try.prog 95 #[.string a] w fun e w' => e = .returned (.bool false) ∧ w = w' := by
  go_enter Try.func95, Try.ntmps95
  go_wp2
  go_ret
  exact ⟨rfl, rfl⟩
theorem compareS (a b : ByteArray) (w : World) : Calls Try.prog 79 #[.string a, .string b] w fun e w' => e = .returned (.int .i64 (cmpS a b)) ∧ w = w' := by
  go_enter Try.func79, Try.ntmps79
  go_wp2_with (go_at_call 95; refine (isNaNS _ _).mono ?_; rintro e w' ⟨rfl, rfl⟩)
  all_goals (go_ret; refine ⟨ret_int ?_, rfl⟩; go_tidy; unfold cmpS strLt; first | (simp_all; done) | (rename_i h1 h2; rcases bytesLess_total a.toList b.toList with h | h | h <;> simp_all [bytesLess_irrefl]))
def orI (a b : Int) : Int := if a = 0 then b else a
theorem or2 (a b : Int) (g c : Nat) (w : World) (h0 : w.cell? ⟨g, 0, none⟩ = some (.int .i64 a)) (h1 : w.cell? ⟨g, 1, none⟩ = some (.int .i64 b)) :
    Calls Try.prog 77 #[.slice (some ⟨g, 0, none⟩) 2 c] w fun e w' => e = .returned (.int .i64 (orI a b)) ∧ w = w' := by
  by_cases ha : a = 0
  · subst ha
    by_cases hb : b = 0
    · subst hb
      go_enter Try.func77, Try.ntmps77
      go_wp2
      go_rounds 3
      go_ret
      exact ⟨rfl, rfl⟩
    · have hb' : (b != 0) = true := by simp [hb]
      go_enter Try.func77, Try.ntmps77
      go_wp2
      go_rounds 3
      go_ret
      exact ⟨rfl, rfl⟩
  · have ha' : (a != 0) = true := by simp [ha]
    go_enter Try.func77, Try.ntmps77
    go_wp2
    go_rounds 3
    go_ret
    exact ⟨ret_int (by unfold orI; rw [if_neg ha]), rfl⟩
theorem orNew (a b : Int) (W : World) :
    Calls Try.prog 77 #[.slice (some ⟨W.heap.size, 0, none⟩) 2 2] (W.alloc (.cells #[.int .i64 a, .int .i64 b] 3)).drew fun e w' => e = .returned (.int .i64 (orI a b)) ∧ w' = (W.alloc (.cells #[.int .i64 a, .int .i64 b] 3)).drew :=
  (or2 a b _ _ _ (by simp [go_sem]) (by simp [go_sem])).mono fun _ _ ⟨h1, h2⟩ => ⟨h1, h2.symm⟩
end Go.Proofs.Ytibmcailjodpkaa
