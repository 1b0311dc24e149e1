/- Contracts of DiffStates in both packages: the functions. -/
import Derived.Test.YthffakaddohlnaaF27
namespace Go.Proofs.Ythffakaddohlnaa
set_option linter.unusedVariables false
open Go.RowKit
def diffR (xs ys : List Setting) : List Change × Int := if stateOkB xs && stateOkB ys then (diffs xs ys ys.length, 0) else ([], 1)
theorem diffR_no {xs ys : List Setting} (h : (stateOkB xs && stateOkB ys) = false) : diffR xs ys = ([], 1) := by unfold diffR; rw [h]; rfl
theorem diffR_ok {xs ys : List Setting} (h1 : stateOkB xs = true) (h2 : stateOkB ys = true) : diffR xs ys = (diffs xs ys ys.length, 0) := by unfold diffR; rw [h1, h2]; rfl
theorem state_len {xs : List Setting} (h : stateOkB xs = true) : xs.length ≤ 24 := by unfold stateOkB at h; simp only [Bool.and_eq_true, decide_eq_true_eq] at h; exact h.1
theorem specDiffNo (xs ys : List Setting) (lo hi lo2 hi2 : Nat) (v v2 : Value) (w : World) (hv : Sl lo hi w 2 v xs.length (flat Setting.enc xs)) (hs : ∀ x ∈ xs, x.name.size ≤ maxLen) (hn : xs.length ≤ 1048576) (hv2 : Sl lo2 hi2 w 2 v2 ys.length (flat Setting.enc ys)) (hs2 : ∀ x ∈ ys, x.name.size ≤ maxLen) (hn2 : ys.length ≤ 1048576) (hno : (stateOkB xs && stateOkB ys) = false) :
    Calls Try.prog 26 #[v, v2] w fun e w' => (∃ v', e = .returned (.tuple #[v', .int .i64 (diffR xs ys).2]) ∧ Own w.heap.size w'.heap.size w' 77 3 v' (diffR xs ys).1.length (flat Change.enc (diffR xs ys).1)) ∧ Ext w w' := by
  have HQ := hid (diffR_no hno)
  cases h1 : stateOkB xs
  · go_enter Try.func26, Try.ntmps26
    go_wp2_with fail
    refine (cv (stateSpec xs lo hi v _ hv hs hn) (vb h1)).mono ?_
    rintro e w1 ⟨rfl, hE⟩
    go_wp2
    go_ret2
    exact ⟨⟨_, by rw [HQ.out]; rfl, by rw [HQ.out]; exact Own.nil _ _ hE⟩, hE⟩
  · have h2 : stateOkB ys = false := by rw [h1] at hno; simpa using hno
    go_enter Try.func26, Try.ntmps26
    go_wp2_with fail
    refine (cv (stateSpec xs lo hi v _ hv hs hn) (vb h1)).mono ?_
    rintro e w1 ⟨rfl, hE⟩
    go_wp2_with fail
    refine (cv (stateSpec ys lo2 hi2 v2 _ (hv2.ext hE) hs2 hn2) (vb h2)).mono ?_
    rintro e w2 ⟨rfl, hE2⟩
    replace hE := Ext.tr hE hE2
    go_wp2
    go_ret2
    exact ⟨⟨_, by rw [HQ.out]; rfl, by rw [HQ.out]; exact Own.nil _ _ hE⟩, hE⟩
end Go.Proofs.Ythffakaddohlnaa
