/- The statement FnExactAddDrillSaid: whatever the input, the law returns true and its arguments read behind the call as before. No condition. -/
import Derived.Test.YtibmcailjodpkaaRows
import Derived.WalkKit
import Derived.ProofKit
import Derived.OpenShut
import Derived.ShutString
import Derived.ChangeOld
import Derived.Below
import Derived.Lib.SmallJoins
import Derived.Test.YtibmcailjodpkaaLAddDrill
import Derived.Test.YtibmcailjodpkaaODrill
import Derived.Test.YtibmcailjodpkaaAgg
namespace Go.Proofs.Ytibmcailjodpkaa.FnExactAddDrill
open Go.ChangeShapes Go.WideShapes Go.ChangeAt Go.RowKit Go.Joins
open Go.ChangeMaps (open_string)
open Go.Deep
set_option linter.unusedVariables false
theorem own : ownKnob Try.prog.godebug = none := by kernel_rfl
theorem laidOut : laidOutB Try.prog = true := by kernel_rfl
theorem cells_Drill : Try.prog.cellsOf 48 = 5 := by kernel_rfl

set_option maxRecDepth 100000 in
theorem lifted (os : Os) (started : os.Started) (H : Type) (enc : TypeId × Value → H) :
    ReturnsInHanded {} Try.checked os 9 .any (Rows.fnExactAddDrillSpec.pre6 enc Try.prog Try.f9 Rows.fnExactAddDrillRow.domain false) (Rows.fnExactAddDrillSpec.post enc Try.prog Try.f9 false true false false) := by
  refine returnsInHanded_of_change (C := Try.checked) own started (by kernel_rfl) Try.func9
    (ChangeSpec.witness6 (enc := enc) (C := Try.checked) false ⟨#[], #[.slice none 0 0, .agg #[.int .i64 0, .string ByteArray.empty, .int .i64 0, .int .i64 0, .int .i64 0]], []⟩ 8 (by kernel_rfl) (by kernel_rfl) (by kernel_rfl) (by kernel_rfl)) ?_
  intro W base args ds gs before hval0 hW hcnd _
  have hval : ∀ (j : Nat) t v, Try.f9.params[j]? = some t → args[j]? = some v → Value.okWide Try.prog W .any base t v := hval0
  have hW' := hW
  obtain ⟨p, q, hA0, hV, rfl, hfz, hnd⟩ := hW
  have hA : DataW.TrodAll enc Try.prog W 0 (fun _ => true) true Try.f9.params.toList args.toList ds p := hA0
  rw [Try.params9] at hA hval
  obtain ⟨v0, vs0, d0, ds0, p0, q0, hargs, rfl, rfl, h0, r0⟩ := trodAll_cons hA
  obtain ⟨v1, vs1, d1, ds1, p1, q1, rfl, rfl, rfl, h1, r1⟩ := trodAll_cons r0
  obtain ⟨rfl, rfl, rfl⟩ := trodAll_nil r1
  obtain rfl : args = #[v0, v1] := by cases args; simp_all
  obtain ⟨rfl, rfl⟩ := trodVars_none hV
  have k0 := h0
  have lt0 : ∀ x ∈ p0, x.block < W.heap.size := by obtain ⟨m, hm⟩ := k0; exact DataW.trod_lt m _ _ _ hm
  obtain ⟨a0, l0, q0, rfl⟩ := okWide_slice Try.underlying22 (hval 0 22 v0 rfl rfl)
  obtain ⟨aList, hl_aList, hv_aList, hs_aList⟩ := openDrillS h0
  have k1 := h1
  have lt1 : ∀ x ∈ p1, x.block < W.heap.size := by obtain ⟨m, hm⟩ := k1; exact DataW.trod_lt m _ _ _ hm
  obtain ⟨cs1, rfl, hz1, hf1⟩ := openAgg Try.underlying48 (by kernel_rfl) cells_Drill (hval 1 48 v1 rfl rfl) h1
  obtain ⟨c1_0, c1_1, c1_2, c1_3, c1_4, rfl⟩ := array5 hz1
  obtain ⟨u1_0, z1_0, m1_0, b1_0, g1_0⟩ := hf1 0 _ rfl
  simp only [List.getElem?_toArray, List.getElem?_cons_zero, Option.some.injEq] at b1_0
  subst b1_0
  obtain ⟨u1_1, z1_1, m1_1, b1_1, g1_1⟩ := hf1 1 _ rfl
  simp only [List.getElem?_toArray, List.getElem?_cons_zero, List.getElem?_cons_succ, Option.some.injEq] at b1_1
  subst b1_1
  obtain ⟨u1_2, z1_2, m1_2, b1_2, g1_2⟩ := hf1 2 _ rfl
  simp only [List.getElem?_toArray, List.getElem?_cons_zero, List.getElem?_cons_succ, Option.some.injEq] at b1_2
  subst b1_2
  obtain ⟨u1_3, z1_3, m1_3, b1_3, g1_3⟩ := hf1 3 _ rfl
  simp only [List.getElem?_toArray, List.getElem?_cons_zero, List.getElem?_cons_succ, Option.some.injEq] at b1_3
  subst b1_3
  obtain ⟨u1_4, z1_4, m1_4, b1_4, g1_4⟩ := hf1 4 _ rfl
  simp only [List.getElem?_toArray, List.getElem?_cons_zero, List.getElem?_cons_succ, Option.some.injEq] at b1_4
  subst b1_4
  clear hf1 hz1
  obtain ⟨aX_day, e1_0, _, w1_0⟩ := DataW.trod_int Try.underlying2 g1_0
  simp only [List.cons.injEq, and_true] at e1_0; subst e1_0
  obtain ⟨aX_crew, e1_1, _, w1_1⟩ := DataW.trod_string Try.underlying9 g1_1
  simp only [List.cons.injEq, and_true] at e1_1; subst e1_1
  obtain ⟨aX_persons, e1_2, _, w1_2⟩ := DataW.trod_int Try.underlying2 g1_2
  simp only [List.cons.injEq, and_true] at e1_2; subst e1_2
  obtain ⟨aX_seconds, e1_3, _, w1_3⟩ := DataW.trod_int Try.underlying2 g1_3
  simp only [List.cons.injEq, and_true] at e1_3; subst e1_3
  obtain ⟨aX_missing, e1_4, _, w1_4⟩ := DataW.trod_int Try.underlying2 g1_4
  simp only [List.cons.injEq, and_true] at e1_4; subst e1_4
  clear hA0 hval0
  refine (lawAddDrill W aList _ hv_aList hs_aList ⟨aX_day, aX_crew, aX_persons, aX_seconds, aX_missing⟩ w1_1).mono fun e W' ⟨he, bel⟩ => ?_
  subst he
  exact ⟨_, rfl, _, _, _, [], _, [], hW', trodAll_mk1 (shut_bool Try.underlying4 _), (trodAll_cons_mk (Below.trod laidOut (by kernel_rfl) (of_decide_eq_true (by kernel_rfl)) k0 bel lt0) (trodAll_cons_mk (Below.trod laidOut (by kernel_rfl) (of_decide_eq_true (by kernel_rfl)) k1 bel lt1) trodAll_mk0)), rfl, bel.frame _, fun h => by cases h⟩
theorem proved : Rows.FnExactAddDrillSaid :=
  OpenClaim.holds_of_wide 9 Try.f9 rfl rfl rfl rfl rfl rfl rfl ⟨rfl, rfl, rfl, rfl, rfl⟩ rfl rfl rfl rfl rfl (by kernel_rfl) Try.func9 (by kernel_rfl)
    (of_decide_eq_true (by kernel_rfl)) (by unfold Func.isWrapper; first | (rw [if_pos (by decide +kernel)]; kernel_rfl) | (rw [if_neg (by decide +kernel)]; exact ⟨rfl, rfl⟩))
    (fun os started H enc _ => lifted os started H enc)
#print axioms proved
end Go.Proofs.Ytibmcailjodpkaa.FnExactAddDrill
