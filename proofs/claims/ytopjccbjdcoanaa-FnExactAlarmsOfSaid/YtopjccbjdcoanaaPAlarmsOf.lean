/- The statement FnExactAlarmsOfSaid: whatever the input, the law returns true and its arguments read behind the call as before. No condition. -/
import Derived.Test.YtopjccbjdcoanaaRows
import Derived.WalkKit
import Derived.ProofKit
import Derived.OpenShut
import Derived.ShutString
import Derived.ChangeOld
import Derived.Below
import Derived.Lib.SmallJoins
import Derived.Test.YtopjccbjdcoanaaLAlarmsOf
import Derived.Test.YtopjccbjdcoanaaOSensor
import Derived.Test.YtopjccbjdcoanaaOSS
import Derived.Test.YtopjccbjdcoanaaAgg
namespace Go.Proofs.Ytopjccbjdcoanaa.FnExactAlarmsOf
open Go.ChangeShapes Go.WideShapes Go.ChangeAt Go.RowKit Go.Joins
open Go.ChangeMaps (open_string)
open Go.Deep
set_option linter.unusedVariables false
theorem own : ownKnob Try.prog.godebug = none := by kernel_rfl
theorem laidOut : laidOutB Try.prog = true := by kernel_rfl
theorem cells_Sensor : Try.prog.cellsOf 42 = 5 := by kernel_rfl

set_option maxRecDepth 100000 in
theorem lifted (os : Os) (started : os.Started) (H : Type) (enc : TypeId × Value → H) :
    ReturnsInHanded {} Try.checked os 4 .any (Rows.fnExactAlarmsOfSpec.pre6 enc Try.prog Try.f4 Rows.fnExactAlarmsOfRow.domain false) (Rows.fnExactAlarmsOfSpec.post enc Try.prog Try.f4 false true false false) := by
  refine returnsInHanded_of_change (C := Try.checked) own started (by kernel_rfl) Try.func4
    (ChangeSpec.witness6 (enc := enc) (C := Try.checked) false ⟨#[], #[.agg #[.string ByteArray.empty, .int .i64 0, .int .i64 0, .int .i64 0, .int .i64 0], .slice none 0 0], []⟩ 8 (by kernel_rfl) (by kernel_rfl) (by kernel_rfl) (by kernel_rfl)) ?_
  intro W base args ds gs before hval0 hW hcnd _
  have hval : ∀ (j : Nat) t v, Try.f4.params[j]? = some t → args[j]? = some v → Value.okWide Try.prog W .any base t v := hval0
  have hW' := hW
  obtain ⟨p, q, hA0, hV, rfl, hfz, hnd⟩ := hW
  have hA : DataW.TrodAll enc Try.prog W 0 (fun _ => true) true Try.f4.params.toList args.toList ds p := hA0
  rw [Try.params4] at hA hval
  obtain ⟨v0, vs0, d0, ds0, p0, q0, hargs, rfl, rfl, h0, r0⟩ := trodAll_cons hA
  obtain ⟨v1, vs1, d1, ds1, p1, q1, rfl, rfl, rfl, h1, r1⟩ := trodAll_cons r0
  obtain ⟨rfl, rfl, rfl⟩ := trodAll_nil r1
  obtain rfl : args = #[v0, v1] := by cases args; simp_all
  obtain ⟨rfl, rfl⟩ := trodVars_none hV
  have k0 := h0
  have lt0 : ∀ x ∈ p0, x.block < W.heap.size := by obtain ⟨m, hm⟩ := k0; exact DataW.trod_lt m _ _ _ hm
  obtain ⟨cs0, rfl, hz0, hf0⟩ := openAgg Try.underlying42 (by kernel_rfl) cells_Sensor (hval 0 42 v0 rfl rfl) h0
  obtain ⟨c0_0, c0_1, c0_2, c0_3, c0_4, rfl⟩ := array5 hz0
  obtain ⟨u0_0, z0_0, m0_0, b0_0, g0_0⟩ := hf0 0 _ rfl
  simp only [List.getElem?_toArray, List.getElem?_cons_zero, Option.some.injEq] at b0_0
  subst b0_0
  obtain ⟨u0_1, z0_1, m0_1, b0_1, g0_1⟩ := hf0 1 _ rfl
  simp only [List.getElem?_toArray, List.getElem?_cons_zero, List.getElem?_cons_succ, Option.some.injEq] at b0_1
  subst b0_1
  obtain ⟨u0_2, z0_2, m0_2, b0_2, g0_2⟩ := hf0 2 _ rfl
  simp only [List.getElem?_toArray, List.getElem?_cons_zero, List.getElem?_cons_succ, Option.some.injEq] at b0_2
  subst b0_2
  obtain ⟨u0_3, z0_3, m0_3, b0_3, g0_3⟩ := hf0 3 _ rfl
  simp only [List.getElem?_toArray, List.getElem?_cons_zero, List.getElem?_cons_succ, Option.some.injEq] at b0_3
  subst b0_3
  obtain ⟨u0_4, z0_4, m0_4, b0_4, g0_4⟩ := hf0 4 _ rfl
  simp only [List.getElem?_toArray, List.getElem?_cons_zero, List.getElem?_cons_succ, Option.some.injEq] at b0_4
  subst b0_4
  clear hf0 hz0
  obtain ⟨aX_id, e0_0, _, w0_0⟩ := DataW.trod_string Try.underlying9 g0_0
  simp only [List.cons.injEq, and_true] at e0_0; subst e0_0
  obtain ⟨aX_junction, e0_1, _, w0_1⟩ := DataW.trod_int Try.underlying2 g0_1
  simp only [List.cons.injEq, and_true] at e0_1; subst e0_1
  obtain ⟨aX_limit, e0_2, _, w0_2⟩ := DataW.trod_int Try.underlying2 g0_2
  simp only [List.cons.injEq, and_true] at e0_2; subst e0_2
  obtain ⟨aX_delay, e0_3, _, w0_3⟩ := DataW.trod_int Try.underlying2 g0_3
  simp only [List.cons.injEq, and_true] at e0_3; subst e0_3
  obtain ⟨aX_release, e0_4, _, w0_4⟩ := DataW.trod_int Try.underlying2 g0_4
  simp only [List.cons.injEq, and_true] at e0_4; subst e0_4
  have k1 := h1
  have lt1 : ∀ x ∈ p1, x.block < W.heap.size := by obtain ⟨m, hm⟩ := k1; exact DataW.trod_lt m _ _ _ hm
  obtain ⟨a1, l1, q1, rfl⟩ := okWide_slice Try.underlying27 (hval 1 27 v1 rfl rfl)
  obtain ⟨aSeries, hl_aSeries, hv_aSeries, hs_aSeries⟩ := openInt64S h1
  clear hA0 hval0
  refine (lawAlarmsOf W ⟨aX_id, aX_junction, aX_limit, aX_delay, aX_release⟩ w0_0 aSeries _ hv_aSeries).mono fun e W' ⟨he, bel⟩ => ?_
  subst he
  exact ⟨_, rfl, _, _, _, [], _, [], hW', trodAll_mk1 (shut_bool Try.underlying4 _), (trodAll_cons_mk (Below.trod laidOut (by kernel_rfl) (of_decide_eq_true (by kernel_rfl)) k0 bel lt0) (trodAll_cons_mk (Below.trod laidOut (by kernel_rfl) (of_decide_eq_true (by kernel_rfl)) k1 bel lt1) trodAll_mk0)), rfl, bel.frame _, fun h => by cases h⟩
theorem proved : Rows.FnExactAlarmsOfSaid :=
  OpenClaim.holds_of_wide 4 Try.f4 rfl rfl rfl rfl rfl rfl rfl ⟨rfl, rfl, rfl, rfl, rfl⟩ rfl rfl rfl rfl rfl (by kernel_rfl) Try.func4 (by kernel_rfl)
    (of_decide_eq_true (by kernel_rfl)) (by unfold Func.isWrapper; first | (rw [if_pos (by decide +kernel)]; kernel_rfl) | (rw [if_neg (by decide +kernel)]; exact ⟨rfl, rfl⟩))
    (fun os started H enc _ => lifted os started H enc)
#print axioms proved
end Go.Proofs.Ytopjccbjdcoanaa.FnExactAlarmsOf
