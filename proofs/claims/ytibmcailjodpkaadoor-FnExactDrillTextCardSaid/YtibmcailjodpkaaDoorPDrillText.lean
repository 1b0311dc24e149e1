/- The statement FnExactDrillTextSaid: whatever the input, the law returns true and its arguments read behind the call as before. No condition. -/
import Derived.Test.YtibmcailjodpkaaDoorRows
import Derived.WalkKit
import Derived.ProofKit
import Derived.OpenShut
import Derived.ShutString
import Derived.ChangeOld
import Derived.Below
import Derived.Lib.SmallJoins
import Derived.Test.YtibmcailjodpkaaDoorLDrillText
import Derived.Test.YtibmcailjodpkaaDoorCards
import Derived.Test.YtibmcailjodpkaaDoorTie
import Derived.SevenTiedAt
import Derived.Handed
import Derived.Lay
import Derived.LaidLaws
import Derived.LaidSub
import Derived.MakeChecks
import Derived.Lib.LaidTab
import Derived.Test.YtibmcailjodpkaaDoorAgg
namespace Go.Proofs.YtibmcailjodpkaaDoor.FnExactDrillText
open Go.ChangeShapes Go.WideShapes Go.ChangeAt Go.RowKit Go.Joins
open Go.ChangeMaps (open_string)
open Go.Deep
set_option linter.unusedVariables false
theorem own : ownKnob Tryd.prog.godebug = none := by kernel_rfl
theorem laidOut : laidOutB Tryd.prog = true := by kernel_rfl
theorem cells_Drill : Tryd.prog.cellsOf 23 = 5 := by kernel_rfl

theorem tabOf {W : World} (h : laidMetH Tryd.prog Rows.fnExactDrillTextRow.laid W) : tabP W := by
  rw [MakeChecks.laidMetH_plain _ _ _ (by kernel_rfl)] at h
  have h2 := h.filter (fun x => x.1 == "internal/strconv.uint64pow10")
  have e : (Rows.fnExactDrillTextRow.laid.filter fun x => x.1 == "internal/strconv.uint64pow10") = [("internal/strconv.uint64pow10", Lib.tabData .u64 Lib.pow10Tab)] := by rfl
  rw [e] at h2
  exact Lib.tabIs_of_head hgT (by kernel_rfl) Tryd.underlying63 Tryd.underlying55 (by kernel_rfl) (by kernel_rfl) h2
set_option maxRecDepth 100000 in
theorem lifted (os : Os) (started : os.Started) (H : Type) (enc : TypeId × Value → H) :
    ReturnsInHanded {} Tryd.checked os 3 .any (fun w args => (Rows.fnExactDrillTextSpec.pre enc Tryd.prog Tryd.f3 Rows.fnExactDrillTextRow.domain false w args ∧ laidMetH Tryd.prog Rows.fnExactDrillTextRow.laid w) ∧ sizedMet enc Tryd.prog Tryd.f3 (OpenSpec.ofChange Rows.fnExactDrillTextSpec) false w args)
      (Rows.fnExactDrillTextSpec.post enc Tryd.prog Tryd.f3 false true false false) := by
  refine returnsInHanded_of_change_and (C := Tryd.checked) (X := fun w _ => laidMetH Tryd.prog Rows.fnExactDrillTextRow.laid w) (fun _ _ _ hh h => h.of_heap hh) own started (by kernel_rfl) Tryd.func3
    (ChangeSpec.witness_shaped (enc := enc) (C := Tryd.checked) (os := os) (X := fun w _ => laidMetH Tryd.prog Rows.fnExactDrillTextRow.laid w) false (World.laidAll Tryd.prog os Rows.fnExactDrillTextRow.laid) #[.agg #[.int .i64 0, .string ByteArray.empty, .int .i64 0, .int .i64 0, .int .i64 0]] 8 (World.laidAll_os _ _ _)
      (World.shaped_of_ZipB (by kernel_rfl) (by kernel_rfl)) (by kernel_rfl) (by kernel_rfl) (by kernel_rfl)
      (by rw [MakeChecks.laidMetH_plain _ _ _ (by kernel_rfl)]; exact laidMet_laidAll _ (by kernel_rfl) (by kernel_rfl))) ?_
  intro W base args ds gs before hval0 hW hcnd _ hL _
  have hTab := tabOf hL
  have hval : ∀ (j : Nat) t v, Tryd.f3.params[j]? = some t → args[j]? = some v → Value.okWide Tryd.prog W .any base t v := hval0
  have hW' := hW
  obtain ⟨p, q, hA0, hV, rfl, hfz, hnd⟩ := hW
  have hA : DataW.TrodAll enc Tryd.prog W 0 (fun _ => true) true Tryd.f3.params.toList args.toList ds p := hA0
  rw [Tryd.params3] at hA hval
  obtain ⟨v0, vs0, d0, ds0, p0, q0, hargs, rfl, rfl, h0, r0⟩ := trodAll_cons hA
  obtain ⟨rfl, rfl, rfl⟩ := trodAll_nil r0
  obtain rfl : args = #[v0] := by cases args; simp_all
  obtain ⟨rfl, rfl⟩ := trodVars_none hV
  have k0 := h0
  have lt0 : ∀ x ∈ p0, x.block < W.heap.size := by obtain ⟨m, hm⟩ := k0; exact DataW.trod_lt m _ _ _ hm
  obtain ⟨cs0, rfl, hz0, hf0⟩ := openAgg Tryd.underlying23 (by kernel_rfl) cells_Drill (hval 0 23 v0 rfl rfl) h0
  obtain ⟨c0_0, c0_1, c0_2, c0_3, c0_4, rfl⟩ := array5 hz0
  obtain ⟨u0_0, z0_0, m0_0, b0_0, g0_0⟩ := hf0 0 _ rfl
  simp only [List.getElem?_toArray, List.getElem?_cons_zero, Option.some.injEq] at b0_0
  subst b0_0
  obtain ⟨u0_1, z0_1, m0_1, b0_1, g0_1⟩ := hf0 1 _ rfl
  simp only [List.getElem?_toArray, List.getElem?_cons_zero, List.getElem?_cons_succ, Option.some.injEq] at b0_1
  subst b0_1
  obtain ⟨u0_2, z0_2, m0_2, b0_2, g0_2⟩ := hf0 2 _ rfl
  simp only [List.getElem?_toArray, List.getElem?_cons_zero, List.getElem?_cons_succ, Option.some.injEq] at b0_2
  subst b0_2
  obtain ⟨u0_3, z0_3, m0_3, b0_3, g0_3⟩ := hf0 3 _ rfl
  simp only [List.getElem?_toArray, List.getElem?_cons_zero, List.getElem?_cons_succ, Option.some.injEq] at b0_3
  subst b0_3
  obtain ⟨u0_4, z0_4, m0_4, b0_4, g0_4⟩ := hf0 4 _ rfl
  simp only [List.getElem?_toArray, List.getElem?_cons_zero, List.getElem?_cons_succ, Option.some.injEq] at b0_4
  subst b0_4
  clear hf0 hz0
  obtain ⟨aX_day, e0_0, _, w0_0⟩ := DataW.trod_int Tryd.underlying2 g0_0
  simp only [List.cons.injEq, and_true] at e0_0; subst e0_0
  obtain ⟨aX_crew, e0_1, _, w0_1⟩ := DataW.trod_string Tryd.underlying9 g0_1
  simp only [List.cons.injEq, and_true] at e0_1; subst e0_1
  obtain ⟨aX_persons, e0_2, _, w0_2⟩ := DataW.trod_int Tryd.underlying2 g0_2
  simp only [List.cons.injEq, and_true] at e0_2; subst e0_2
  obtain ⟨aX_seconds, e0_3, _, w0_3⟩ := DataW.trod_int Tryd.underlying2 g0_3
  simp only [List.cons.injEq, and_true] at e0_3; subst e0_3
  obtain ⟨aX_missing, e0_4, _, w0_4⟩ := DataW.trod_int Tryd.underlying2 g0_4
  simp only [List.cons.injEq, and_true] at e0_4; subst e0_4
  clear hA0 hval0
  refine (lawDrillText W ⟨aX_day, aX_crew, aX_persons, aX_seconds, aX_missing⟩ w0_1 hTab).mono fun e W' ⟨he, bel⟩ => ?_
  subst he
  exact ⟨_, rfl, _, _, _, [], _, [], hW', trodAll_mk1 (shut_bool Tryd.underlying4 _), (trodAll_cons_mk (Below.trod laidOut (by kernel_rfl) (of_decide_eq_true (by kernel_rfl)) k0 bel lt0) trodAll_mk0), rfl, bel.frame _, fun h => by cases h⟩
theorem said : Rows.FnExactDrillTextSaid :=
  OpenClaim.holds_of_wide 3 Tryd.f3 rfl rfl rfl rfl rfl rfl rfl ⟨rfl, rfl, rfl, rfl, rfl⟩ rfl rfl rfl rfl rfl (by kernel_rfl) Tryd.func3 (by kernel_rfl)
    (of_decide_eq_true (by kernel_rfl)) (by unfold Func.isWrapper; first | (rw [if_pos (by decide +kernel)]; kernel_rfl) | (rw [if_neg (by decide +kernel)]; exact ⟨rfl, rfl⟩))
    (fun os started H enc _ => lifted os started H enc)
theorem proved : Rows.FnExactDrillTextCardSaid :=
  Claim7.holds_tied_plain_at .later [] [.data, .data, .data] true Rows.fnExactDrillTextCard.stood.harness Rows.fnExactDrillTextCard.stood.looks
    said (fun _ h => by cases h) (by kernel_rfl) (fun _ h => by cases h) fnExactDrillText_row_tie rfl ⟨rfl, rfl⟩ (by kernel_rfl) rfl
    (fun f fn hf hfn => by
      obtain rfl : f = 3 := Option.some.inj ((show Tryd.prog.funcNamed "loop.example/g01021/laws.FnExactDrillText" = some 3 by kernel_rfl).symm.trans hf) |>.symm
      obtain rfl : fn = Tryd.f3 := (Option.some.inj (Tryd.func3.symm.trans hfn)).symm
      exact ⟨by kernel_rfl, fun j t ht => by
        rw [Tryd.params3] at ht
        have h3 : t = 23 := by
          rcases j with _ | j
          · simpa using ht.symm
          · simp at ht
        subst h3
        exact (show Tryd.prog.wantsStandIn 23 = false by kernel_rfl)⟩)
    (by kernel_rfl)
#print axioms proved
end Go.Proofs.YtibmcailjodpkaaDoor.FnExactDrillText
