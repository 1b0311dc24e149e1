/- Texts of one Drill, in both packages. -/
import Derived.Test.YtibmcailjodpkaaDoorXDrill
import Derived.Test.YtibmcailjodpkaaDoorDec
import Derived.Test.YtibmcailjodpkaaDoorOk
namespace Go.Proofs.YtibmcailjodpkaaDoor
set_option linter.unusedVariables false
open Go.RowKit
theorem Ext.drew1 (w : World) : Ext w w.drew := Ext.drewN w 1
theorem slNew (W : World) (t : TypeId) (ns : List Int) (cs : Array Value) (n : Nat) (hc : cs.toList = flat encI ns) (hn : n = ns.length) (hm : n ≤ 64) : Sl W.heap.size (W.heap.size + 1) (W.alloc (.cells cs t)) 1 (.slice (some ⟨W.heap.size, 0, none⟩) n n) ns.length (flat encI ns) := by
  subst hn
  refine ⟨by simp, flat_length encI_len ns, _, ns.length, rfl, Nat.le_refl _, by unfold maxLen; omega, fun _ => ⟨_, 0, rfl, Nat.le_refl _, Nat.lt_succ_self _, fun j u hu => ?_⟩⟩
  rw [Nat.zero_add, cell_of_row _ W.heap.size j cs t (0, 0) (heap_alloc_new W _), ← hu, ← hc]; simp
def drillB (x : Drill) : Bool := inB x.day 0 100000 && nameB x.crew && inB x.persons 1 200 && inB x.seconds 0 36000 && inB x.missing 0 x.persons
theorem l28Day (n : Int) (w : World) : Calls Tryd.prog 13 #[.int .i64 n] w fun e w' => e = .returned (.bool (inB n 0 100000)) ∧ w = w' := by
  go_enter Tryd.func13, Tryd.ntmps13
  go_wp2_with (go_at_call 15; refine (l00In _ _ _ _).mono ?_; rintro e w' ⟨rfl, rfl⟩)
  go_ret
  exact ⟨rfl, rfl⟩
set_option maxHeartbeats 1000000 in
theorem drillS (b : Nat) (x : Drill) (w : World) (hs : x.crew.size ≤ maxLen) (c0 : w.cell? ⟨b, 0, none⟩ = some (.int .i64 x.day)) (c1 : w.cell? ⟨b, 1, none⟩ = some (.string x.crew)) (c2 : w.cell? ⟨b, 2, none⟩ = some (.int .i64 x.persons)) (c3 : w.cell? ⟨b, 3, none⟩ = some (.int .i64 x.seconds)) (c4 : w.cell? ⟨b, 4, none⟩ = some (.int .i64 x.missing)) :
    Calls Tryd.prog 8 #[.pointer (some ⟨b, 0, none⟩)] w fun e w' => e = .returned (.bool (drillB x)) ∧ Ext w w' := by
  cases h0 : inB x.day 0 100000
  · have u_ := True.intro
    go_enter Tryd.func8, Tryd.ntmps8
    go_wp2_with fail
    go_quiet ((first | (go_at_call 13; exact Calls.quiet_of_same (qv (l28Day _ _) (vb h0)))))
    go_wp2
    go_ret
    exact ⟨ret_bool (by simp [drillB, *]), Ext.drewN _ _⟩
  cases h1 : nameB x.crew
  · have u_ := True.intro
    go_enter Tryd.func8, Tryd.ntmps8
    go_wp2_with fail
    go_quiet ((first | (go_at_call 13; exact Calls.quiet_of_same (qv (l28Day _ _) (vb h0))) | (go_at_call 14; exact Calls.quiet_of_same (qv (l01Name _ _ hs) (vb h1)))))
    go_wp2
    go_ret
    exact ⟨ret_bool (by simp [drillB, *]), Ext.drewN _ _⟩
  cases h2 : inB x.persons 1 200
  · have u_ := True.intro
    go_enter Tryd.func8, Tryd.ntmps8
    go_wp2_with fail
    go_quiet ((first | (go_at_call 13; exact Calls.quiet_of_same (qv (l28Day _ _) (vb h0))) | (go_at_call 14; exact Calls.quiet_of_same (qv (l01Name _ _ hs) (vb h1))) | (go_at_call 15; exact Calls.quiet_of_same (qv (l00In _ _ _ _) (vb h2)))))
    go_wp2
    go_ret
    exact ⟨ret_bool (by simp [drillB, *]), Ext.drewN _ _⟩
  cases h3 : inB x.seconds 0 36000
  · have u_ := True.intro
    go_enter Tryd.func8, Tryd.ntmps8
    go_wp2_with fail
    go_quiet ((first | (go_at_call 13; exact Calls.quiet_of_same (qv (l28Day _ _) (vb h0))) | (go_at_call 14; exact Calls.quiet_of_same (qv (l01Name _ _ hs) (vb h1))) | (go_at_call 15; exact Calls.quiet_of_same (qv (l00In _ _ _ _) (vb h2))) | (go_at_call 15; exact Calls.quiet_of_same (qv (l00In _ _ _ _) (vb h3)))))
    go_wp2
    go_ret
    exact ⟨ret_bool (by simp [drillB, *]), Ext.drewN _ _⟩
  cases h4 : inB x.missing 0 x.persons
  · have u_ := True.intro
    go_enter Tryd.func8, Tryd.ntmps8
    go_wp2_with fail
    go_quiet ((first | (go_at_call 13; exact Calls.quiet_of_same (qv (l28Day _ _) (vb h0))) | (go_at_call 14; exact Calls.quiet_of_same (qv (l01Name _ _ hs) (vb h1))) | (go_at_call 15; exact Calls.quiet_of_same (qv (l00In _ _ _ _) (vb h2))) | (go_at_call 15; exact Calls.quiet_of_same (qv (l00In _ _ _ _) (vb h3))) | (go_at_call 15; exact Calls.quiet_of_same (qv (l00In _ _ _ _) (vb h4)))))
    go_wp2
    go_ret
    exact ⟨ret_bool (by simp [drillB, *]), Ext.drewN _ _⟩
  go_enter Tryd.func8, Tryd.ntmps8
  go_wp2_with fail
  go_quiet ((first | (go_at_call 13; exact Calls.quiet_of_same (qv (l28Day _ _) (vb h0))) | (go_at_call 14; exact Calls.quiet_of_same (qv (l01Name _ _ hs) (vb h1))) | (go_at_call 15; exact Calls.quiet_of_same (qv (l00In _ _ _ _) (vb h2))) | (go_at_call 15; exact Calls.quiet_of_same (qv (l00In _ _ _ _) (vb h3))) | (go_at_call 15; exact Calls.quiet_of_same (qv (l00In _ _ _ _) (vb h4)))))
  go_wp2
  go_ret
  exact ⟨ret_bool (by simp [drillB, *]), Ext.drewN _ _⟩
theorem drillI (x : Drill) (w : World) (hs : x.crew.size ≤ maxLen) :
    Calls Tryd.prog 10 #[.agg #[.int .i64 x.day, .string x.crew, .int .i64 x.persons, .int .i64 x.seconds, .int .i64 x.missing]] w fun e w' => e = .returned (.bool (drillB x)) ∧ Ext w w' := by
  go_enter Tryd.func10, Tryd.ntmps10
  go_wp2_with (first | (go_at_call 18; refine (within _ _ _ _).mono ?_; rintro e w' ⟨rfl, rfl⟩) | (go_at_call 19; refine (isName _ _ hs).mono ?_; rintro e w' ⟨rfl, rfl⟩))
  all_goals (go_ret; refine ⟨ret_bool ?_, by go_tidy; go_grown⟩; go_tidy; grind [drillB])
theorem drillB_bd {x : Drill} (h : drillB x = true) : (∀ n ∈ ([x.persons, x.seconds, x.missing] : List Int), decOk n) ∧ x.crew.size ≤ 10 ∧ decOk x.day := by
  unfold drillB inB at h; simp only [Bool.and_eq_true, decide_eq_true_eq] at h
  have hn : x.crew.size ≤ 10 := by
    have : nameB x.crew = true := by simp [h]
    unfold nameB at this; simp only [Bool.and_eq_true, decide_eq_true_eq] at this; exact this.1.1.2
  refine ⟨fun n hn => ?_, hn, by unfold decOk; omega⟩
  simp only [List.mem_cons, List.not_mem_nil, or_false] at hn
  unfold decOk
  rcases hn with rfl | rfl | rfl <;> omega
def drillT (x : Drill) : ByteArray := (((decT x.day ++ ⟨#[32]⟩) ++ x.crew) ++ ⟨#[32]⟩) ++ textT [x.persons, x.seconds, x.missing]
def drillR (x : Drill) : ByteArray := if drillB x then drillT x else ⟨#[]⟩
theorem textT_size (ns : List Int) (hn : ns.length ≤ 64) (hb : ∀ n ∈ ns, decOk n) : (textT ns).size ≤ 1100 := by
  have h1 := join_le ns hb
  have h2 : (textT ns).size = (Lib.join (digs ns) [44]).length := rfl
  omega
set_option maxRecDepth 100000 in
set_option maxHeartbeats 1000000 in
theorem drillTS (b : Nat) (x : Drill) (w : World) (hs : x.crew.size ≤ maxLen) (hv : drillB x = true) (hbw : b < w.heap.size) (c0 : w.cell? ⟨b, 0, none⟩ = some (.int .i64 x.day)) (c1 : w.cell? ⟨b, 1, none⟩ = some (.string x.crew)) (c2 : w.cell? ⟨b, 2, none⟩ = some (.int .i64 x.persons)) (c3 : w.cell? ⟨b, 3, none⟩ = some (.int .i64 x.seconds)) (c4 : w.cell? ⟨b, 4, none⟩ = some (.int .i64 x.missing)) :
    Calls Tryd.prog 9 #[.pointer (some ⟨b, 0, none⟩)] w fun e w' => e = .returned (.string (drillT x)) ∧ Ext w w' := by
  obtain ⟨hok, hsz, hdd⟩ := drillB_bd hv
  have htz := textT_size [x.persons, x.seconds, x.missing] (by simp) hok
  have hdz : (decT x.day).size ≤ 14 := dec_len _ hdd
  have hl : 0 < ([x.persons, x.seconds, x.missing] : List Int).length := by simp
  have ha0 : ∀ W, Ext w W → W.cell? ⟨b, 0, none⟩ = some (.int .i64 x.day) := fun W hW => (hW.cell (p := ⟨b, _, none⟩) hbw).trans c0
  have ha1 : ∀ W, Ext w W → W.cell? ⟨b, 1, none⟩ = some (.string x.crew) := fun W hW => (hW.cell (p := ⟨b, _, none⟩) hbw).trans c1
  have ha2 : ∀ W, Ext w W → W.cell? ⟨b, 2, none⟩ = some (.int .i64 x.persons) := fun W hW => (hW.cell (p := ⟨b, _, none⟩) hbw).trans c2
  have ha3 : ∀ W, Ext w W → W.cell? ⟨b, 3, none⟩ = some (.int .i64 x.seconds) := fun W hW => (hW.cell (p := ⟨b, _, none⟩) hbw).trans c3
  have ha4 : ∀ W, Ext w W → W.cell? ⟨b, 4, none⟩ = some (.int .i64 x.missing) := fun W hW => (hW.cell (p := ⟨b, _, none⟩) hbw).trans c4
  clear c0 c1 c2 c3 c4
  have HOK := hid hok
  clear hok
  have hadd0 : ∀ W, (Op.stringOp .add (decT x.day) (⟨#[32]⟩)).run Tryd.prog W = .ok (.string ((decT x.day) ++ (⟨#[32]⟩))) W := fun W => run_string_add_sum W _ _ (by have h1 : (⟨#[32]⟩ : ByteArray).size = 1 := rfl; (try simp only [ByteArray.size_append]); omega)
  have hadd1 : ∀ W, (Op.stringOp .add (decT x.day ++ ⟨#[32]⟩) (x.crew)).run Tryd.prog W = .ok (.string ((decT x.day ++ ⟨#[32]⟩) ++ (x.crew))) W := fun W => run_string_add_sum W _ _ (by have h1 : (⟨#[32]⟩ : ByteArray).size = 1 := rfl; (try simp only [ByteArray.size_append]); omega)
  have hadd2 : ∀ W, (Op.stringOp .add ((decT x.day ++ ⟨#[32]⟩) ++ x.crew) (⟨#[32]⟩)).run Tryd.prog W = .ok (.string (((decT x.day ++ ⟨#[32]⟩) ++ x.crew) ++ (⟨#[32]⟩))) W := fun W => run_string_add_sum W _ _ (by have h1 : (⟨#[32]⟩ : ByteArray).size = 1 := rfl; (try simp only [ByteArray.size_append]); omega)
  have hadd3 : ∀ W, (Op.stringOp .add (((decT x.day ++ ⟨#[32]⟩) ++ x.crew) ++ ⟨#[32]⟩) (textT [x.persons, x.seconds, x.missing])).run Tryd.prog W = .ok (.string ((((decT x.day ++ ⟨#[32]⟩) ++ x.crew) ++ ⟨#[32]⟩) ++ (textT [x.persons, x.seconds, x.missing]))) W := fun W => run_string_add_sum W _ _ (by have h1 : (⟨#[32]⟩ : ByteArray).size = 1 := rfl; (try simp only [ByteArray.size_append]); omega)
  go_enter Tryd.func9, Tryd.ntmps9
  go_wp2_with fail
  go_region_held3 (fun W => Ext w W) (first | assumption | exact Ext.drewN _ 1 | exact Ext.tr (by assumption) (Ext.new _ _) | exact Ext.tr (by assumption) hE2 | exact Ext.tr (by assumption) hE3) (first | (go_at_call 17; refine (l01List [x.persons, x.seconds, x.missing] _ _ _ _ ((slNew _ 2 [x.persons, x.seconds, x.missing] #[.int .i64 x.persons, .int .i64 x.seconds, .int .i64 x.missing] 3 rfl rfl (by simp)).ext (Ext.drewN _ 1)) hl (by simp) HOK.out).mono ?_; rintro e w2 ⟨rfl, hE2⟩) | (go_at_call 17; refine (l01List [x.persons, x.seconds, x.missing] _ _ _ _ (slNew _ 2 [x.persons, x.seconds, x.missing] #[.int .i64 x.persons, .int .i64 x.seconds, .int .i64 x.missing] 3 rfl rfl (by simp)) hl (by simp) HOK.out).mono ?_; rintro e w2 ⟨rfl, hE2⟩) | (go_at_call 17; refine (l01List [x.persons, x.seconds, x.missing] _ _ _ _ ((slNew _ 2 [x.persons, x.seconds, x.missing] #[.int .i64 x.persons, .int .i64 x.seconds, .int .i64 x.missing] 3 rfl rfl (by simp)).ext (Ext.tr (Ext.drewN _ 1) hE3)) hl (by simp) HOK.out).mono ?_; rintro e w2 ⟨rfl, hE2⟩) | (go_at_call 16; refine (l01Dec x.day _ hdd.1 hdd.2).mono ?_; rintro e w3 ⟨rfl, hE3⟩))
  all_goals
    go_wp2
    go_ret
    exact ⟨rfl, by assumption⟩
set_option maxRecDepth 100000 in
theorem specDrillText (x : Drill) (w : World) (hs : x.crew.size ≤ maxLen) :
    Calls Tryd.prog 5 #[.agg #[.int .i64 x.day, .string x.crew, .int .i64 x.persons, .int .i64 x.seconds, .int .i64 x.missing]] w fun e w' => e = .returned (.string (drillR x)) ∧ Ext w w' := by
  cases hv : drillB x
  · have HR := hid (show drillR x = ⟨#[]⟩ by unfold drillR; rw [hv]; rfl)
    go_enter Tryd.func5, Tryd.ntmps5
    go_wp2_with fail
    generalize hA : World.alloc _ _ = B
    have hEB : Ext w B := by rw [← hA]; exact Ext.new _ _
    have hBk : Blk B w.heap.size 26 #[.int .i64 x.day, .string x.crew, .int .i64 x.persons, .int .i64 x.seconds, .int .i64 x.missing] := by rw [← hA]; exact Blk.new _ _ _
    clear hA
    refine (cv (drillS _ x _ hs (hBk.cell 0) (hBk.cell 1) (hBk.cell 2) (hBk.cell 3) (hBk.cell 4)) (vb hv)).mono ?_
    rintro e w1 ⟨rfl, hE1⟩
    go_wp2
    go_ret
    exact ⟨ret_str (by rw [HR.out]), Ext.tr hEB hE1⟩
  · have HR := hid (show drillR x = drillT x by unfold drillR; rw [hv]; rfl)
    go_enter Tryd.func5, Tryd.ntmps5
    go_wp2_with fail
    generalize hA : World.alloc _ _ = B
    have hEB : Ext w B := by rw [← hA]; exact Ext.new _ _
    have hBk : Blk B w.heap.size 26 #[.int .i64 x.day, .string x.crew, .int .i64 x.persons, .int .i64 x.seconds, .int .i64 x.missing] := by rw [← hA]; exact Blk.new _ _ _
    clear hA
    refine (cv (drillS _ x _ hs (hBk.cell 0) (hBk.cell 1) (hBk.cell 2) (hBk.cell 3) (hBk.cell 4)) (vb hv)).mono ?_
    rintro e w1 ⟨rfl, hE1⟩
    replace hBk := hBk.ext hE1
    go_wp2_with fail
    refine (drillTS _ x _ hs hv hBk.lt (hBk.cell 0) (hBk.cell 1) (hBk.cell 2) (hBk.cell 3) (hBk.cell 4)).mono ?_
    rintro e w2 ⟨rfl, hE2⟩
    go_wp2
    go_ret
    exact ⟨ret_str (by rw [HR.out]), Ext.tr (Ext.tr hEB hE1) hE2⟩
end Go.Proofs.YtibmcailjodpkaaDoor
