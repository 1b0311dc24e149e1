/- Texts of one Want, in both packages. -/
import Derived.Test.YtojmfjdbggpllaaDoorXWant
import Derived.Test.YtojmfjdbggpllaaDoorDec
import Derived.Test.YtojmfjdbggpllaaDoorOk
namespace Go.Proofs.YtojmfjdbggpllaaDoor
set_option linter.unusedVariables false
open Go.RowKit
theorem slNew (W : World) (t : TypeId) (ns : List Int) (cs : Array Value) (n : Nat) (hc : cs.toList = flat encI ns) (hn : n = ns.length) (hm : n ≤ 64) : Sl W.heap.size (W.heap.size + 1) (W.alloc (.cells cs t)) 1 (.slice (some ⟨W.heap.size, 0, none⟩) n n) ns.length (flat encI ns) := by
  subst hn
  refine ⟨by simp, flat_length encI_len ns, _, ns.length, rfl, Nat.le_refl _, by unfold maxLen; omega, fun _ => ⟨_, 0, rfl, Nat.le_refl _, Nat.lt_succ_self _, fun j u hu => ?_⟩⟩
  rw [Nat.zero_add, cell_of_row _ W.heap.size j cs t (0, 0) (heap_alloc_new W _), ← hu, ← hc]; simp
def wantB (x : Want) : Bool := inB x.airway 0 23 && inB x.least (-100000) 100000 && inB x.most x.least 100000
theorem l03Flow (n : Int) (w : World) : Calls Tryd.prog 21 #[.int .i64 n] w fun e w' => e = .returned (.bool (inB n (-100000) 100000)) ∧ w = w' := by
  go_enter Tryd.func21, Tryd.ntmps21
  go_wp2_with (go_at_call 20; refine (l00In _ _ _ _).mono ?_; rintro e w' ⟨rfl, rfl⟩)
  go_ret
  exact ⟨rfl, rfl⟩
theorem flowOk (n : Int) (w : World) : Calls Tryd.prog 24 #[.int .i64 n] w fun e w' => e = .returned (.bool (inB n (-100000) 100000)) ∧ w = w' := by
  go_enter Tryd.func24, Tryd.ntmps24
  go_wp2_with (go_at_call 23; refine (within _ _ _ _).mono ?_; rintro e w' ⟨rfl, rfl⟩)
  go_ret
  exact ⟨rfl, rfl⟩
set_option maxHeartbeats 1000000 in
theorem wantS (b : Nat) (x : Want) (w : World) (c0 : w.cell? ⟨b, 0, none⟩ = some (.int .i64 x.airway)) (c1 : w.cell? ⟨b, 1, none⟩ = some (.int .i64 x.least)) (c2 : w.cell? ⟨b, 2, none⟩ = some (.int .i64 x.most)) :
    Calls Tryd.prog 12 #[.pointer (some ⟨b, 0, none⟩)] w fun e w' => e = .returned (.bool (wantB x)) ∧ Ext w w' := by
  cases h0 : inB x.airway 0 23
  · have u_ := True.intro
    go_enter Tryd.func12, Tryd.ntmps12
    go_wp2_with fail
    go_quiet ((first | (go_at_call 20; exact Calls.quiet_of_same (qv (l00In _ _ _ _) (vb h0)))))
    go_wp2
    go_ret
    exact ⟨ret_bool (by simp [wantB, *]), Ext.drewN _ _⟩
  cases h1 : inB x.least (-100000) 100000
  · have u_ := True.intro
    go_enter Tryd.func12, Tryd.ntmps12
    go_wp2_with fail
    go_quiet ((first | (go_at_call 20; exact Calls.quiet_of_same (qv (l00In _ _ _ _) (vb h0))) | (go_at_call 21; exact Calls.quiet_of_same (qv (l03Flow _ _) (vb h1)))))
    go_wp2
    go_ret
    exact ⟨ret_bool (by simp [wantB, *]), Ext.drewN _ _⟩
  cases h2 : inB x.most x.least 100000
  · have u_ := True.intro
    go_enter Tryd.func12, Tryd.ntmps12
    go_wp2_with fail
    go_quiet ((first | (go_at_call 20; exact Calls.quiet_of_same (qv (l00In _ _ _ _) (vb h0))) | (go_at_call 21; exact Calls.quiet_of_same (qv (l03Flow _ _) (vb h1))) | (go_at_call 20; exact Calls.quiet_of_same (qv (l00In _ _ _ _) (vb h2)))))
    go_wp2
    go_ret
    exact ⟨ret_bool (by simp [wantB, *]), Ext.drewN _ _⟩
  go_enter Tryd.func12, Tryd.ntmps12
  go_wp2_with fail
  go_quiet ((first | (go_at_call 20; exact Calls.quiet_of_same (qv (l00In _ _ _ _) (vb h0))) | (go_at_call 21; exact Calls.quiet_of_same (qv (l03Flow _ _) (vb h1))) | (go_at_call 20; exact Calls.quiet_of_same (qv (l00In _ _ _ _) (vb h2)))))
  go_wp2
  go_ret
  exact ⟨ret_bool (by simp [wantB, *]), Ext.drewN _ _⟩
theorem wantI (x : Want) (w : World) :
    Calls Tryd.prog 14 #[.agg #[.int .i64 x.airway, .int .i64 x.least, .int .i64 x.most]] w fun e w' => e = .returned (.bool (wantB x)) ∧ Ext w w' := by
  go_enter Tryd.func14, Tryd.ntmps14
  go_wp2_with (first | (go_at_call 23; refine (within _ _ _ _).mono ?_; rintro e w' ⟨rfl, rfl⟩) | (go_at_call 24; refine (flowOk _ _).mono ?_; rintro e w' ⟨rfl, rfl⟩))
  all_goals (go_ret; refine ⟨ret_bool ?_, by go_tidy; go_grown⟩; go_tidy; grind [wantB])
theorem wantB_bd {x : Want} (h : wantB x = true) : (∀ n ∈ ([x.airway, x.least, x.most] : List Int), decOk n) := by
  unfold wantB inB at h; simp only [Bool.and_eq_true, decide_eq_true_eq] at h
  refine fun n hn => ?_
  simp only [List.mem_cons, List.not_mem_nil, or_false] at hn
  unfold decOk
  rcases hn with rfl | rfl | rfl <;> omega
def wantT (x : Want) : ByteArray := textT [x.airway, x.least, x.most]
def wantR (x : Want) : ByteArray := if wantB x then wantT x else ⟨#[]⟩
theorem textT_size (ns : List Int) (hn : ns.length ≤ 64) (hb : ∀ n ∈ ns, decOk n) : (textT ns).size ≤ 1100 := by
  have h1 := join_le ns hb
  have h2 : (textT ns).size = (Lib.join (digs ns) [44]).length := rfl
  omega
set_option maxRecDepth 100000 in
set_option maxHeartbeats 1000000 in
theorem wantTS (b : Nat) (x : Want) (w : World) (hv : wantB x = true) (hbw : b < w.heap.size) (c0 : w.cell? ⟨b, 0, none⟩ = some (.int .i64 x.airway)) (c1 : w.cell? ⟨b, 1, none⟩ = some (.int .i64 x.least)) (c2 : w.cell? ⟨b, 2, none⟩ = some (.int .i64 x.most)) :
    Calls Tryd.prog 13 #[.pointer (some ⟨b, 0, none⟩)] w fun e w' => e = .returned (.string (wantT x)) ∧ Ext w w' := by
  have hok := wantB_bd hv
  have htz := textT_size [x.airway, x.least, x.most] (by simp) hok
  have hl : 0 < ([x.airway, x.least, x.most] : List Int).length := by simp
  have ha0 : ∀ W, Ext w W → W.cell? ⟨b, 0, none⟩ = some (.int .i64 x.airway) := fun W hW => (hW.cell (p := ⟨b, _, none⟩) hbw).trans c0
  have ha1 : ∀ W, Ext w W → W.cell? ⟨b, 1, none⟩ = some (.int .i64 x.least) := fun W hW => (hW.cell (p := ⟨b, _, none⟩) hbw).trans c1
  have ha2 : ∀ W, Ext w W → W.cell? ⟨b, 2, none⟩ = some (.int .i64 x.most) := fun W hW => (hW.cell (p := ⟨b, _, none⟩) hbw).trans c2
  clear c0 c1 c2
  have HOK := hid hok
  clear hok
  go_enter Tryd.func13, Tryd.ntmps13
  go_wp2_with fail
  go_region_held3 (fun W => Ext w W) (first | assumption | exact Ext.drewN _ 1 | exact Ext.tr (by assumption) (Ext.new _ _) | exact Ext.tr (by assumption) hE2) (first | (go_at_call 22; refine (l01List [x.airway, x.least, x.most] _ _ _ _ ((slNew _ 2 [x.airway, x.least, x.most] #[.int .i64 x.airway, .int .i64 x.least, .int .i64 x.most] 3 rfl rfl (by simp)).ext (Ext.drewN _ 1)) hl (by simp) HOK.out).mono ?_; rintro e w2 ⟨rfl, hE2⟩) | (go_at_call 22; refine (l01List [x.airway, x.least, x.most] _ _ _ _ (slNew _ 2 [x.airway, x.least, x.most] #[.int .i64 x.airway, .int .i64 x.least, .int .i64 x.most] 3 rfl rfl (by simp)) hl (by simp) HOK.out).mono ?_; rintro e w2 ⟨rfl, hE2⟩))
  all_goals
    have hEn : Ext w w2 := by assumption
    go_wp2
    go_ret
    exact ⟨rfl, hEn⟩
set_option maxRecDepth 100000 in
theorem specWantText (x : Want) (w : World) :
    Calls Tryd.prog 5 #[.agg #[.int .i64 x.airway, .int .i64 x.least, .int .i64 x.most]] w fun e w' => e = .returned (.string (wantR x)) ∧ Ext w w' := by
  cases hv : wantB x
  · have HR := hid (show wantR x = ⟨#[]⟩ by unfold wantR; rw [hv]; rfl)
    go_enter Tryd.func5, Tryd.ntmps5
    go_wp2_with fail
    generalize hA : World.alloc _ _ = B
    have hEB : Ext w B := by rw [← hA]; exact Ext.new _ _
    have hBk : Blk B w.heap.size 25 #[.int .i64 x.airway, .int .i64 x.least, .int .i64 x.most] := by rw [← hA]; exact Blk.new _ _ _
    clear hA
    refine (cv (wantS _ x _ (hBk.cell 0) (hBk.cell 1) (hBk.cell 2)) (vb hv)).mono ?_
    rintro e w1 ⟨rfl, hE1⟩
    go_wp2
    go_ret
    exact ⟨ret_str (by rw [HR.out]), Ext.tr hEB hE1⟩
  · have HR := hid (show wantR x = wantT x by unfold wantR; rw [hv]; rfl)
    go_enter Tryd.func5, Tryd.ntmps5
    go_wp2_with fail
    generalize hA : World.alloc _ _ = B
    have hEB : Ext w B := by rw [← hA]; exact Ext.new _ _
    have hBk : Blk B w.heap.size 25 #[.int .i64 x.airway, .int .i64 x.least, .int .i64 x.most] := by rw [← hA]; exact Blk.new _ _ _
    clear hA
    refine (cv (wantS _ x _ (hBk.cell 0) (hBk.cell 1) (hBk.cell 2)) (vb hv)).mono ?_
    rintro e w1 ⟨rfl, hE1⟩
    replace hBk := hBk.ext hE1
    go_wp2_with fail
    refine (wantTS _ x _ hv hBk.lt (hBk.cell 0) (hBk.cell 1) (hBk.cell 2)).mono ?_
    rintro e w2 ⟨rfl, hE2⟩
    go_wp2
    go_ret
    exact ⟨ret_str (by rw [HR.out]), Ext.tr (Ext.tr hEB hE1) hE2⟩
set_option maxRecDepth 100000 in
set_option maxHeartbeats 1000000 in
theorem implWantText (x : Want) (w : World) (ht : tabP w) :
    Calls Tryd.prog 7 #[.agg #[.int .i64 x.airway, .int .i64 x.least, .int .i64 x.most]] w fun e w' => e = .returned (.string (wantR x)) ∧ Ext w w' := by
  have HT := hid ht
  clear ht
  have hg : Tryd.prog.globalNamed "internal/strconv.uint64pow10" = some 0 := by kernel_rfl
  have HG := hid hg
  clear hg
  cases hv : wantB x
  · have HR := hid (show wantR x = ⟨#[]⟩ by unfold wantR; rw [hv]; rfl)
    go_enter Tryd.func7, Tryd.ntmps7
    go_wp2_with fail
    generalize hA : World.alloc _ _ = B
    have hEB : Ext w B := by rw [← hA]; exact Ext.new _ _
    have hBk : Blk B w.heap.size 25 #[.int .i64 x.airway, .int .i64 x.least, .int .i64 x.most] := by rw [← hA]; exact Blk.new _ _ _
    clear hA
    refine (cv (wantI x _) (vb hv)).mono ?_
    rintro e w1 ⟨rfl, hE1⟩
    go_wp2
    go_ret
    exact ⟨ret_str (by rw [HR.out]), Ext.tr hEB hE1⟩
  · have HR := hid (show wantR x = wantT x by unfold wantR; rw [hv]; rfl)
    have hok := wantB_bd hv
    have HOK := hid hok
    have htz := textT_size [x.airway, x.least, x.most] (by simp) hok
    have hl : 0 < ([x.airway, x.least, x.most] : List Int).length := by simp
    clear hok
    go_enter Tryd.func7, Tryd.ntmps7
    go_wp2_with fail
    generalize hA : World.alloc _ _ = B
    have hEB : Ext w B := by rw [← hA]; exact Ext.new _ _
    have hBk : Blk B w.heap.size 25 #[.int .i64 x.airway, .int .i64 x.least, .int .i64 x.most] := by rw [← hA]; exact Blk.new _ _ _
    clear hA
    refine (cv (wantI x _) (vb hv)).mono ?_
    rintro e w1 ⟨rfl, hE1⟩
    have hBk1 := hBk.ext hE1
    have q0 := hBk1.cell 0
    have q1 := hBk1.cell 1
    have q2 := hBk1.cell 2
    simp at q0 q1 q2
    clear hBk hBk1
    go_wp2_with fail
    refine (listText [x.airway, x.least, x.most] _ _ _ _ (slNew w1 2 [x.airway, x.least, x.most] #[.int .i64 x.airway, .int .i64 x.least, .int .i64 x.most] 3 rfl rfl (by simp)) hl (by simp) HOK.out (tab_ext HG.out HT.out (Ext.tr (Ext.tr hEB hE1) (Ext.new _ _)))).mono ?_
    rintro e w2 ⟨rfl, hE2⟩
    go_wp2
    go_ret
    exact ⟨ret_str (by rw [HR.out]; rfl), Ext.tr (Ext.tr (Ext.tr hEB hE1) (Ext.new _ _)) hE2⟩
end Go.Proofs.YtojmfjdbggpllaaDoor
