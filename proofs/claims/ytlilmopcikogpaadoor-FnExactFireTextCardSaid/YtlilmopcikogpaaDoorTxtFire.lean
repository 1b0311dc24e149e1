/- Texts of one Fire, in both packages. -/
import Derived.Test.YtlilmopcikogpaaDoorXFire
import Derived.Test.YtlilmopcikogpaaDoorDec
import Derived.Test.YtlilmopcikogpaaDoorOk
namespace Go.Proofs.YtlilmopcikogpaaDoor
set_option linter.unusedVariables false
open Go.RowKit
theorem slNew (W : World) (t : TypeId) (ns : List Int) (cs : Array Value) (n : Nat) (hc : cs.toList = flat encI ns) (hn : n = ns.length) (hm : n ≤ 64) : Sl W.heap.size (W.heap.size + 1) (W.alloc (.cells cs t)) 1 (.slice (some ⟨W.heap.size, 0, none⟩) n n) ns.length (flat encI ns) := by
  subst hn
  refine ⟨by simp, flat_length encI_len ns, _, ns.length, rfl, Nat.le_refl _, by unfold maxLen; omega, fun _ => ⟨_, 0, rfl, Nat.le_refl _, Nat.lt_succ_self _, fun j u hu => ?_⟩⟩
  rw [Nat.zero_add, cell_of_row _ W.heap.size j cs t (0, 0) (heap_alloc_new W _), ← hu, ← hc]; simp
def fireB (x : Fire) : Bool := inB x.airway 0 23 && inB x.atp 0 10000 && inB x.start 0 36000
set_option maxHeartbeats 1000000 in
theorem fireS (b : Nat) (x : Fire) (w : World) (c0 : w.cell? ⟨b, 0, none⟩ = some (.int .i64 x.airway)) (c1 : w.cell? ⟨b, 1, none⟩ = some (.int .i64 x.atp)) (c2 : w.cell? ⟨b, 2, none⟩ = some (.int .i64 x.start)) :
    Calls Tryd.prog 7 #[.pointer (some ⟨b, 0, none⟩)] w fun e w' => e = .returned (.bool (fireB x)) ∧ Ext w w' := by
  go_enter Tryd.func7, Tryd.ntmps7
  go_wp2_with (first | (go_at_call 11; refine (l00In _ _ _ _).mono ?_; rintro e w' ⟨rfl, rfl⟩))
  all_goals (go_ret; refine ⟨ret_bool ?_, Below.refl _ _⟩; go_tidy; grind [fireB])
theorem fireI (x : Fire) (w : World) :
    Calls Tryd.prog 9 #[.agg #[.int .i64 x.airway, .int .i64 x.atp, .int .i64 x.start]] w fun e w' => e = .returned (.bool (fireB x)) ∧ Ext w w' := by
  go_enter Tryd.func9, Tryd.ntmps9
  go_wp2_with (first | (go_at_call 13; refine (within _ _ _ _).mono ?_; rintro e w' ⟨rfl, rfl⟩))
  all_goals (go_ret; refine ⟨ret_bool ?_, by go_tidy; go_grown⟩; go_tidy; grind [fireB])
theorem fireB_bd {x : Fire} (h : fireB x = true) : (∀ n ∈ ([x.airway, x.atp, x.start] : List Int), decOk n) := by
  unfold fireB inB at h; simp only [Bool.and_eq_true, decide_eq_true_eq] at h
  refine fun n hn => ?_
  simp only [List.mem_cons, List.not_mem_nil, or_false] at hn
  unfold decOk
  rcases hn with rfl | rfl | rfl <;> omega
def fireT (x : Fire) : ByteArray := textT [x.airway, x.atp, x.start]
def fireR (x : Fire) : ByteArray := if fireB x then fireT x else ⟨#[]⟩
theorem textT_size (ns : List Int) (hn : ns.length ≤ 64) (hb : ∀ n ∈ ns, decOk n) : (textT ns).size ≤ 1100 := by
  have h1 := join_le ns hb
  have h2 : (textT ns).size = (Lib.join (digs ns) [44]).length := rfl
  omega
set_option maxRecDepth 100000 in
set_option maxHeartbeats 1000000 in
theorem fireTS (b : Nat) (x : Fire) (w : World) (hv : fireB x = true) (hbw : b < w.heap.size) (c0 : w.cell? ⟨b, 0, none⟩ = some (.int .i64 x.airway)) (c1 : w.cell? ⟨b, 1, none⟩ = some (.int .i64 x.atp)) (c2 : w.cell? ⟨b, 2, none⟩ = some (.int .i64 x.start)) :
    Calls Tryd.prog 8 #[.pointer (some ⟨b, 0, none⟩)] w fun e w' => e = .returned (.string (fireT x)) ∧ Ext w w' := by
  have hok := fireB_bd hv
  have htz := textT_size [x.airway, x.atp, x.start] (by simp) hok
  have hl : 0 < ([x.airway, x.atp, x.start] : List Int).length := by simp
  have ha0 : ∀ W, Ext w W → W.cell? ⟨b, 0, none⟩ = some (.int .i64 x.airway) := fun W hW => (hW.cell (p := ⟨b, _, none⟩) hbw).trans c0
  have ha1 : ∀ W, Ext w W → W.cell? ⟨b, 1, none⟩ = some (.int .i64 x.atp) := fun W hW => (hW.cell (p := ⟨b, _, none⟩) hbw).trans c1
  have ha2 : ∀ W, Ext w W → W.cell? ⟨b, 2, none⟩ = some (.int .i64 x.start) := fun W hW => (hW.cell (p := ⟨b, _, none⟩) hbw).trans c2
  clear c0 c1 c2
  have HOK := hid hok
  clear hok
  go_enter Tryd.func8, Tryd.ntmps8
  go_wp2_with fail
  go_region_held3 (fun W => Ext w W) (first | assumption | exact Ext.drewN _ 1 | exact Ext.tr (by assumption) (Ext.new _ _) | exact Ext.tr (by assumption) hE2) (first | (go_at_call 12; refine (l01List [x.airway, x.atp, x.start] _ _ _ _ ((slNew _ 2 [x.airway, x.atp, x.start] #[.int .i64 x.airway, .int .i64 x.atp, .int .i64 x.start] 3 rfl rfl (by simp)).ext (Ext.drewN _ 1)) hl (by simp) HOK.out).mono ?_; rintro e w2 ⟨rfl, hE2⟩) | (go_at_call 12; refine (l01List [x.airway, x.atp, x.start] _ _ _ _ (slNew _ 2 [x.airway, x.atp, x.start] #[.int .i64 x.airway, .int .i64 x.atp, .int .i64 x.start] 3 rfl rfl (by simp)) hl (by simp) HOK.out).mono ?_; rintro e w2 ⟨rfl, hE2⟩))
  all_goals
    have hEn : Ext w w2 := by assumption
    go_wp2
    go_ret
    exact ⟨rfl, hEn⟩
set_option maxRecDepth 100000 in
theorem specFireText (x : Fire) (w : World) :
    Calls Tryd.prog 4 #[.agg #[.int .i64 x.airway, .int .i64 x.atp, .int .i64 x.start]] w fun e w' => e = .returned (.string (fireR x)) ∧ Ext w w' := by
  cases hv : fireB x
  · have HR := hid (show fireR x = ⟨#[]⟩ by unfold fireR; rw [hv]; rfl)
    go_enter Tryd.func4, Tryd.ntmps4
    go_wp2_with fail
    generalize hA : World.alloc _ _ = B
    have hEB : Ext w B := by rw [← hA]; exact Ext.new _ _
    have hBk : Blk B w.heap.size 25 #[.int .i64 x.airway, .int .i64 x.atp, .int .i64 x.start] := by rw [← hA]; exact Blk.new _ _ _
    clear hA
    refine (cv (fireS _ x _ (hBk.cell 0) (hBk.cell 1) (hBk.cell 2)) (vb hv)).mono ?_
    rintro e w1 ⟨rfl, hE1⟩
    go_wp2
    go_ret
    exact ⟨ret_str (by rw [HR.out]), Ext.tr hEB hE1⟩
  · have HR := hid (show fireR x = fireT x by unfold fireR; rw [hv]; rfl)
    go_enter Tryd.func4, Tryd.ntmps4
    go_wp2_with fail
    generalize hA : World.alloc _ _ = B
    have hEB : Ext w B := by rw [← hA]; exact Ext.new _ _
    have hBk : Blk B w.heap.size 25 #[.int .i64 x.airway, .int .i64 x.atp, .int .i64 x.start] := by rw [← hA]; exact Blk.new _ _ _
    clear hA
    refine (cv (fireS _ x _ (hBk.cell 0) (hBk.cell 1) (hBk.cell 2)) (vb hv)).mono ?_
    rintro e w1 ⟨rfl, hE1⟩
    replace hBk := hBk.ext hE1
    go_wp2_with fail
    refine (fireTS _ x _ hv hBk.lt (hBk.cell 0) (hBk.cell 1) (hBk.cell 2)).mono ?_
    rintro e w2 ⟨rfl, hE2⟩
    go_wp2
    go_ret
    exact ⟨ret_str (by rw [HR.out]), Ext.tr (Ext.tr hEB hE1) hE2⟩
set_option maxRecDepth 100000 in
set_option maxHeartbeats 1000000 in
theorem implFireText (x : Fire) (w : World) (ht : tabP w) :
    Calls Tryd.prog 6 #[.agg #[.int .i64 x.airway, .int .i64 x.atp, .int .i64 x.start]] w fun e w' => e = .returned (.string (fireR x)) ∧ Ext w w' := by
  have HT := hid ht
  clear ht
  have hg : Tryd.prog.globalNamed "internal/strconv.uint64pow10" = some 0 := by kernel_rfl
  have HG := hid hg
  clear hg
  cases hv : fireB x
  · have HR := hid (show fireR x = ⟨#[]⟩ by unfold fireR; rw [hv]; rfl)
    go_enter Tryd.func6, Tryd.ntmps6
    go_wp2_with fail
    generalize hA : World.alloc _ _ = B
    have hEB : Ext w B := by rw [← hA]; exact Ext.new _ _
    have hBk : Blk B w.heap.size 25 #[.int .i64 x.airway, .int .i64 x.atp, .int .i64 x.start] := by rw [← hA]; exact Blk.new _ _ _
    clear hA
    refine (cv (fireI x _) (vb hv)).mono ?_
    rintro e w1 ⟨rfl, hE1⟩
    go_wp2
    go_ret
    exact ⟨ret_str (by rw [HR.out]), Ext.tr hEB hE1⟩
  · have HR := hid (show fireR x = fireT x by unfold fireR; rw [hv]; rfl)
    have hok := fireB_bd hv
    have HOK := hid hok
    have htz := textT_size [x.airway, x.atp, x.start] (by simp) hok
    have hl : 0 < ([x.airway, x.atp, x.start] : List Int).length := by simp
    clear hok
    go_enter Tryd.func6, Tryd.ntmps6
    go_wp2_with fail
    generalize hA : World.alloc _ _ = B
    have hEB : Ext w B := by rw [← hA]; exact Ext.new _ _
    have hBk : Blk B w.heap.size 25 #[.int .i64 x.airway, .int .i64 x.atp, .int .i64 x.start] := by rw [← hA]; exact Blk.new _ _ _
    clear hA
    refine (cv (fireI x _) (vb hv)).mono ?_
    rintro e w1 ⟨rfl, hE1⟩
    have hBk1 := hBk.ext hE1
    have q0 := hBk1.cell 0
    have q1 := hBk1.cell 1
    have q2 := hBk1.cell 2
    simp at q0 q1 q2
    clear hBk hBk1
    go_wp2_with fail
    refine (listText [x.airway, x.atp, x.start] _ _ _ _ (slNew w1 2 [x.airway, x.atp, x.start] #[.int .i64 x.airway, .int .i64 x.atp, .int .i64 x.start] 3 rfl rfl (by simp)) hl (by simp) HOK.out (tab_ext HG.out HT.out (Ext.tr (Ext.tr hEB hE1) (Ext.new _ _)))).mono ?_
    rintro e w2 ⟨rfl, hE2⟩
    go_wp2
    go_ret
    exact ⟨ret_str (by rw [HR.out]; rfl), Ext.tr (Ext.tr (Ext.tr hEB hE1) (Ext.new _ _)) hE2⟩
end Go.Proofs.YtlilmopcikogpaaDoor
