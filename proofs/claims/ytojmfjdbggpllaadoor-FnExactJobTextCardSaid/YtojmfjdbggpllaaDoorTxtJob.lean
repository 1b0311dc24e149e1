/- Texts of one Job, in both packages. -/
import Derived.Test.YtojmfjdbggpllaaDoorXJob
import Derived.Test.YtojmfjdbggpllaaDoorDec
import Derived.Test.YtojmfjdbggpllaaDoorOk
namespace Go.Proofs.YtojmfjdbggpllaaDoor
set_option linter.unusedVariables false
open Go.RowKit
theorem slNew (W : World) (t : TypeId) (ns : List Int) (cs : Array Value) (n : Nat) (hc : cs.toList = flat encI ns) (hn : n = ns.length) (hm : n ≤ 64) : Sl W.heap.size (W.heap.size + 1) (W.alloc (.cells cs t)) 1 (.slice (some ⟨W.heap.size, 0, none⟩) n n) ns.length (flat encI ns) := by
  subst hn
  refine ⟨by simp, flat_length encI_len ns, _, ns.length, rfl, Nat.le_refl _, by unfold maxLen; omega, fun _ => ⟨_, 0, rfl, Nat.le_refl _, Nat.lt_succ_self _, fun j u hu => ?_⟩⟩
  rw [Nat.zero_add, cell_of_row _ W.heap.size j cs t (0, 0) (heap_alloc_new W _), ← hu, ← hc]; simp
def jobB (x : Job) : Bool := nameB x.id && inB x.airway 0 23 && inB x.people 1 40 && inB x.power 0 500
set_option maxHeartbeats 1000000 in
theorem jobS (b : Nat) (x : Job) (w : World) (hs : x.id.size ≤ maxLen) (c0 : w.cell? ⟨b, 0, none⟩ = some (.string x.id)) (c1 : w.cell? ⟨b, 1, none⟩ = some (.int .i64 x.airway)) (c2 : w.cell? ⟨b, 2, none⟩ = some (.int .i64 x.people)) (c3 : w.cell? ⟨b, 3, none⟩ = some (.int .i64 x.power)) :
    Calls Tryd.prog 16 #[.pointer (some ⟨b, 0, none⟩)] w fun e w' => e = .returned (.bool (jobB x)) ∧ Ext w w' := by
  go_enter Tryd.func16, Tryd.ntmps16
  go_wp2_with (first | (go_at_call 27; refine (l01Name _ _ hs).mono ?_; rintro e w' ⟨rfl, rfl⟩) | (go_at_call 20; refine (l00In _ _ _ _).mono ?_; rintro e w' ⟨rfl, rfl⟩))
  all_goals (go_ret; refine ⟨ret_bool ?_, Below.refl _ _⟩; go_tidy; grind [jobB])
theorem jobI (x : Job) (w : World) (hs : x.id.size ≤ maxLen) :
    Calls Tryd.prog 18 #[.agg #[.string x.id, .int .i64 x.airway, .int .i64 x.people, .int .i64 x.power]] w fun e w' => e = .returned (.bool (jobB x)) ∧ Ext w w' := by
  go_enter Tryd.func18, Tryd.ntmps18
  go_wp2_with (first | (go_at_call 28; refine (isName _ _ hs).mono ?_; rintro e w' ⟨rfl, rfl⟩) | (go_at_call 23; refine (within _ _ _ _).mono ?_; rintro e w' ⟨rfl, rfl⟩))
  all_goals (go_ret; refine ⟨ret_bool ?_, by go_tidy; go_grown⟩; go_tidy; grind [jobB])
theorem jobB_bd {x : Job} (h : jobB x = true) : (∀ n ∈ ([x.airway, x.people, x.power] : List Int), decOk n) ∧ x.id.size ≤ 10 := by
  unfold jobB inB at h; simp only [Bool.and_eq_true, decide_eq_true_eq] at h
  have hn : x.id.size ≤ 10 := by
    have : nameB x.id = true := by simp [h]
    unfold nameB at this; simp only [Bool.and_eq_true, decide_eq_true_eq] at this; exact this.1.1.2
  refine ⟨fun n hn => ?_, hn⟩
  simp only [List.mem_cons, List.not_mem_nil, or_false] at hn
  unfold decOk
  rcases hn with rfl | rfl | rfl <;> omega
def jobT (x : Job) : ByteArray := idText x.id [x.airway, x.people, x.power]
def jobR (x : Job) : ByteArray := if jobB x then jobT x else ⟨#[]⟩
theorem textT_size (ns : List Int) (hn : ns.length ≤ 64) (hb : ∀ n ∈ ns, decOk n) : (textT ns).size ≤ 1100 := by
  have h1 := join_le ns hb
  have h2 : (textT ns).size = (Lib.join (digs ns) [44]).length := rfl
  omega
set_option maxRecDepth 100000 in
set_option maxHeartbeats 1000000 in
theorem jobTS (b : Nat) (x : Job) (w : World) (hs : x.id.size ≤ maxLen) (hv : jobB x = true) (hbw : b < w.heap.size) (c0 : w.cell? ⟨b, 0, none⟩ = some (.string x.id)) (c1 : w.cell? ⟨b, 1, none⟩ = some (.int .i64 x.airway)) (c2 : w.cell? ⟨b, 2, none⟩ = some (.int .i64 x.people)) (c3 : w.cell? ⟨b, 3, none⟩ = some (.int .i64 x.power)) :
    Calls Tryd.prog 17 #[.pointer (some ⟨b, 0, none⟩)] w fun e w' => e = .returned (.string (jobT x)) ∧ Ext w w' := by
  obtain ⟨hok, hsz⟩ := jobB_bd hv
  have htz := textT_size [x.airway, x.people, x.power] (by simp) hok
  have hl : 0 < ([x.airway, x.people, x.power] : List Int).length := by simp
  have ha0 : ∀ W, Ext w W → W.cell? ⟨b, 0, none⟩ = some (.string x.id) := fun W hW => (hW.cell (p := ⟨b, _, none⟩) hbw).trans c0
  have ha1 : ∀ W, Ext w W → W.cell? ⟨b, 1, none⟩ = some (.int .i64 x.airway) := fun W hW => (hW.cell (p := ⟨b, _, none⟩) hbw).trans c1
  have ha2 : ∀ W, Ext w W → W.cell? ⟨b, 2, none⟩ = some (.int .i64 x.people) := fun W hW => (hW.cell (p := ⟨b, _, none⟩) hbw).trans c2
  have ha3 : ∀ W, Ext w W → W.cell? ⟨b, 3, none⟩ = some (.int .i64 x.power) := fun W hW => (hW.cell (p := ⟨b, _, none⟩) hbw).trans c3
  clear c0 c1 c2 c3
  have HOK := hid hok
  clear hok
  have hadd0 : ∀ W, (Op.stringOp .add (x.id) (⟨#[32]⟩)).run Tryd.prog W = .ok (.string ((x.id) ++ (⟨#[32]⟩))) W := fun W => run_string_add_sum W _ _ (by have h1 : (⟨#[32]⟩ : ByteArray).size = 1 := rfl; (try simp only [ByteArray.size_append]); omega)
  have hadd1 : ∀ W, (Op.stringOp .add (x.id ++ ⟨#[32]⟩) (textT [x.airway, x.people, x.power])).run Tryd.prog W = .ok (.string ((x.id ++ ⟨#[32]⟩) ++ (textT [x.airway, x.people, x.power]))) W := fun W => run_string_add_sum W _ _ (by have h1 : (⟨#[32]⟩ : ByteArray).size = 1 := rfl; (try simp only [ByteArray.size_append]); omega)
  go_enter Tryd.func17, Tryd.ntmps17
  go_wp2_with fail
  go_region_held3 (fun W => Ext w W) (first | assumption | exact Ext.drewN _ 1 | exact Ext.tr (by assumption) (Ext.new _ _) | exact Ext.tr (by assumption) hE2) (first | (go_at_call 22; refine (l01List [x.airway, x.people, x.power] _ _ _ _ ((slNew _ 2 [x.airway, x.people, x.power] #[.int .i64 x.airway, .int .i64 x.people, .int .i64 x.power] 3 rfl rfl (by simp)).ext (Ext.drewN _ 1)) hl (by simp) HOK.out).mono ?_; rintro e w2 ⟨rfl, hE2⟩) | (go_at_call 22; refine (l01List [x.airway, x.people, x.power] _ _ _ _ (slNew _ 2 [x.airway, x.people, x.power] #[.int .i64 x.airway, .int .i64 x.people, .int .i64 x.power] 3 rfl rfl (by simp)) hl (by simp) HOK.out).mono ?_; rintro e w2 ⟨rfl, hE2⟩))
  all_goals
    have hEn : Ext w w2 := by assumption
    go_wp2
    go_ret
    exact ⟨rfl, hEn⟩
set_option maxRecDepth 100000 in
theorem specJobText (x : Job) (w : World) (hs : x.id.size ≤ maxLen) :
    Calls Tryd.prog 9 #[.agg #[.string x.id, .int .i64 x.airway, .int .i64 x.people, .int .i64 x.power]] w fun e w' => e = .returned (.string (jobR x)) ∧ Ext w w' := by
  cases hv : jobB x
  · have HR := hid (show jobR x = ⟨#[]⟩ by unfold jobR; rw [hv]; rfl)
    go_enter Tryd.func9, Tryd.ntmps9
    go_wp2_with fail
    generalize hA : World.alloc _ _ = B
    have hEB : Ext w B := by rw [← hA]; exact Ext.new _ _
    have hBk : Blk B w.heap.size 32 #[.string x.id, .int .i64 x.airway, .int .i64 x.people, .int .i64 x.power] := by rw [← hA]; exact Blk.new _ _ _
    clear hA
    refine (cv (jobS _ x _ hs (hBk.cell 0) (hBk.cell 1) (hBk.cell 2) (hBk.cell 3)) (vb hv)).mono ?_
    rintro e w1 ⟨rfl, hE1⟩
    go_wp2
    go_ret
    exact ⟨ret_str (by rw [HR.out]), Ext.tr hEB hE1⟩
  · have HR := hid (show jobR x = jobT x by unfold jobR; rw [hv]; rfl)
    go_enter Tryd.func9, Tryd.ntmps9
    go_wp2_with fail
    generalize hA : World.alloc _ _ = B
    have hEB : Ext w B := by rw [← hA]; exact Ext.new _ _
    have hBk : Blk B w.heap.size 32 #[.string x.id, .int .i64 x.airway, .int .i64 x.people, .int .i64 x.power] := by rw [← hA]; exact Blk.new _ _ _
    clear hA
    refine (cv (jobS _ x _ hs (hBk.cell 0) (hBk.cell 1) (hBk.cell 2) (hBk.cell 3)) (vb hv)).mono ?_
    rintro e w1 ⟨rfl, hE1⟩
    replace hBk := hBk.ext hE1
    go_wp2_with fail
    refine (jobTS _ x _ hs hv hBk.lt (hBk.cell 0) (hBk.cell 1) (hBk.cell 2) (hBk.cell 3)).mono ?_
    rintro e w2 ⟨rfl, hE2⟩
    go_wp2
    go_ret
    exact ⟨ret_str (by rw [HR.out]), Ext.tr (Ext.tr hEB hE1) hE2⟩
set_option maxRecDepth 100000 in
set_option maxHeartbeats 1000000 in
theorem implJobText (x : Job) (w : World) (hs : x.id.size ≤ maxLen) (ht : tabP w) :
    Calls Tryd.prog 11 #[.agg #[.string x.id, .int .i64 x.airway, .int .i64 x.people, .int .i64 x.power]] w fun e w' => e = .returned (.string (jobR x)) ∧ Ext w w' := by
  have HT := hid ht
  clear ht
  have hg : Tryd.prog.globalNamed "internal/strconv.uint64pow10" = some 0 := by kernel_rfl
  have HG := hid hg
  clear hg
  cases hv : jobB x
  · have HR := hid (show jobR x = ⟨#[]⟩ by unfold jobR; rw [hv]; rfl)
    go_enter Tryd.func11, Tryd.ntmps11
    go_wp2_with fail
    generalize hA : World.alloc _ _ = B
    have hEB : Ext w B := by rw [← hA]; exact Ext.new _ _
    have hBk : Blk B w.heap.size 32 #[.string x.id, .int .i64 x.airway, .int .i64 x.people, .int .i64 x.power] := by rw [← hA]; exact Blk.new _ _ _
    clear hA
    refine (cv (jobI x _ hs) (vb hv)).mono ?_
    rintro e w1 ⟨rfl, hE1⟩
    go_wp2
    go_ret
    exact ⟨ret_str (by rw [HR.out]), Ext.tr hEB hE1⟩
  · have HR := hid (show jobR x = jobT x by unfold jobR; rw [hv]; rfl)
    obtain ⟨hok, hsz⟩ := jobB_bd hv
    have HOK := hid hok
    have htz := textT_size [x.airway, x.people, x.power] (by simp) hok
    have hl : 0 < ([x.airway, x.people, x.power] : List Int).length := by simp
    clear hok
    go_enter Tryd.func11, Tryd.ntmps11
    go_wp2_with fail
    generalize hA : World.alloc _ _ = B
    have hEB : Ext w B := by rw [← hA]; exact Ext.new _ _
    have hBk : Blk B w.heap.size 32 #[.string x.id, .int .i64 x.airway, .int .i64 x.people, .int .i64 x.power] := by rw [← hA]; exact Blk.new _ _ _
    clear hA
    refine (cv (jobI x _ hs) (vb hv)).mono ?_
    rintro e w1 ⟨rfl, hE1⟩
    have hBk1 := hBk.ext hE1
    have q0 := hBk1.cell 0
    have q1 := hBk1.cell 1
    have q2 := hBk1.cell 2
    have q3 := hBk1.cell 3
    simp at q0 q1 q2 q3
    clear hBk hBk1
    go_wp2_with fail
    refine (withId x.id [x.airway, x.people, x.power] _ _ _ _ (by omega) (slNew w1 2 [x.airway, x.people, x.power] #[.int .i64 x.airway, .int .i64 x.people, .int .i64 x.power] 3 rfl rfl (by simp)) hl (by simp) HOK.out (tab_ext HG.out HT.out (Ext.tr (Ext.tr hEB hE1) (Ext.new _ _)))).mono ?_
    rintro e w2 ⟨rfl, hE2⟩
    go_wp2
    go_ret
    exact ⟨ret_str (by rw [HR.out]; rfl), Ext.tr (Ext.tr (Ext.tr hEB hE1) (Ext.new _ _)) hE2⟩
end Go.Proofs.YtojmfjdbggpllaaDoor
