/- Texts of one Sensor, in both packages. -/
import Derived.Test.YtopjccbjdcoanaaDoorXSensor
import Derived.Test.YtopjccbjdcoanaaDoorDec
import Derived.Test.YtopjccbjdcoanaaDoorOk
namespace Go.Proofs.YtopjccbjdcoanaaDoor
set_option linter.unusedVariables false
open Go.RowKit
theorem slNew (W : World) (t : TypeId) (ns : List Int) (cs : Array Value) (n : Nat) (hc : cs.toList = flat encI ns) (hn : n = ns.length) (hm : n ≤ 64) : Sl W.heap.size (W.heap.size + 1) (W.alloc (.cells cs t)) 1 (.slice (some ⟨W.heap.size, 0, none⟩) n n) ns.length (flat encI ns) := by
  subst hn
  refine ⟨by simp, flat_length encI_len ns, _, ns.length, rfl, Nat.le_refl _, by unfold maxLen; omega, fun _ => ⟨_, 0, rfl, Nat.le_refl _, Nat.lt_succ_self _, fun j u hu => ?_⟩⟩
  rw [Nat.zero_add, cell_of_row _ W.heap.size j cs t (0, 0) (heap_alloc_new W _), ← hu, ← hc]; simp
def sensorB (x : Sensor) : Bool := nameB x.id && inB x.junction 0 15 && inB x.limit 0 1000000 && inB x.release 0 x.limit && inB x.delay 1 60
theorem l24Reading (n : Int) (w : World) : Calls Tryd.prog 20 #[.int .i64 n] w fun e w' => e = .returned (.bool (inB n 0 1000000)) ∧ w = w' := by
  go_enter Tryd.func20, Tryd.ntmps20
  go_wp2_with (go_at_call 19; refine (l00In _ _ _ _).mono ?_; rintro e w' ⟨rfl, rfl⟩)
  go_ret
  exact ⟨rfl, rfl⟩
theorem junctionOk (n : Int) (w : World) : Calls Tryd.prog 23 #[.int .i64 n] w fun e w' => e = .returned (.bool (inB n 0 15)) ∧ w = w' := by
  go_enter Tryd.func23, Tryd.ntmps23
  go_wp2_with (go_at_call 24; refine (within _ _ _ _).mono ?_; rintro e w' ⟨rfl, rfl⟩)
  go_ret
  exact ⟨rfl, rfl⟩
set_option maxHeartbeats 1000000 in
theorem sensorS (b : Nat) (x : Sensor) (w : World) (hs : x.id.size ≤ maxLen) (c0 : w.cell? ⟨b, 0, none⟩ = some (.string x.id)) (c1 : w.cell? ⟨b, 1, none⟩ = some (.int .i64 x.junction)) (c2 : w.cell? ⟨b, 2, none⟩ = some (.int .i64 x.limit)) (c3 : w.cell? ⟨b, 3, none⟩ = some (.int .i64 x.delay)) (c4 : w.cell? ⟨b, 4, none⟩ = some (.int .i64 x.release)) :
    Calls Tryd.prog 12 #[.pointer (some ⟨b, 0, none⟩)] w fun e w' => e = .returned (.bool (sensorB x)) ∧ Ext w w' := by
  cases h0 : nameB x.id
  · have u_ := True.intro
    go_enter Tryd.func12, Tryd.ntmps12
    go_wp2_with fail
    go_quiet ((first | (go_at_call 18; exact Calls.quiet_of_same (qv (l01Name _ _ hs) (vb h0)))))
    go_wp2
    go_ret
    exact ⟨ret_bool (by simp [sensorB, *]), Ext.drewN _ _⟩
  cases h1 : inB x.junction 0 15
  · have u_ := True.intro
    go_enter Tryd.func12, Tryd.ntmps12
    go_wp2_with fail
    go_quiet ((first | (go_at_call 18; exact Calls.quiet_of_same (qv (l01Name _ _ hs) (vb h0))) | (go_at_call 19; exact Calls.quiet_of_same (qv (l00In _ _ _ _) (vb h1)))))
    go_wp2
    go_ret
    exact ⟨ret_bool (by simp [sensorB, *]), Ext.drewN _ _⟩
  cases h2 : inB x.limit 0 1000000
  · have u_ := True.intro
    go_enter Tryd.func12, Tryd.ntmps12
    go_wp2_with fail
    go_quiet ((first | (go_at_call 18; exact Calls.quiet_of_same (qv (l01Name _ _ hs) (vb h0))) | (go_at_call 19; exact Calls.quiet_of_same (qv (l00In _ _ _ _) (vb h1))) | (go_at_call 20; exact Calls.quiet_of_same (qv (l24Reading _ _) (vb h2)))))
    go_wp2
    go_ret
    exact ⟨ret_bool (by simp [sensorB, *]), Ext.drewN _ _⟩
  cases h3 : inB x.release 0 x.limit
  · have u_ := True.intro
    go_enter Tryd.func12, Tryd.ntmps12
    go_wp2_with fail
    go_quiet ((first | (go_at_call 18; exact Calls.quiet_of_same (qv (l01Name _ _ hs) (vb h0))) | (go_at_call 19; exact Calls.quiet_of_same (qv (l00In _ _ _ _) (vb h1))) | (go_at_call 20; exact Calls.quiet_of_same (qv (l24Reading _ _) (vb h2))) | (go_at_call 19; exact Calls.quiet_of_same (qv (l00In _ _ _ _) (vb h3)))))
    go_wp2
    go_ret
    exact ⟨ret_bool (by simp [sensorB, *]), Ext.drewN _ _⟩
  cases h4 : inB x.delay 1 60
  · have u_ := True.intro
    go_enter Tryd.func12, Tryd.ntmps12
    go_wp2_with fail
    go_quiet ((first | (go_at_call 18; exact Calls.quiet_of_same (qv (l01Name _ _ hs) (vb h0))) | (go_at_call 19; exact Calls.quiet_of_same (qv (l00In _ _ _ _) (vb h1))) | (go_at_call 20; exact Calls.quiet_of_same (qv (l24Reading _ _) (vb h2))) | (go_at_call 19; exact Calls.quiet_of_same (qv (l00In _ _ _ _) (vb h3))) | (go_at_call 19; exact Calls.quiet_of_same (qv (l00In _ _ _ _) (vb h4)))))
    go_wp2
    go_ret
    exact ⟨ret_bool (by simp [sensorB, *]), Ext.drewN _ _⟩
  go_enter Tryd.func12, Tryd.ntmps12
  go_wp2_with fail
  go_quiet ((first | (go_at_call 18; exact Calls.quiet_of_same (qv (l01Name _ _ hs) (vb h0))) | (go_at_call 19; exact Calls.quiet_of_same (qv (l00In _ _ _ _) (vb h1))) | (go_at_call 20; exact Calls.quiet_of_same (qv (l24Reading _ _) (vb h2))) | (go_at_call 19; exact Calls.quiet_of_same (qv (l00In _ _ _ _) (vb h3))) | (go_at_call 19; exact Calls.quiet_of_same (qv (l00In _ _ _ _) (vb h4)))))
  go_wp2
  go_ret
  exact ⟨ret_bool (by simp [sensorB, *]), Ext.drewN _ _⟩
theorem sensorI (x : Sensor) (w : World) (hs : x.id.size ≤ maxLen) :
    Calls Tryd.prog 14 #[.agg #[.string x.id, .int .i64 x.junction, .int .i64 x.limit, .int .i64 x.delay, .int .i64 x.release]] w fun e w' => e = .returned (.bool (sensorB x)) ∧ Ext w w' := by
  go_enter Tryd.func14, Tryd.ntmps14
  go_wp2_with (first | (go_at_call 22; refine (isName _ _ hs).mono ?_; rintro e w' ⟨rfl, rfl⟩) | (go_at_call 23; refine (junctionOk _ _).mono ?_; rintro e w' ⟨rfl, rfl⟩) | (go_at_call 24; refine (within _ _ _ _).mono ?_; rintro e w' ⟨rfl, rfl⟩))
  all_goals (go_ret; refine ⟨ret_bool ?_, by go_tidy; go_grown⟩; go_tidy; grind [sensorB])
theorem sensorB_bd {x : Sensor} (h : sensorB x = true) : (∀ n ∈ ([x.junction, x.limit, x.delay, x.release] : List Int), decOk n) ∧ x.id.size ≤ 10 := by
  unfold sensorB inB at h; simp only [Bool.and_eq_true, decide_eq_true_eq] at h
  have hn : x.id.size ≤ 10 := by
    have : nameB x.id = true := by simp [h]
    unfold nameB at this; simp only [Bool.and_eq_true, decide_eq_true_eq] at this; exact this.1.1.2
  refine ⟨fun n hn => ?_, hn⟩
  simp only [List.mem_cons, List.not_mem_nil, or_false] at hn
  unfold decOk
  rcases hn with rfl | rfl | rfl | rfl <;> omega
def sensorT (x : Sensor) : ByteArray := idText x.id [x.junction, x.limit, x.delay, x.release]
def sensorR (x : Sensor) : ByteArray := if sensorB x then sensorT x else ⟨#[]⟩
theorem textT_size (ns : List Int) (hn : ns.length ≤ 64) (hb : ∀ n ∈ ns, decOk n) : (textT ns).size ≤ 1100 := by
  have h1 := join_le ns hb
  have h2 : (textT ns).size = (Lib.join (digs ns) [44]).length := rfl
  omega
set_option maxRecDepth 100000 in
set_option maxHeartbeats 1000000 in
theorem sensorTS (b : Nat) (x : Sensor) (w : World) (hs : x.id.size ≤ maxLen) (hv : sensorB x = true) (hbw : b < w.heap.size) (c0 : w.cell? ⟨b, 0, none⟩ = some (.string x.id)) (c1 : w.cell? ⟨b, 1, none⟩ = some (.int .i64 x.junction)) (c2 : w.cell? ⟨b, 2, none⟩ = some (.int .i64 x.limit)) (c3 : w.cell? ⟨b, 3, none⟩ = some (.int .i64 x.delay)) (c4 : w.cell? ⟨b, 4, none⟩ = some (.int .i64 x.release)) :
    Calls Tryd.prog 13 #[.pointer (some ⟨b, 0, none⟩)] w fun e w' => e = .returned (.string (sensorT x)) ∧ Ext w w' := by
  obtain ⟨hok, hsz⟩ := sensorB_bd hv
  have htz := textT_size [x.junction, x.limit, x.delay, x.release] (by simp) hok
  have hl : 0 < ([x.junction, x.limit, x.delay, x.release] : List Int).length := by simp
  have ha0 : ∀ W, Ext w W → W.cell? ⟨b, 0, none⟩ = some (.string x.id) := fun W hW => (hW.cell (p := ⟨b, _, none⟩) hbw).trans c0
  have ha1 : ∀ W, Ext w W → W.cell? ⟨b, 1, none⟩ = some (.int .i64 x.junction) := fun W hW => (hW.cell (p := ⟨b, _, none⟩) hbw).trans c1
  have ha2 : ∀ W, Ext w W → W.cell? ⟨b, 2, none⟩ = some (.int .i64 x.limit) := fun W hW => (hW.cell (p := ⟨b, _, none⟩) hbw).trans c2
  have ha3 : ∀ W, Ext w W → W.cell? ⟨b, 3, none⟩ = some (.int .i64 x.delay) := fun W hW => (hW.cell (p := ⟨b, _, none⟩) hbw).trans c3
  have ha4 : ∀ W, Ext w W → W.cell? ⟨b, 4, none⟩ = some (.int .i64 x.release) := fun W hW => (hW.cell (p := ⟨b, _, none⟩) hbw).trans c4
  clear c0 c1 c2 c3 c4
  have HOK := hid hok
  clear hok
  have hadd0 : ∀ W, (Op.stringOp .add (x.id) (⟨#[32]⟩)).run Tryd.prog W = .ok (.string ((x.id) ++ (⟨#[32]⟩))) W := fun W => run_string_add_sum W _ _ (by have h1 : (⟨#[32]⟩ : ByteArray).size = 1 := rfl; (try simp only [ByteArray.size_append]); omega)
  have hadd1 : ∀ W, (Op.stringOp .add (x.id ++ ⟨#[32]⟩) (textT [x.junction, x.limit, x.delay, x.release])).run Tryd.prog W = .ok (.string ((x.id ++ ⟨#[32]⟩) ++ (textT [x.junction, x.limit, x.delay, x.release]))) W := fun W => run_string_add_sum W _ _ (by have h1 : (⟨#[32]⟩ : ByteArray).size = 1 := rfl; (try simp only [ByteArray.size_append]); omega)
  go_enter Tryd.func13, Tryd.ntmps13
  go_wp2_with fail
  go_region_held3 (fun W => Ext w W) (first | assumption | exact Ext.drewN _ 1 | exact Ext.tr (by assumption) (Ext.new _ _) | exact Ext.tr (by assumption) hE2) (first | (go_at_call 21; refine (l01List [x.junction, x.limit, x.delay, x.release] _ _ _ _ ((slNew _ 2 [x.junction, x.limit, x.delay, x.release] #[.int .i64 x.junction, .int .i64 x.limit, .int .i64 x.delay, .int .i64 x.release] 4 rfl rfl (by simp)).ext (Ext.drewN _ 1)) hl (by simp) HOK.out).mono ?_; rintro e w2 ⟨rfl, hE2⟩) | (go_at_call 21; refine (l01List [x.junction, x.limit, x.delay, x.release] _ _ _ _ (slNew _ 2 [x.junction, x.limit, x.delay, x.release] #[.int .i64 x.junction, .int .i64 x.limit, .int .i64 x.delay, .int .i64 x.release] 4 rfl rfl (by simp)) hl (by simp) HOK.out).mono ?_; rintro e w2 ⟨rfl, hE2⟩))
  all_goals
    have hEn : Ext w w2 := by assumption
    go_wp2
    go_ret
    exact ⟨rfl, hEn⟩
set_option maxRecDepth 100000 in
theorem specSensorText (x : Sensor) (w : World) (hs : x.id.size ≤ maxLen) :
    Calls Tryd.prog 6 #[.agg #[.string x.id, .int .i64 x.junction, .int .i64 x.limit, .int .i64 x.delay, .int .i64 x.release]] w fun e w' => e = .returned (.string (sensorR x)) ∧ Ext w w' := by
  cases hv : sensorB x
  · have HR := hid (show sensorR x = ⟨#[]⟩ by unfold sensorR; rw [hv]; rfl)
    go_enter Tryd.func6, Tryd.ntmps6
    go_wp2_with fail
    generalize hA : World.alloc _ _ = B
    have hEB : Ext w B := by rw [← hA]; exact Ext.new _ _
    have hBk : Blk B w.heap.size 26 #[.string x.id, .int .i64 x.junction, .int .i64 x.limit, .int .i64 x.delay, .int .i64 x.release] := by rw [← hA]; exact Blk.new _ _ _
    clear hA
    refine (cv (sensorS _ x _ hs (hBk.cell 0) (hBk.cell 1) (hBk.cell 2) (hBk.cell 3) (hBk.cell 4)) (vb hv)).mono ?_
    rintro e w1 ⟨rfl, hE1⟩
    go_wp2
    go_ret
    exact ⟨ret_str (by rw [HR.out]), Ext.tr hEB hE1⟩
  · have HR := hid (show sensorR x = sensorT x by unfold sensorR; rw [hv]; rfl)
    go_enter Tryd.func6, Tryd.ntmps6
    go_wp2_with fail
    generalize hA : World.alloc _ _ = B
    have hEB : Ext w B := by rw [← hA]; exact Ext.new _ _
    have hBk : Blk B w.heap.size 26 #[.string x.id, .int .i64 x.junction, .int .i64 x.limit, .int .i64 x.delay, .int .i64 x.release] := by rw [← hA]; exact Blk.new _ _ _
    clear hA
    refine (cv (sensorS _ x _ hs (hBk.cell 0) (hBk.cell 1) (hBk.cell 2) (hBk.cell 3) (hBk.cell 4)) (vb hv)).mono ?_
    rintro e w1 ⟨rfl, hE1⟩
    replace hBk := hBk.ext hE1
    go_wp2_with fail
    refine (sensorTS _ x _ hs hv hBk.lt (hBk.cell 0) (hBk.cell 1) (hBk.cell 2) (hBk.cell 3) (hBk.cell 4)).mono ?_
    rintro e w2 ⟨rfl, hE2⟩
    go_wp2
    go_ret
    exact ⟨ret_str (by rw [HR.out]), Ext.tr (Ext.tr hEB hE1) hE2⟩
set_option maxRecDepth 100000 in
set_option maxHeartbeats 1000000 in
theorem implSensorText (x : Sensor) (w : World) (hs : x.id.size ≤ maxLen) (ht : tabP w) :
    Calls Tryd.prog 8 #[.agg #[.string x.id, .int .i64 x.junction, .int .i64 x.limit, .int .i64 x.delay, .int .i64 x.release]] w fun e w' => e = .returned (.string (sensorR x)) ∧ Ext w w' := by
  have HT := hid ht
  clear ht
  have hg : Tryd.prog.globalNamed "internal/strconv.uint64pow10" = some 1 := by kernel_rfl
  have HG := hid hg
  clear hg
  cases hv : sensorB x
  · have HR := hid (show sensorR x = ⟨#[]⟩ by unfold sensorR; rw [hv]; rfl)
    go_enter Tryd.func8, Tryd.ntmps8
    go_wp2_with fail
    generalize hA : World.alloc _ _ = B
    have hEB : Ext w B := by rw [← hA]; exact Ext.new _ _
    have hBk : Blk B w.heap.size 26 #[.string x.id, .int .i64 x.junction, .int .i64 x.limit, .int .i64 x.delay, .int .i64 x.release] := by rw [← hA]; exact Blk.new _ _ _
    clear hA
    refine (cv (sensorI x _ hs) (vb hv)).mono ?_
    rintro e w1 ⟨rfl, hE1⟩
    go_wp2
    go_ret
    exact ⟨ret_str (by rw [HR.out]), Ext.tr hEB hE1⟩
  · have HR := hid (show sensorR x = sensorT x by unfold sensorR; rw [hv]; rfl)
    obtain ⟨hok, hsz⟩ := sensorB_bd hv
    have HOK := hid hok
    have htz := textT_size [x.junction, x.limit, x.delay, x.release] (by simp) hok
    have hl : 0 < ([x.junction, x.limit, x.delay, x.release] : List Int).length := by simp
    clear hok
    go_enter Tryd.func8, Tryd.ntmps8
    go_wp2_with fail
    generalize hA : World.alloc _ _ = B
    have hEB : Ext w B := by rw [← hA]; exact Ext.new _ _
    have hBk : Blk B w.heap.size 26 #[.string x.id, .int .i64 x.junction, .int .i64 x.limit, .int .i64 x.delay, .int .i64 x.release] := by rw [← hA]; exact Blk.new _ _ _
    clear hA
    refine (cv (sensorI x _ hs) (vb hv)).mono ?_
    rintro e w1 ⟨rfl, hE1⟩
    have hBk1 := hBk.ext hE1
    have q0 := hBk1.cell 0
    have q1 := hBk1.cell 1
    have q2 := hBk1.cell 2
    have q3 := hBk1.cell 3
    have q4 := hBk1.cell 4
    simp at q0 q1 q2 q3 q4
    clear hBk hBk1
    go_wp2_with fail
    refine (withId x.id [x.junction, x.limit, x.delay, x.release] _ _ _ _ (by omega) (slNew w1 2 [x.junction, x.limit, x.delay, x.release] #[.int .i64 x.junction, .int .i64 x.limit, .int .i64 x.delay, .int .i64 x.release] 4 rfl rfl (by simp)) hl (by simp) HOK.out (tab_ext HG.out HT.out (Ext.tr (Ext.tr hEB hE1) (Ext.new _ _)))).mono ?_
    rintro e w2 ⟨rfl, hE2⟩
    go_wp2
    go_ret
    exact ⟨ret_str (by rw [HR.out]; rfl), Ext.tr (Ext.tr (Ext.tr hEB hE1) (Ext.new _ _)) hE2⟩
end Go.Proofs.YtopjccbjdcoanaaDoor
