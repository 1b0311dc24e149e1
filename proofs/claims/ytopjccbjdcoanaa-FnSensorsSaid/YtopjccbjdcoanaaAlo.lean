/- Contracts of AlarmsOf in both packages. -/
import Derived.Test.YtopjccbjdcoanaaAlm
import Derived.Test.YtopjccbjdcoanaaAln
namespace Go.Proofs.Ytopjccbjdcoanaa
set_option linter.unusedVariables false
open Go.RowKit
def almR (x : Sensor) (ns : List Int) : List (List Int) × Int := if sensorB x then (if seriesB ns then (alarms x ns, 0) else ([], 2)) else ([], 1)
theorem almR_a {x : Sensor} {ns : List Int} (h : sensorB x = false) : almR x ns = ([], 1) := by unfold almR; rw [h]; rfl
theorem almR_b {x : Sensor} {ns : List Int} (h : sensorB x = true) (h2 : seriesB ns = false) : almR x ns = ([], 2) := by unfold almR; rw [h, h2]; rfl
theorem almR_c {x : Sensor} {ns : List Int} (h : sensorB x = true) (h2 : seriesB ns = true) : almR x ns = (alarms x ns, 0) := by unfold almR; rw [h, h2]; rfl
def askR (x : Sensor) (ns : List Int) : Int := if sensorB x then (if seriesB ns then 0 else 2) else 1
theorem l24Ask (x : Sensor) (ns : List Int) (b lo hi : Nat) (v : Value) (w : World) (hs : x.id.size ≤ maxLen) (hbw : b < w.heap.size)
    (c0 : w.cell? ⟨b, 0, none⟩ = some (.string x.id)) (c1 : w.cell? ⟨b, 1, none⟩ = some (.int .i64 x.junction)) (c2 : w.cell? ⟨b, 2, none⟩ = some (.int .i64 x.limit)) (c3 : w.cell? ⟨b, 3, none⟩ = some (.int .i64 x.delay)) (c4 : w.cell? ⟨b, 4, none⟩ = some (.int .i64 x.release))
    (hv : Sl lo hi w 1 v ns.length (flat encI ns)) (hn : ns.length ≤ 1048576) :
    Calls Try.prog 69 #[.pointer (some ⟨b, 0, none⟩), v] w fun e w' => e = .returned (.int .i64 (askR x ns)) ∧ Ext w w' := by
  cases h1 : sensorB x
  · have HQ := hid (show askR x ns = 1 by unfold askR; rw [h1]; rfl)
    go_enter Try.func69, Try.ntmps69
    go_wp2_with (go_at_call 93; refine (cv (sensorS b x _ hs c0 c1 c2 c3 c4) (vb h1)).mono ?_; rintro e w1 ⟨rfl, hE⟩)
    go_ret
    exact ⟨by rw [HQ.out]; rfl, hE⟩
  cases h2 : seriesB ns
  · have HQ := hid (show askR x ns = 2 by unfold askR; rw [h1, h2]; rfl)
    go_enter Try.func69, Try.ntmps69
    go_wp2_with (first | (go_at_call 93; refine (cv (sensorS b x _ hs c0 c1 c2 c3 c4) (vb h1)).mono ?_; rintro e w1 ⟨rfl, hE⟩) | (go_at_call 77; refine (cv (l24Series ns lo hi _ _ (hv.ext hE) hn) (vb h2)).mono ?_; rintro e w' ⟨rfl, rfl⟩))
    go_ret
    exact ⟨by rw [HQ.out]; rfl, hE⟩
  · have HQ := hid (show askR x ns = 0 by unfold askR; rw [h1, h2]; rfl)
    go_enter Try.func69, Try.ntmps69
    go_wp2_with (first | (go_at_call 93; refine (cv (sensorS b x _ hs c0 c1 c2 c3 c4) (vb h1)).mono ?_; rintro e w1 ⟨rfl, hE⟩) | (go_at_call 77; refine (cv (l24Series ns lo hi _ _ (hv.ext hE) hn) (vb h2)).mono ?_; rintro e w' ⟨rfl, rfl⟩))
    go_ret
    exact ⟨by rw [HQ.out]; rfl, hE⟩
set_option maxRecDepth 100000 in
theorem specAlarmsOf (x : Sensor) (ns : List Int) (lo hi : Nat) (v : Value) (w : World) (hs : x.id.size ≤ maxLen) (hv : Sl lo hi w 1 v ns.length (flat encI ns)) (hn : ns.length ≤ 1048576) :
    Calls Try.prog 17 #[.agg #[.string x.id, .int .i64 x.junction, .int .i64 x.limit, .int .i64 x.delay, .int .i64 x.release], v] w fun e w' => (∃ v', e = .returned (.tuple #[v', .int .i64 (almR x ns).2]) ∧ OwnSS w.heap.size w'.heap.size w' v' (almR x ns).1) ∧ Ext w w' := by
  have HC := hid (fun W (hW : Ext (w.alloc (.cells #[.string x.id, .int .i64 x.junction, .int .i64 x.limit, .int .i64 x.delay, .int .i64 x.release] 40)) W) => (Blk.new w 40 #[.string x.id, .int .i64 x.junction, .int .i64 x.limit, .int .i64 x.delay, .int .i64 x.release]).ext hW)
  go_enter Try.func17, Try.ntmps17
  go_wp2_with fail
  generalize hBB : w.alloc _ = B at *
  have hEB : Ext w B := by rw [← hBB]; exact Ext.new _ _
  have hBs : w.heap.size < B.heap.size := by rw [← hBB]; simp
  clear hBB
  have hBk := HC.out B (Below.refl _ _)
  refine (l24Ask x ns w.heap.size lo hi v B hs hBs (hBk.cell 0) (hBk.cell 1) (hBk.cell 2) (hBk.cell 3) (hBk.cell 4) (hv.ext hEB) hn).mono ?_
  rintro e w1 ⟨rfl, hE⟩
  have hT := Ext.tr hEB hE
  have hz := hE.size
  cases h1 : sensorB x
  · have HQ := hid (almR_a (ns := ns) h1)
    rw [show askR x ns = 1 by unfold askR; rw [h1]; rfl]
    go_wp2
    go_ret2
    exact ⟨⟨_, by rw [HQ.out]; rfl, by rw [HQ.out]; exact OwnN.nil _ _ _ hT⟩, hT⟩
  cases h2 : seriesB ns
  · have HQ := hid (almR_b h1 h2)
    rw [show askR x ns = 2 by unfold askR; rw [h1, h2]; rfl]
    go_wp2
    go_ret2
    exact ⟨⟨_, by rw [HQ.out]; rfl, by rw [HQ.out]; exact OwnN.nil _ _ _ hT⟩, hT⟩
  · have HQ := hid (almR_c h1 h2)
    rw [show askR x ns = 0 by unfold askR; rw [h1, h2]; rfl]
    have hBk1 := HC.out w1 hE
    go_wp2_with (go_at_call 70; refine (l24Alarms x ns w.heap.size lo hi v w1 h1 (by omega) (hBk1.cell 2) (hBk1.cell 3) (hBk1.cell 4) (hv.ext hT) h2).mono ?_; rintro e w2 ⟨⟨v2, rfl, ho⟩, hE2⟩)
    go_ret2
    exact ⟨⟨_, by rw [HQ.out]; rfl, by rw [HQ.out]; exact ho.low hT.size⟩, Ext.tr hT hE2⟩
set_option maxRecDepth 100000 in
theorem implAlarmsOf (x : Sensor) (ns : List Int) (lo hi : Nat) (v : Value) (w : World) (hs : x.id.size ≤ maxLen) (hv : Sl lo hi w 1 v ns.length (flat encI ns)) (hn : ns.length ≤ 1048576) :
    Calls Try.prog 21 #[.agg #[.string x.id, .int .i64 x.junction, .int .i64 x.limit, .int .i64 x.delay, .int .i64 x.release], v] w fun e w' => (∃ v', e = .returned (.tuple #[v', .int .i64 (almR x ns).2]) ∧ OwnSS w.heap.size w'.heap.size w' v' (almR x ns).1) ∧ Ext w w' := by
  have HC := hid (fun W (hW : Ext (w.alloc (.cells #[.string x.id, .int .i64 x.junction, .int .i64 x.limit, .int .i64 x.delay, .int .i64 x.release] 40)) W) => (Blk.new w 40 #[.string x.id, .int .i64 x.junction, .int .i64 x.limit, .int .i64 x.delay, .int .i64 x.release]).ext hW)
  go_enter Try.func21, Try.ntmps21
  go_wp2_with fail
  generalize hBB : w.alloc _ = B at *
  have hEB : Ext w B := by rw [← hBB]; exact Ext.new _ _
  have hBs : w.heap.size < B.heap.size := by rw [← hBB]; simp
  clear hBB
  refine (sensorI x B hs).mono ?_
  rintro e w1 ⟨rfl, hE⟩
  have hT := Ext.tr hEB hE
  cases h1 : sensorB x
  · have HQ := hid (almR_a (ns := ns) h1)
    go_wp2
    go_ret2
    exact ⟨⟨_, by rw [HQ.out]; rfl, by rw [HQ.out]; exact OwnN.nil _ _ _ hT⟩, hT⟩
  cases h2 : seriesB ns
  · have HQ := hid (almR_b h1 h2)
    go_wp2_with (go_at_call 67; refine (cv (seriesOk ns lo hi _ _ (hv.ext hT) hn) (vb h2)).mono ?_; rintro e w2 ⟨rfl, hE2⟩)
    replace hT := Ext.tr hT hE2
    go_ret2
    exact ⟨⟨_, by rw [HQ.out]; rfl, by rw [HQ.out]; exact OwnN.nil _ _ _ hT⟩, hT⟩
  · have HQ := hid (almR_c h1 h2)
    go_wp2_with (go_at_call 67; refine (cv (seriesOk ns lo hi _ _ (hv.ext hT) hn) (vb h2)).mono ?_; rintro e w2 ⟨rfl, hE2⟩; have hBk2 := HC.out w2 (Ext.tr hE hE2); have d0 := hBk2.cell 0; have d1 := hBk2.cell 1; have d2 := hBk2.cell 2; have d3 := hBk2.cell 3; have d4 := hBk2.cell 4; simp at d0 d1 d2 d3 d4)
    replace hT := Ext.tr hT hE2
    refine (implAlarms x ns lo hi v w2 h1 (hv.ext hT) h2).mono ?_
    rintro e w3 ⟨⟨v2, rfl, ho⟩, hE3⟩
    go_wp2
    go_ret2
    exact ⟨⟨_, by rw [HQ.out]; rfl, by rw [HQ.out]; exact ho.low hT.size⟩, Ext.tr hT hE3⟩
end Go.Proofs.Ytopjccbjdcoanaa
