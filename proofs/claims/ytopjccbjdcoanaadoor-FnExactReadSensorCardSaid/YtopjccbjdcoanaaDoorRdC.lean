/- The program's reading of a sensor. -/
import Derived.Test.YtopjccbjdcoanaaDoorRdB
namespace Go.Proofs.YtopjccbjdcoanaaDoor
set_option linter.unusedVariables false
open Go.RowKit
/-- what readWithId hands back -/
def riPost (s : ByteArray) (base : Nat) (e : Ending) (w' : World) : Prop := ∃ (id : ByteArray) (v : Value) (n0 n1 n2 n3 : Int) (ok : Bool), e = .returned (.tuple #[.string id, v, .bool ok]) ∧ w'.ownsRow base 2 1 v 4 (flat encI [n0, n1, n2, n3]) ∧ id.size ≤ s.size ∧ (ok = true → s.size ≠ 0) ∧ ∀ x : Sensor, sensorB x = true → s = sensorT x → ok = true ∧ x = ⟨id, n0, n1, n2, n3⟩
theorem cut_sensor {x : Sensor} (h : sensorB x = true) : Lib.cut (sensorT x).data.toList [32] = (x.id.data.toList, Lib.join (digs (nsOf x)) [44], true) := by
  rw [sensorT_data]
  exact cut_app (name_no (sensorB_nn h).1 (by decide))
theorem cut_le (l : List UInt8) : (Lib.cut l [32]).1.length ≤ l.length ∧ (Lib.cut l [32]).2.1.length ≤ l.length := by
  unfold Lib.cut
  split
  · rw [List.length_take, List.length_drop]; omega
  · simp
theorem cut_empty {s : ByteArray} (h : s.size = 0) : (⟨(Lib.cut s.data.toList [32]).2.1.toArray⟩ : ByteArray).size = 0 := by
  have e : s.data.toList = [] := List.length_eq_zero_iff.1 h
  rw [e, cut_nil]; rfl
theorem made4 (w : World) : (w.alloc (.cells (zeros (.int .i64 0) (4 * 1)) 2)).ownsRow w.heap.size 2 1 (.slice (some ⟨w.heap.size, 0, none⟩) 4 4) 4 (flat encI [0, 0, 0, 0]) := by
  refine ⟨rfl, .inr ⟨w.heap.size, 4, _, rfl, Nat.le_refl _, heap_alloc_new w _, by omega, by unfold maxLen; omega, by rw [zeros_size], by simp [zeros, madeCells, Value.cells, flat, encI, List.range, List.range.loop]⟩⟩
set_option maxRecDepth 100000 in
set_option maxHeartbeats 1000000 in
theorem readWithId (s : ByteArray) (w : World) (hs : s.size ≤ 1048576) (he : envP w) :
    Calls Tryd.prog 17 #[.string s, .int .i64 4] w fun e w' => riPost s w.heap.size e w' ∧ Ext w w' := by
  have HC := hid (cutW s w hs he.2.2.2)
  obtain ⟨c, HCU⟩ : ∃ c, Hid (Lib.cut s.data.toList [32] = c) := ⟨_, hid rfl⟩
  have hle := cut_le s.data.toList
  have hem := fun h => cut_empty (s := s) h
  rw [HCU.out] at HC hle hem
  obtain ⟨a, b, f⟩ := c
  have hsl : s.data.toList.length = s.size := rfl
  have HA : Hid ((⟨a.toArray⟩ : ByteArray).size ≤ s.size) := hid (by have e : (⟨a.toArray⟩ : ByteArray).size = a.length := by simp [ByteArray.size]
                                                                     have := hle.1; simp only at this; omega)
  have hbz : (⟨b.toArray⟩ : ByteArray).size ≤ 1048576 := by
    have e : (⟨b.toArray⟩ : ByteArray).size = b.length := by simp [ByteArray.size]
    have := hle.2; simp only at this; omega
  have HEM := hid hem
  have HRL := hid (fun W (hW : Ext w W) => readList ⟨b.toArray⟩ W hbz (he.ext hW))
  have hmk : ∀ w, (Instr.makeSlice 38 (.int .i64 4) (.int .i64 4)).run Tryd.prog w = .ok (.slice (some ⟨w.heap.size, 0, none⟩) 4 4) (w.alloc (.cells (zeros (.int .i64 0) (4 * 1)) 2)) := run_made 38 2 (.int .i64 0) 1 8 Tryd.underlying38 infoI 4 (by omega) (by unfold maxLen; omega)
  have HMK := hid hmk
  clear hmk he hle hem hsl hbz
  simp only at HC
  go_enter Tryd.func17, Tryd.ntmps17
  go_wp2_with fail
  refine HC.out.mono ?_
  rintro e w1 ⟨rfl, nd, rfl⟩
  have hE1 := Ext.drewN w nd
  go_wp2_with fail
  refine (HRL.out _ hE1).mono ?_
  rintro e w2 ⟨⟨v, ns, ok, rfl, hown, hnl, hok, hcomp⟩, hE2⟩
  have HCO : Hid (∀ x : Sensor, sensorB x = true → s = sensorT x → (ok = true ∧ ns.length = 4) ∧ x.id = ⟨a.toArray⟩ ∧ ns = nsOf x) := hid fun x hx hsx => by
    have hc := cut_sensor hx
    rw [← hsx, HCU.out] at hc
    simp only [Prod.mk.injEq] at hc
    obtain ⟨h1, h2⟩ := hcomp (nsOf x) rfl (sensorB_nn hx).2 (by show b = _; exact hc.2.1)
    exact ⟨⟨h1, by rw [h2]; rfl⟩, text_eq (by show _ = a; exact hc.1.symm), h2⟩
  have HOK := hid hok
  clear hok hcomp
  obtain ⟨_, _, A2, c2, rfl, hnc2, hcm2, _⟩ := Sl.of_own hown (by unfold maxLen; omega)
  have HNO : Hid ((ok = false ∨ ns.length ≠ 4) → ∀ W', W'.ownsRow w.heap.size 2 1 (.slice (some ⟨w2.heap.size, 0, none⟩) 4 4) 4 (flat encI [0, 0, 0, 0]) → riPost s w.heap.size (.returned (.tuple #[.string ⟨#[]⟩, .slice (some ⟨w2.heap.size, 0, none⟩) 4 4, .bool false])) W') := hid fun hbad W' h =>
    ⟨_, _, 0, 0, 0, 0, false, rfl, h, Nat.zero_le _, fun e => (by cases e), fun x hx hsx => by
      have hh := (HCO.out x hx hsx).1
      rcases hbad with hb | hb
      · rw [hb] at hh; cases hh.1
      · exact absurd hh.2 hb⟩
  cases ok
  · have HQ := hid (HNO.out (.inl rfl))
    clear hown HNO
    have hmk := HMK.out
    go_wp2_with fail
    go_region
    go_wp2
    go_ret3
    exact ⟨HQ.out _ (own_base (ownD (made4 w2) 1) (Ext.tr hE1 hE2).size), Ext.tr hE1 (Ext.tr hE2 (Ext.tr (Ext.new _ _) (Ext.drewN _ 1)))⟩
  · by_cases h4 : ns.length = 4
    · clear HNO
      obtain ⟨n0, n1, n2, n3, rfl⟩ := four_of h4
      have HQ := hid (show riPost s w.heap.size (.returned (.tuple #[.string ⟨a.toArray⟩, .slice A2 4 c2, .bool true])) w2 from
        ⟨_, _, n0, n1, n2, n3, true, rfl, own_base hown hE1.size, HA.out, fun _ hz => HOK.out rfl (HEM.out hz), fun x hx hsx => by
          obtain ⟨_, h2, h3⟩ := HCO.out x hx hsx
          refine ⟨rfl, ?_⟩
          obtain ⟨i, j, l, d, r⟩ := x
          simp only [nsOf, List.cons.injEq, and_true] at h2 h3
          obtain ⟨rfl, rfl, rfl, rfl⟩ := h3
          rw [h2]⟩)
      clear hown h4
      go_wp2
      go_ret3
      exact ⟨HQ.out, Ext.tr hE1 hE2⟩
    · have HQ := hid (HNO.out (.inr h4))
      have h4i : ¬ (ns.length : Int) = 4 := by omega
      clear hown HNO
      have hmk := HMK.out
      go_wp2_with fail
      go_region
      go_wp2
      go_ret3
      exact ⟨HQ.out _ (own_base (ownD (made4 w2) 1) (Ext.tr hE1 hE2).size), Ext.tr hE1 (Ext.tr hE2 (Ext.tr (Ext.new _ _) (Ext.drewN _ 1)))⟩
theorem rd_valid {s : ByteArray} {x : Sensor} (hz : s.size ≠ 0) (h : sensorR x = s) : rdO s.data.toList = true ∧ rdX s.data.toList = x := by
  have hv : sensorB x = true := by
    cases hb : sensorB x
    · unfold sensorR at h; rw [hb] at h
      exact (hz (by rw [← h]; rfl)).elim
    · rfl
  refine rd_yes ((specRd_iff s x).2 ⟨hv, ?_⟩)
  rw [← h]; unfold sensorR; rw [hv]; rfl
theorem rd_bad {s : ByteArray} (h : ∀ x : Sensor, sensorB x = true → s = sensorT x → False) : rdO s.data.toList = false ∧ rdX s.data.toList = sensorZ := by
  refine rd_no ?_
  cases hr : specRd s.data.toList with
  | none => rfl
  | some x =>
    obtain ⟨h1, h2⟩ := (specRd_iff s x).1 hr
    exact (h x h1 h2).elim
set_option maxRecDepth 100000 in
set_option maxHeartbeats 1000000 in
theorem implReadSensor (s : ByteArray) (w : World) (hs : s.size ≤ 1048576) (he : envP w) :
    Calls Tryd.prog 10 #[.string s] w fun e w' => e = .returned (.tuple #[aggS (rdX s.data.toList), .bool (rdO s.data.toList)]) ∧ Ext w w' := by
  have HRI := hid (fun W (hW : Ext w W) => readWithId s W hs (he.ext hW))
  have HTB := hid (fun W (hW : Ext w W) => (he.ext hW).1)
  clear he
  go_enter Tryd.func10, Tryd.ntmps10
  go_wp2_with fail
  generalize hG : World.alloc _ _ = wz
  have hE0 : Ext w wz := by rw [← hG]; exact Ext.new _ _
  have HB : Hid (Blk wz w.heap.size 26 #[.string ⟨#[]⟩, .int .i64 0, .int .i64 0, .int .i64 0, .int .i64 0]) := by
    refine hid ?_; rw [← hG]; exact Blk.new _ _ _
  clear hG
  refine (HRI.out wz hE0).mono ?_
  rintro e w2 ⟨⟨id, v, n0, n1, n2, n3, ok, rfl, hown, hid2, hok, hcomp⟩, hE1⟩
  have HB2 := hid (HB.out.ext hE1)
  have HE2 := hid (Ext.tr hE0 hE1)
  have HOK := hid hok
  have HCO := hid hcomp
  clear hok hcomp HRI HB
  obtain ⟨_, _, A2, c2, rfl, hnc2, hcm2, hcell2⟩ := Sl.of_own hown (by unfold maxLen; omega)
  obtain ⟨b2, o2, rfl, _, hb2', hc2⟩ := hcell2 (by omega)
  have q0 : w2.cell? ⟨b2, o2, none⟩ = some (.int .i64 n0) := cellsI (xs := [n0, n1, n2, n3]) hc2 0 (by simp)
  have q1 : w2.cell? ⟨b2, o2 + 1, none⟩ = some (.int .i64 n1) := cellsI (xs := [n0, n1, n2, n3]) hc2 1 (by simp)
  have q2 : w2.cell? ⟨b2, o2 + 2, none⟩ = some (.int .i64 n2) := cellsI (xs := [n0, n1, n2, n3]) hc2 2 (by simp)
  have q3 : w2.cell? ⟨b2, o2 + 3, none⟩ = some (.int .i64 n3) := cellsI (xs := [n0, n1, n2, n3]) hc2 3 (by simp)
  clear hcell2 hc2 hown
  go_wp2_with fail
  go_region
  generalize hG : World.drew _ = w3
  have hE3 : Ext w2 w3 := by rw [← hG]; exact Ext.tr (Ext.new _ _) (Ext.drewN _ 1)
  have HL : Hid (Blk w3 w2.heap.size 26 #[.string id, .int .i64 n0, .int .i64 n1, .int .i64 n2, .int .i64 n3]) := by
    refine hid ?_; rw [← hG]; exact Blk.new w2 26 #[.string id, .int .i64 n0, .int .i64 n1, .int .i64 n2, .int .i64 n3]
  clear hG q0 q1 q2 q3
  have HE3 := hid (Ext.tr HE2.out hE3)
  have HB3 := hid (HB2.out.ext hE3)
  cases ok
  · have HR := hid (rd_bad (s := s) (fun x hx hsx => by have := (HCO.out x hx hsx).1; cases this))
    have e0 : w3.cell? ⟨w.heap.size, 0, none⟩ = some (.string ⟨#[]⟩) := HB3.out.cell 0
    have e1 : w3.cell? ⟨w.heap.size, 1, none⟩ = some (.int .i64 0) := HB3.out.cell 1
    have e2 : w3.cell? ⟨w.heap.size, 2, none⟩ = some (.int .i64 0) := HB3.out.cell 2
    have e3 : w3.cell? ⟨w.heap.size, 3, none⟩ = some (.int .i64 0) := HB3.out.cell 3
    have e4 : w3.cell? ⟨w.heap.size, 4, none⟩ = some (.int .i64 0) := HB3.out.cell 4
    have f0 := HB3.out.frozen 0
    have f1 := HB3.out.frozen 1
    have f2 := HB3.out.frozen 2
    have f3 := HB3.out.frozen 3
    have f4 := HB3.out.frozen 4
    go_wp2
    (try simp only [Exit.inBlock, Exit.then])
    refine bodyPost_ret (v := .tuple #[aggS sensorZ, .bool false]) ?_ rfl ⟨by rw [HR.out.1, HR.out.2], storeX (storeX (storeX (storeX (storeX HE3.out (Nat.le_refl _) _) (Nat.le_refl _) _) (Nat.le_refl _) _) (Nat.le_refl _) _) (Nat.le_refl _) _⟩
    rw [results_cell_tmp rfl]
    unfold aggS sensorZ
    go_simp
  have HST := hid (implSensorText ⟨id, n0, n1, n2, n3⟩ w3 (by show id.size ≤ _; unfold maxLen; omega) (HTB.out w3 HE3.out))
  obtain ⟨t, HTX⟩ : ∃ t, Hid (sensorR ⟨id, n0, n1, n2, n3⟩ = t) := ⟨_, hid rfl⟩
  rw [HTX.out] at HST
  have l0 : w3.cell? ⟨w2.heap.size, 0, none⟩ = some (.string id) := HL.out.cell 0
  have l1 : w3.cell? ⟨w2.heap.size, 1, none⟩ = some (.int .i64 n0) := HL.out.cell 1
  have l2 : w3.cell? ⟨w2.heap.size, 2, none⟩ = some (.int .i64 n1) := HL.out.cell 2
  have l3 : w3.cell? ⟨w2.heap.size, 3, none⟩ = some (.int .i64 n2) := HL.out.cell 3
  have l4 : w3.cell? ⟨w2.heap.size, 4, none⟩ = some (.int .i64 n3) := HL.out.cell 4
  by_cases hts : t = s
  · have HR := hid (rd_valid (HOK.out rfl) (HTX.out.trans hts))
    subst hts
    go_wp2_with fail
    refine HST.out.mono ?_
    rintro e w4 ⟨rfl, hE4⟩
    have HB4 := hid (HB3.out.ext hE4)
    have HE4 := hid (Ext.tr HE3.out hE4)
    have HL2 := hid (HL.out.ext hE4)
    clear l0 l1 l2 l3 l4
    have l0 : w4.cell? ⟨w2.heap.size, 0, none⟩ = some (.string id) := HL2.out.cell 0
    have l1 : w4.cell? ⟨w2.heap.size, 1, none⟩ = some (.int .i64 n0) := HL2.out.cell 1
    have l2 : w4.cell? ⟨w2.heap.size, 2, none⟩ = some (.int .i64 n1) := HL2.out.cell 2
    have l3 : w4.cell? ⟨w2.heap.size, 3, none⟩ = some (.int .i64 n2) := HL2.out.cell 3
    have l4 : w4.cell? ⟨w2.heap.size, 4, none⟩ = some (.int .i64 n3) := HL2.out.cell 4
    have e0 : w4.cell? ⟨w.heap.size, 0, none⟩ = some (.string ⟨#[]⟩) := HB4.out.cell 0
    have e1 : w4.cell? ⟨w.heap.size, 1, none⟩ = some (.int .i64 0) := HB4.out.cell 1
    have e2 : w4.cell? ⟨w.heap.size, 2, none⟩ = some (.int .i64 0) := HB4.out.cell 2
    have e3 : w4.cell? ⟨w.heap.size, 3, none⟩ = some (.int .i64 0) := HB4.out.cell 3
    have e4 : w4.cell? ⟨w.heap.size, 4, none⟩ = some (.int .i64 0) := HB4.out.cell 4
    have f0 := HB4.out.frozen 0
    have f1 := HB4.out.frozen 1
    have f2 := HB4.out.frozen 2
    have f3 := HB4.out.frozen 3
    have f4 := HB4.out.frozen 4
    go_wp2
    (try simp only [Exit.inBlock, Exit.then])
    refine bodyPost_ret (v := .tuple #[aggS ⟨id, n0, n1, n2, n3⟩, .bool true]) ?_ rfl ⟨by rw [HR.out.1, HR.out.2], storeX (storeX (storeX (storeX (storeX HE4.out (Nat.le_refl _) _) (Nat.le_refl _) _) (Nat.le_refl _) _) (Nat.le_refl _) _) (Nat.le_refl _) _⟩
    rw [results_cell_tmp rfl]
    unfold aggS
    go_simp
  · have HR := hid (rd_bad (s := s) (fun x hx hsx => hts (by
      obtain ⟨_, hxe⟩ := HCO.out x hx hsx
      rw [← HTX.out, ← hxe]
      unfold sensorR
      rw [hx]
      exact hsx.symm)))
    have hne := str_ne hts
    clear hts
    go_wp2_with fail
    refine HST.out.mono ?_
    rintro e w4 ⟨rfl, hE4⟩
    have HB4 := hid (HB3.out.ext hE4)
    have HE4 := hid (Ext.tr HE3.out hE4)
    clear l0 l1 l2 l3 l4
    have e0 : w4.cell? ⟨w.heap.size, 0, none⟩ = some (.string ⟨#[]⟩) := HB4.out.cell 0
    have e1 : w4.cell? ⟨w.heap.size, 1, none⟩ = some (.int .i64 0) := HB4.out.cell 1
    have e2 : w4.cell? ⟨w.heap.size, 2, none⟩ = some (.int .i64 0) := HB4.out.cell 2
    have e3 : w4.cell? ⟨w.heap.size, 3, none⟩ = some (.int .i64 0) := HB4.out.cell 3
    have e4 : w4.cell? ⟨w.heap.size, 4, none⟩ = some (.int .i64 0) := HB4.out.cell 4
    have f0 := HB4.out.frozen 0
    have f1 := HB4.out.frozen 1
    have f2 := HB4.out.frozen 2
    have f3 := HB4.out.frozen 3
    have f4 := HB4.out.frozen 4
    go_wp2
    (try simp only [Exit.inBlock, Exit.then])
    refine bodyPost_ret (v := .tuple #[aggS sensorZ, .bool false]) ?_ rfl ⟨by rw [HR.out.1, HR.out.2], storeX (storeX (storeX (storeX (storeX HE4.out (Nat.le_refl _) _) (Nat.le_refl _) _) (Nat.le_refl _) _) (Nat.le_refl _) _) (Nat.le_refl _) _⟩
    rw [results_cell_tmp rfl]
    unfold aggS sensorZ
    go_simp
end Go.Proofs.YtopjccbjdcoanaaDoor
