/- The reference's reading of a sensor. -/
import Derived.Test.YtopjccbjdcoanaaDoorRdL
namespace Go.Proofs.YtopjccbjdcoanaaDoor
set_option linter.unusedVariables false
open Go.RowKit
def sensorZ : Sensor := ⟨⟨#[]⟩, 0, 0, 0, 0⟩
def rdX (l : List UInt8) : Sensor := (specRd l).getD sensorZ
def rdO (l : List UInt8) : Bool := (specRd l).isSome
def aggS (x : Sensor) : Value := .agg #[.string x.id, .int .i64 x.junction, .int .i64 x.limit, .int .i64 x.delay, .int .i64 x.release]
theorem rd_no {l : List UInt8} (h : specRd l = none) : rdO l = false ∧ rdX l = sensorZ := by unfold rdO rdX; rw [h]; exact ⟨rfl, rfl⟩
theorem rd_yes {l : List UInt8} {x : Sensor} (h : specRd l = some x) : rdO l = true ∧ rdX l = x := by unfold rdO rdX; rw [h]; exact ⟨rfl, rfl⟩
theorem specRd_a {l : List UInt8} (h : ¬ (splitL 32 l).length = 2) : specRd l = none := by unfold specRd; rw [if_neg h]
theorem readO_no {l : List UInt8} (h : readO l = false) : readL l = none := by
  unfold readO at h
  cases hr : readL l with
  | none => rfl
  | some n => rw [hr] at h; cases h
theorem readO_yes {l : List UInt8} (h : readO l = true) : readL l = some (readV l) := by
  unfold readO at h; unfold readV
  cases hr : readL l with
  | none => rw [hr] at h; cases h
  | some n => rfl
theorem specRd_b {l : List UInt8} {a b : List UInt8} (h : splitL 32 l = [a, b]) (h2 : readO b = false) : specRd l = none := by
  unfold specRd; rw [h]; simp only [List.length_cons, List.length_nil, List.getD_cons_succ, List.getD_cons_zero, readO_no h2, if_true]
theorem specRd_c {l : List UInt8} {a b : List UInt8} (h : splitL 32 l = [a, b]) (h2 : readO b = true) (h3 : ¬ (readV b).length = 4) : specRd l = none := by
  unfold specRd; rw [h]; simp only [List.length_cons, List.length_nil, List.getD_cons_succ, List.getD_cons_zero, readO_yes h2, if_true, if_neg h3]
theorem specRd_d {l : List UInt8} {a b : List UInt8} (h : splitL 32 l = [a, b]) (h2 : readO b = true) {n0 n1 n2 n3 : Int} (h3 : readV b = [n0, n1, n2, n3]) (h4 : sensorB ⟨⟨a.toArray⟩, n0, n1, n2, n3⟩ = false) : specRd l = none := by
  unfold specRd; rw [h]; simp only [List.length_cons, List.length_nil, List.getD_cons_succ, List.getD_cons_zero, readO_yes h2, h3, if_true, mkS, h4, Bool.false_eq_true, if_false]
theorem specRd_e {l : List UInt8} {a b : List UInt8} (h : splitL 32 l = [a, b]) (h2 : readO b = true) {n0 n1 n2 n3 : Int} (h3 : readV b = [n0, n1, n2, n3]) (h4 : sensorB ⟨⟨a.toArray⟩, n0, n1, n2, n3⟩ = true) : specRd l = some ⟨⟨a.toArray⟩, n0, n1, n2, n3⟩ := by
  unfold specRd; rw [h]; simp only [List.length_cons, List.length_nil, List.getD_cons_succ, List.getD_cons_zero, readO_yes h2, h3, if_true, mkS, h4]
theorem two_of {α : Type} {l : List α} (h : l.length = 2) : ∃ a b, l = [a, b] := by
  match l, h with
  | [a, b], _ => exact ⟨a, b, rfl⟩
theorem four_of {l : List Int} (h : l.length = 4) : ∃ a b c d, l = [a, b, c, d] := by
  match l, h with
  | [a, b, c, d], _ => exact ⟨a, b, c, d, rfl⟩
theorem storeX {w W : World} {a : Addr} (h : Ext w W) (hb : w.heap.size ≤ a.block) (u : Value) : Ext w (W.setCell a u) := Below.setCell h hb u
set_option maxRecDepth 100000 in
set_option maxHeartbeats 1000000 in
theorem l24Read (s : ByteArray) (w : World) (hs : s.size ≤ 1048576) :
    Calls Tryd.prog 16 #[.string s] w fun e w' => e = .returned (.tuple #[aggS (rdX s.data.toList), .bool (rdO s.data.toList)]) ∧ Ext w w' := by
  go_enter Tryd.func16, Tryd.ntmps16
  go_wp2_with fail
  generalize hG : World.alloc _ _ = wz
  have hE0 : Ext w wz := by rw [← hG]; exact Ext.new _ _
  have HB : Hid (Blk wz w.heap.size 26 #[.string ⟨#[]⟩, .int .i64 0, .int .i64 0, .int .i64 0, .int .i64 0]) := by
    refine hid ?_; rw [← hG]; exact Blk.new _ _ _
  clear hG
  refine (l01Split s 32 wz hs).mono ?_
  rintro e w1 ⟨⟨v1, rfl, ho1⟩, hE1⟩
  have HB1 := hid (HB.out.ext hE1)
  have hcnt := splitL_count 32 s.data.toList
  have hsl : s.data.toList.length = s.size := rfl
  obtain ⟨_, _, A1, c1, rfl, hnc1, hcm1, hcell1⟩ := Sl.of_own ho1 (by unfold maxLen; omega)
  obtain ⟨ps, HP⟩ : ∃ ps, Hid (splitL 32 s.data.toList = ps) := ⟨_, hid rfl⟩
  rw [HP.out] at hcnt hnc1 hcell1 ho1
  rw [HP.out]
  have HE1 := hid (Ext.tr hE0 hE1)
  by_cases h2 : ps.length = 2
  rotate_left
  · have HR := hid (rd_no (specRd_a (by rw [HP.out]; exact h2)))
    have h2i : ¬ (ps.length : Int) = 2 := by omega
    have e0 : w1.cell? ⟨w.heap.size, 0, none⟩ = some (.string ⟨#[]⟩) := HB1.out.cell 0
    have e1 : w1.cell? ⟨w.heap.size, 1, none⟩ = some (.int .i64 0) := HB1.out.cell 1
    have e2 : w1.cell? ⟨w.heap.size, 2, none⟩ = some (.int .i64 0) := HB1.out.cell 2
    have e3 : w1.cell? ⟨w.heap.size, 3, none⟩ = some (.int .i64 0) := HB1.out.cell 3
    have e4 : w1.cell? ⟨w.heap.size, 4, none⟩ = some (.int .i64 0) := HB1.out.cell 4
    have f0 := HB1.out.frozen 0
    have f1 := HB1.out.frozen 1
    have f2 := HB1.out.frozen 2
    have f3 := HB1.out.frozen 3
    have f4 := HB1.out.frozen 4
    go_wp2
    (try simp only [Exit.inBlock, Exit.then])
    refine bodyPost_ret (v := .tuple #[aggS sensorZ, .bool false]) ?_ rfl ⟨by rw [HR.out.1, HR.out.2], storeX (storeX (storeX (storeX (storeX HE1.out (Nat.le_refl _) _) (Nat.le_refl _) _) (Nat.le_refl _) _) (Nat.le_refl _) _) (Nat.le_refl _) _⟩
    rw [results_cell_tmp rfl]
    unfold aggS sensorZ
    go_simp
  · obtain ⟨a, bb, rfl⟩ := two_of h2
    obtain ⟨b1, o1, rfl, _, hb1', hc1⟩ := hcell1 (by simp)
    have HX1 : Hid (∀ W, Ext w1 W → W.cell? ⟨b1, o1, none⟩ = some (.string ⟨a.toArray⟩) ∧ W.cell? ⟨b1, o1 + 1, none⟩ = some (.string ⟨bb.toArray⟩)) := hid fun W hW =>
      ⟨(hW.cell (p := ⟨b1, o1, none⟩) hb1').trans (cellsL hc1 0 (by simp)), (hW.cell (p := ⟨b1, o1 + 1, none⟩) hb1').trans (cellsL hc1 1 (by simp))⟩
    have hbz : (⟨bb.toArray⟩ : ByteArray).size ≤ 1048576 := by
      have e : (⟨bb.toArray⟩ : ByteArray).size = bb.length := by simp [ByteArray.size]
      have := splitL_le 32 s.data.toList bb (by rw [HP.out]; simp)
      omega
    have haz : (⟨a.toArray⟩ : ByteArray).size ≤ 1048576 := by
      have e : (⟨a.toArray⟩ : ByteArray).size = a.length := by simp [ByteArray.size]
      have := splitL_le 32 s.data.toList a (by rw [HP.out]; simp)
      omega
    have c1' := (HX1.out w1 (Below.refl _ _)).2
    have HRL := hid (specReadList ⟨bb.toArray⟩ w1 hbz)
    clear hbz hcell1 hc1 ho1 h2 hcnt hsl HB
    simp only [List.length_cons, List.length_nil] at hnc1 ⊢
    go_wp2_with fail
    refine HRL.out.mono ?_
    rintro e w2 ⟨⟨v2, rfl, ho2⟩, hE2⟩
    have HB2 := hid (HB1.out.ext hE2)
    have HE2 := hid (Ext.tr HE1.out hE2)
    have HX2 := hid (HX1.out w2 hE2)
    clear HB1 HE1 HX1 c1' HRL
    cases ho : readO bb
    · have HR := hid (rd_no (specRd_b HP.out ho))
      have hnl : (readV bb).length ≤ maxLen := by rcases ho2.2 with ⟨_, hz⟩ | ⟨_, _, _, _, _, _, h1, h2, _⟩ <;> omega
      obtain ⟨_, _, A2, c2, rfl, hnc2, hcm2, _⟩ := Sl.of_own ho2 hnl
      clear ho ho2
      have e0 : w2.cell? ⟨w.heap.size, 0, none⟩ = some (.string ⟨#[]⟩) := HB2.out.cell 0
      have e1 : w2.cell? ⟨w.heap.size, 1, none⟩ = some (.int .i64 0) := HB2.out.cell 1
      have e2 : w2.cell? ⟨w.heap.size, 2, none⟩ = some (.int .i64 0) := HB2.out.cell 2
      have e3 : w2.cell? ⟨w.heap.size, 3, none⟩ = some (.int .i64 0) := HB2.out.cell 3
      have e4 : w2.cell? ⟨w.heap.size, 4, none⟩ = some (.int .i64 0) := HB2.out.cell 4
      have f0 := HB2.out.frozen 0
      have f1 := HB2.out.frozen 1
      have f2 := HB2.out.frozen 2
      have f3 := HB2.out.frozen 3
      have f4 := HB2.out.frozen 4
      go_wp2
      (try simp only [Exit.inBlock, Exit.then])
      refine bodyPost_ret (v := .tuple #[aggS sensorZ, .bool false]) ?_ rfl ⟨by rw [HR.out.1, HR.out.2], storeX (storeX (storeX (storeX (storeX HE2.out (Nat.le_refl _) _) (Nat.le_refl _) _) (Nat.le_refl _) _) (Nat.le_refl _) _) (Nat.le_refl _) _⟩
      rw [results_cell_tmp rfl]
      unfold aggS sensorZ
      go_simp
    obtain ⟨ns, HNS⟩ : ∃ ns, Hid (readV bb = ns) := ⟨_, hid rfl⟩
    rw [HNS.out] at ho2
    have hnl : ns.length ≤ maxLen := by rcases ho2.2 with ⟨_, hz⟩ | ⟨_, _, _, _, _, _, h1, h2, _⟩ <;> omega
    obtain ⟨_, _, A2, c2, rfl, hnc2, hcm2, hcell2⟩ := Sl.of_own ho2 hnl
    by_cases h4 : ns.length = 4
    rotate_left
    · have HR := hid (rd_no (specRd_c HP.out ho (by rw [HNS.out]; exact h4)))
      have h4i : ¬ (ns.length : Int) = 4 := by omega
      clear hcell2 ho2
      have e0 : w2.cell? ⟨w.heap.size, 0, none⟩ = some (.string ⟨#[]⟩) := HB2.out.cell 0
      have e1 : w2.cell? ⟨w.heap.size, 1, none⟩ = some (.int .i64 0) := HB2.out.cell 1
      have e2 : w2.cell? ⟨w.heap.size, 2, none⟩ = some (.int .i64 0) := HB2.out.cell 2
      have e3 : w2.cell? ⟨w.heap.size, 3, none⟩ = some (.int .i64 0) := HB2.out.cell 3
      have e4 : w2.cell? ⟨w.heap.size, 4, none⟩ = some (.int .i64 0) := HB2.out.cell 4
      have f0 := HB2.out.frozen 0
      have f1 := HB2.out.frozen 1
      have f2 := HB2.out.frozen 2
      have f3 := HB2.out.frozen 3
      have f4 := HB2.out.frozen 4
      go_wp2
      (try simp only [Exit.inBlock, Exit.then])
      refine bodyPost_ret (v := .tuple #[aggS sensorZ, .bool false]) ?_ rfl ⟨by rw [HR.out.1, HR.out.2], storeX (storeX (storeX (storeX (storeX HE2.out (Nat.le_refl _) _) (Nat.le_refl _) _) (Nat.le_refl _) _) (Nat.le_refl _) _) (Nat.le_refl _) _⟩
      rw [results_cell_tmp rfl]
      unfold aggS sensorZ
      go_simp
    obtain ⟨n0, n1, n2, n3, rfl⟩ := four_of h4
    obtain ⟨b2, o2, rfl, _, hb2', hc2⟩ := hcell2 (by simp)
    have q0 : w2.cell? ⟨b2, o2, none⟩ = some (.int .i64 n0) := cellsI hc2 0 (by simp)
    have q1 : w2.cell? ⟨b2, o2 + 1, none⟩ = some (.int .i64 n1) := cellsI hc2 1 (by simp)
    have q2 : w2.cell? ⟨b2, o2 + 2, none⟩ = some (.int .i64 n2) := cellsI hc2 2 (by simp)
    have q3 : w2.cell? ⟨b2, o2 + 3, none⟩ = some (.int .i64 n3) := cellsI hc2 3 (by simp)
    have p0 : w2.cell? ⟨b1, o1, none⟩ = some (.string ⟨a.toArray⟩) := HX2.out.1
    simp only [List.length_cons, List.length_nil] at hnc2 ⊢
    clear hcell2 hc2 ho2 h4 hnl
    have hb1'' : b1 < w2.heap.size := Nat.lt_of_lt_of_le hb1' hE2.size
    go_wp2_with fail
    go_region
    generalize hG : World.drew _ = w3
    have hE3 : Ext w2 w3 := by rw [← hG]; exact Ext.tr (Ext.new _ _) (Ext.drewN _ 1)
    have HL : Hid (Blk w3 w2.heap.size 26 #[.string ⟨a.toArray⟩, .int .i64 n0, .int .i64 n1, .int .i64 n2, .int .i64 n3]) := by
      refine hid ?_; rw [← hG]; exact Blk.new w2 26 #[.string ⟨a.toArray⟩, .int .i64 n0, .int .i64 n1, .int .i64 n2, .int .i64 n3]
    clear hG q0 q1 q2 q3 p0
    have HO := hid (sensorS w2.heap.size ⟨⟨a.toArray⟩, n0, n1, n2, n3⟩ w3 (by unfold maxLen; show (⟨a.toArray⟩ : ByteArray).size ≤ _; omega) (HL.out.cell 0) (HL.out.cell 1) (HL.out.cell 2) (HL.out.cell 3) (HL.out.cell 4))
    cases hb : sensorB ⟨⟨a.toArray⟩, n0, n1, n2, n3⟩
    · have HR := hid (rd_no (specRd_d HP.out ho HNS.out hb))
      rw [hb] at HO
      clear hb
      go_wp2_with fail
      refine HO.out.mono ?_
      rintro e w4 ⟨rfl, hE4⟩
      have HB3 := hid (HB2.out.ext (Ext.tr hE3 hE4))
      have HE3 := hid (Ext.tr HE2.out (Ext.tr hE3 hE4))
      have e0 : w4.cell? ⟨w.heap.size, 0, none⟩ = some (.string ⟨#[]⟩) := HB3.out.cell 0
      have e1 : w4.cell? ⟨w.heap.size, 1, none⟩ = some (.int .i64 0) := HB3.out.cell 1
      have e2 : w4.cell? ⟨w.heap.size, 2, none⟩ = some (.int .i64 0) := HB3.out.cell 2
      have e3 : w4.cell? ⟨w.heap.size, 3, none⟩ = some (.int .i64 0) := HB3.out.cell 3
      have e4 : w4.cell? ⟨w.heap.size, 4, none⟩ = some (.int .i64 0) := HB3.out.cell 4
      have f0 := HB3.out.frozen 0
      have f1 := HB3.out.frozen 1
      have f2 := HB3.out.frozen 2
      have f3 := HB3.out.frozen 3
      have f4 := HB3.out.frozen 4
      go_wp2
      (try simp only [Exit.inBlock, Exit.then])
      refine bodyPost_ret (v := .tuple #[aggS sensorZ, .bool false]) ?_ rfl ⟨by rw [HR.out.1, HR.out.2], storeX (storeX (storeX (storeX (storeX HE3.out (Nat.le_refl _) _) (Nat.le_refl _) _) (Nat.le_refl _) _) (Nat.le_refl _) _) (Nat.le_refl _) _⟩
      rw [results_cell_tmp rfl]
      unfold aggS sensorZ
      go_simp
    · have HR := hid (rd_yes (specRd_e HP.out ho HNS.out hb))
      rw [hb] at HO
      clear hb
      go_wp2_with fail
      refine HO.out.mono ?_
      rintro e w4 ⟨rfl, hE4⟩
      have HB3 := hid (HB2.out.ext (Ext.tr hE3 hE4))
      have HE3 := hid (Ext.tr HE2.out (Ext.tr hE3 hE4))
      have HL2 := hid (HL.out.ext hE4)
      have l0 : w4.cell? ⟨w2.heap.size, 0, none⟩ = some (.string ⟨a.toArray⟩) := HL2.out.cell 0
      have l1 : w4.cell? ⟨w2.heap.size, 1, none⟩ = some (.int .i64 n0) := HL2.out.cell 1
      have l2 : w4.cell? ⟨w2.heap.size, 2, none⟩ = some (.int .i64 n1) := HL2.out.cell 2
      have l3 : w4.cell? ⟨w2.heap.size, 3, none⟩ = some (.int .i64 n2) := HL2.out.cell 3
      have l4 : w4.cell? ⟨w2.heap.size, 4, none⟩ = some (.int .i64 n3) := HL2.out.cell 4
      have e0 : w4.cell? ⟨w.heap.size, 0, none⟩ = some (.string ⟨#[]⟩) := HB3.out.cell 0
      have e1 : w4.cell? ⟨w.heap.size, 1, none⟩ = some (.int .i64 0) := HB3.out.cell 1
      have e2 : w4.cell? ⟨w.heap.size, 2, none⟩ = some (.int .i64 0) := HB3.out.cell 2
      have e3 : w4.cell? ⟨w.heap.size, 3, none⟩ = some (.int .i64 0) := HB3.out.cell 3
      have e4 : w4.cell? ⟨w.heap.size, 4, none⟩ = some (.int .i64 0) := HB3.out.cell 4
      have f0 := HB3.out.frozen 0
      have f1 := HB3.out.frozen 1
      have f2 := HB3.out.frozen 2
      have f3 := HB3.out.frozen 3
      have f4 := HB3.out.frozen 4
      go_wp2
      (try simp only [Exit.inBlock, Exit.then])
      refine bodyPost_ret (v := .tuple #[aggS ⟨⟨a.toArray⟩, n0, n1, n2, n3⟩, .bool true]) ?_ rfl ⟨by rw [HR.out.1, HR.out.2], storeX (storeX (storeX (storeX (storeX HE3.out (Nat.le_refl _) _) (Nat.le_refl _) _) (Nat.le_refl _) _) (Nat.le_refl _) _) (Nat.le_refl _) _⟩
      rw [results_cell_tmp rfl]
      unfold aggS
      go_simp
set_option maxRecDepth 100000 in
theorem specReadSensor (s : ByteArray) (w : World) (hs : s.size ≤ 1048576) :
    Calls Tryd.prog 9 #[.string s] w fun e w' => e = .returned (.tuple #[aggS (rdX s.data.toList), .bool (rdO s.data.toList)]) ∧ Ext w w' := by
  obtain ⟨x, HX⟩ : ∃ x, Hid (rdX s.data.toList = x) := ⟨_, hid rfl⟩
  obtain ⟨o, HO⟩ : ∃ o, Hid (rdO s.data.toList = o) := ⟨_, hid rfl⟩
  have HL := hid (fun W => l24Read s W hs)
  rw [HX.out, HO.out] at HL
  rw [HX.out, HO.out]
  obtain ⟨x0, x1, x2, x3, x4⟩ := x
  unfold aggS at HL
  simp only at HL
  go_enter Tryd.func9, Tryd.ntmps9
  go_wp2_with fail
  generalize hG : World.alloc _ _ = wz
  have hE0 : Ext w wz := by rw [← hG]; exact Ext.new _ _
  have HB : Hid (Blk wz w.heap.size 26 #[.string ⟨#[]⟩, .int .i64 0, .int .i64 0, .int .i64 0, .int .i64 0]) := by
    refine hid ?_; rw [← hG]; exact Blk.new _ _ _
  clear hG
  refine (HL.out wz).mono ?_
  rintro e w1 ⟨rfl, hE1⟩
  have HB1 := hid (HB.out.ext hE1)
  have HE1 := hid (Ext.tr hE0 hE1)
  have e0 : w1.cell? ⟨w.heap.size, 0, none⟩ = some (.string ⟨#[]⟩) := HB1.out.cell 0
  have e1 : w1.cell? ⟨w.heap.size, 1, none⟩ = some (.int .i64 0) := HB1.out.cell 1
  have e2 : w1.cell? ⟨w.heap.size, 2, none⟩ = some (.int .i64 0) := HB1.out.cell 2
  have e3 : w1.cell? ⟨w.heap.size, 3, none⟩ = some (.int .i64 0) := HB1.out.cell 3
  have e4 : w1.cell? ⟨w.heap.size, 4, none⟩ = some (.int .i64 0) := HB1.out.cell 4
  have f0 := HB1.out.frozen 0
  have f1 := HB1.out.frozen 1
  have f2 := HB1.out.frozen 2
  have f3 := HB1.out.frozen 3
  have f4 := HB1.out.frozen 4
  go_wp2
  (try simp only [Exit.inBlock, Exit.then])
  refine bodyPost_ret (v := .tuple #[aggS ⟨x0, x1, x2, x3, x4⟩, .bool o]) ?_ rfl ⟨rfl, storeX (storeX (storeX (storeX (storeX HE1.out (Nat.le_refl _) _) (Nat.le_refl _) _) (Nat.le_refl _) _) (Nat.le_refl _) _) (Nat.le_refl _) _⟩
  rw [results_cell_tmp rfl]
  unfold aggS
  go_simp
end Go.Proofs.YtopjccbjdcoanaaDoor
