/- Contracts of LeaveTime in both packages. -/
import Derived.Test.YtlilmopcikogpaaMFire
import Derived.Test.YtlilmopcikogpaaFlows
import Derived.IntWalk
namespace Go.Proofs.Ytlilmopcikogpaa
set_option linter.unusedVariables false
open Go.RowKit
theorem vi {k : IntKind} {a b : Int} (h : a = b) : Value.int k a = Value.int k b := by rw [h]
def absI (n : Int) : Int := if n < 0 then -n else n
theorem absI_bd {n : Int} (h : -100000 ≤ n ∧ n ≤ 100000) (h0 : n ≠ 0) : 1 ≤ absI n ∧ absI n ≤ 100000 := by unfold absI; split <;> omega
theorem l03Abs (n : Int) (w : World) (h : -100000 ≤ n ∧ n ≤ 100000) : Calls Try.prog 83 #[.int .i64 n] w fun e w' => e = .returned (.int .i64 (absI n)) ∧ w = w' := by
  obtain ⟨h1, h2⟩ := h
  go_enter Try.func83, Try.ntmps83
  go_wp2_with (go_at_call 102; refine (l00Max _ _ _).mono ?_; rintro e w' ⟨rfl, rfl⟩)
  go_ret
  exact ⟨ret_int (by go_tidy; unfold maxI absI; grind), rfl⟩
theorem absG (n : Int) (w : World) (h : -100000 ≤ n ∧ n ≤ 100000) : Calls Try.prog 87 #[.int .i64 n] w fun e w' => e = .returned (.int .i64 (absI n)) ∧ w = w' := by
  obtain ⟨h1, h2⟩ := h
  go_enter Try.func87, Try.ntmps87
  go_wp2
  all_goals (go_ret; refine ⟨ret_int ?_, rfl⟩; go_tidy; unfold absI; grind)
theorem divUp (a b : Int) (w : World) (ha : 0 ≤ a ∧ a ≤ 50000000) (hb : 1 ≤ b ∧ b ≤ 100000) : Calls Try.prog 86 #[.int .i64 a, .int .i64 b] w fun e w' => e = .returned (.int .i64 ((a + b - 1) / b)) ∧ w = w' := by
  obtain ⟨ha1, ha2⟩ := ha
  obtain ⟨hb1, hb2⟩ := hb
  have hd : 0 ≤ (a + b - 1) / b := Int.ediv_nonneg (by omega) (by omega)
  have hd2 : (a + b - 1) / b ≤ a + b - 1 := Int.ediv_le_self _ (by omega)
  have hb0 : ¬ b = 0 := by omega
  go_enter Try.func86, Try.ntmps86
  go_wp2
  go_ret
  exact ⟨rfl, rfl⟩
theorem orNotFound (a : Int) (b : Bool) (w : World) : Calls Try.prog 47 #[.int .i64 a, .bool b] w fun e w' => e = .returned (.tuple #[.int .i64 (if b then a else 0), .int .i64 (if b then 0 else 3)]) ∧ w = w' := by
  cases b
  · go_enter Try.func47, Try.ntmps47
    go_wp2
    go_ret2
    exact ⟨rfl, rfl⟩
  · go_enter Try.func47, Try.ntmps47
    go_wp2
    go_ret2
    exact ⟨rfl, rfl⟩
theorem ways (a : Airway) (q : Int) (w : World) : Calls Try.prog 85 #[.agg #[.string a.id, .int .i64 a.frm, .int .i64 a.tt, .int .i64 a.leng, .int .i64 a.sec, .int .i64 a.fric, .int .i64 a.shock], .int .i64 q] w fun e w' => e = .returned (.tuple #[.int .i64 (if q < 0 then a.tt else a.frm), .int .i64 (if q < 0 then a.frm else a.tt)]) ∧ Ext w w' := by
  by_cases h : q < 0
  · go_enter Try.func85, Try.ntmps85
    go_wp2
    go_quiet (fail)
    go_wp2
    go_ret2
    exact ⟨by simp, Ext.tr (Ext.new _ _) (Ext.drewN _ _)⟩
  · go_enter Try.func85, Try.ntmps85
    go_wp2
    go_quiet (fail)
    go_wp2
    go_ret2
    exact ⟨by simp, Ext.tr (Ext.new _ _) (Ext.drewN _ _)⟩
def wayI (a : Airway) (x : Fire) (q : Int) : Int := if 0 < q then a.leng - x.atp else x.atp
theorem way_bd {a : Airway} {x : Fire} {q : Int} (h0 : 0 ≤ x.atp) (h1 : x.atp ≤ a.leng) (h2 : a.leng ≤ 10000) (h3 : 50 ≤ a.sec) (h4 : a.sec ≤ 5000) : (0 ≤ wayI a x q ∧ wayI a x q ≤ 10000) ∧ (0 ≤ wayI a x q * a.sec ∧ wayI a x q * a.sec ≤ 50000000) := by
  have h : 0 ≤ wayI a x q ∧ wayI a x q ≤ 10000 := by unfold wayI; split <;> omega
  refine ⟨h, Int.mul_nonneg h.1 (by omega), ?_⟩
  have := Int.mul_le_mul h.2 h4 (by omega) (by omega)
  omega
def leaveI (a : Airway) (x : Fire) (q : Int) : Int := x.start + (wayI a x q * a.sec + absI q - 1) / absI q
def leaveR (a : Airway) (x : Fire) (q : Int) : Int := if q = 0 then 0 else leaveI a x q
def FireIn (ays : List Airway) (fs : List Int) (x : Fire) (i : Nat) : Prop := x.airway = (i : Int) ∧ ∃ (h : i < ays.length) (h2 : i < fs.length), (0 ≤ x.atp ∧ x.atp ≤ ays[i].leng) ∧ (0 ≤ x.start ∧ x.start ≤ 36000) ∧ ays[i].leng ≤ 10000 ∧ (50 ≤ ays[i].sec ∧ ays[i].sec ≤ 5000) ∧ (-100000 ≤ fs[i] ∧ fs[i] ≤ 100000)
set_option maxRecDepth 100000 in
set_option maxHeartbeats 1000000 in
theorem leaving (j : Int) (ays : List Airway) (fs : List Int) (x : Fire) (i : Nat) (A0 : Option Addr) (c0 lo hi lo2 hi2 : Nat) (v2 : Value) (w : World) (hv : Sl lo hi w 7 (.slice A0 ays.length c0) ays.length (flat Airway.enc ays)) (hv2 : Sl lo2 hi2 w 1 v2 fs.length (flat encI fs)) (hF : FireIn ays fs x i) (h1 : i < ays.length) (h2 : i < fs.length) :
    Calls Try.prog 46 #[.agg #[.int .i64 j, .slice A0 ays.length c0], v2, .agg #[.int .i64 x.airway, .int .i64 x.atp, .int .i64 x.start]] w fun e w' => (∃ en : Int, e = .returned (.tuple #[.int .i64 (leaveR ays[i] x fs[i]), .int .i64 en])) ∧ Ext w w' := by
  obtain ⟨hi0, _, _, ⟨p0, p1⟩, ⟨t0, t1⟩, l1, ⟨s0, s1⟩, ⟨q0, q1⟩⟩ := hF
  obtain ⟨hhi, _, A, c, hA, hnc, hcm, hcell⟩ := hv
  simp only [Value.slice.injEq] at hA
  obtain ⟨rfl, _, rfl⟩ := hA
  obtain ⟨hhi2, _, A2, c2, rfl, hnc2, hcm2, hcell2⟩ := hv2
  obtain ⟨b, off, rfl, hb1, hb2, hc⟩ := hcell (by omega)
  obtain ⟨b2, off2, rfl, hb21, hb22, hc2⟩ := hcell2 (by omega)
  have hbw : b < w.heap.size := by omega
  have hb2w : b2 < w.heap.size := by omega
  have d0 := cellsI hc2 i h2
  obtain ⟨e0, e1, e2, e3, e4, e5, e6⟩ := Airway.cells hc i h1
  have h1i : (i : Int) < ays.length := by omega
  have h2i : (i : Int) < fs.length := by omega
  rw [hi0]
  clear hc hc2 hi0
  by_cases hq : fs[i] = 0
  · have HQ := hid (show leaveR ays[i] x fs[i] = 0 by unfold leaveR; rw [if_pos hq])
    have hqb : (fs[i] == 0) = true := by simpa using hq
    clear hq
    go_enter Try.func46, Try.ntmps46
    go_wp2
    generalize hG : World.alloc _ _ = wz
    have hE1 : Ext w wz := by rw [← hG]; exact Ext.tr (Ext.new _ _) (Ext.new _ _)
    have B0 : Blk wz w.heap.size 31 #[.int .i64 j, .slice (some ⟨b, off, none⟩) ays.length c0] := by rw [← hG]; exact (Blk.new _ _ _).ext (Ext.new _ _)
    have B1 : Blk wz (w.heap.size + 1) 33 #[.int .i64 (i : Int), .int .i64 x.atp, .int .i64 x.start] := by
      rw [← hG]
      have h1 := Blk.new (w.alloc (.cells #[.int .i64 j, .slice (some ⟨b, off, none⟩) ays.length c0] 31)) 33 #[.int .i64 (i : Int), .int .i64 x.atp, .int .i64 x.start]
      simpa using h1
    have m0 : ∀ W, Ext wz W → W.cell? ⟨w.heap.size, 0, none⟩ = some (.int .i64 j) := fun W hW => (B0.ext hW).cell 0
    have m1 : ∀ W, Ext wz W → W.cell? ⟨w.heap.size, 1, none⟩ = some (.slice (some ⟨b, off, none⟩) ays.length c0) := fun W hW => (B0.ext hW).cell 1
    have f0 : ∀ W, Ext wz W → W.cell? ⟨w.heap.size + 1, 0, none⟩ = some (.int .i64 (i : Int)) := fun W hW => (B1.ext hW).cell 0
    have f1 : ∀ W, Ext wz W → W.cell? ⟨w.heap.size + 1, 1, none⟩ = some (.int .i64 x.atp) := fun W hW => (B1.ext hW).cell 1
    have f2 : ∀ W, Ext wz W → W.cell? ⟨w.heap.size + 1, 2, none⟩ = some (.int .i64 x.start) := fun W hW => (B1.ext hW).cell 2
    have a0 : ∀ W, Ext wz W → W.cell? ⟨b, off + i * 7, none⟩ = some (.string ays[i].id) := fun W hW => ((bcell (Ext.tr hE1 hW)).1 _ _ hbw).trans e0
    have a1 : ∀ W, Ext wz W → W.cell? ⟨b, off + i * 7 + 1, none⟩ = some (.int .i64 ays[i].frm) := fun W hW => ((bcell (Ext.tr hE1 hW)).1 _ _ hbw).trans e1
    have a2 : ∀ W, Ext wz W → W.cell? ⟨b, off + i * 7 + 2, none⟩ = some (.int .i64 ays[i].tt) := fun W hW => ((bcell (Ext.tr hE1 hW)).1 _ _ hbw).trans e2
    have a3 : ∀ W, Ext wz W → W.cell? ⟨b, off + i * 7 + 3, none⟩ = some (.int .i64 ays[i].leng) := fun W hW => ((bcell (Ext.tr hE1 hW)).1 _ _ hbw).trans e3
    have a4 : ∀ W, Ext wz W → W.cell? ⟨b, off + i * 7 + 4, none⟩ = some (.int .i64 ays[i].sec) := fun W hW => ((bcell (Ext.tr hE1 hW)).1 _ _ hbw).trans e4
    have a5 : ∀ W, Ext wz W → W.cell? ⟨b, off + i * 7 + 5, none⟩ = some (.int .i64 ays[i].fric) := fun W hW => ((bcell (Ext.tr hE1 hW)).1 _ _ hbw).trans e5
    have a6 : ∀ W, Ext wz W → W.cell? ⟨b, off + i * 7 + 6, none⟩ = some (.int .i64 ays[i].shock) := fun W hW => ((bcell (Ext.tr hE1 hW)).1 _ _ hbw).trans e6
    have g0 : ∀ W, Ext wz W → W.cell? ⟨b2, off2 + i, none⟩ = some (.int .i64 fs[i]) := fun W hW => ((bcell (Ext.tr hE1 hW)).1 _ _ hb2w).trans d0
    clear hG e0 e1 e2 e3 e4 e5 e6 d0
    have hzz : Ext wz wz := Below.refl _ _
    go_region_held3 (fun W => Ext wz W) (first | assumption | exact Ext.drewN _ 1 | (go_tidy; go_grown)) (fail)
    go_wp2
    go_ret2
    exact ⟨⟨_, by rw [HQ.out]; rfl⟩, Ext.tr hE1 (Ext.tr (Ext.drewN _ 1) (Ext.new _ _))⟩
  obtain ⟨b0, b1⟩ := absI_bd ⟨q0, q1⟩ hq
  obtain ⟨⟨v0, v1⟩, u0, u1⟩ := way_bd (a := ays[i]) (x := x) (q := fs[i]) p0 p1 l1 s0 s1
  have hqb : (fs[i] == 0) = false := by simpa using hq
  have dd0 : 0 ≤ (wayI ays[i] x fs[i] * ays[i].sec + absI fs[i] - 1) / absI fs[i] := Int.ediv_nonneg (by omega) (by omega)
  have dd1 : (wayI ays[i] x fs[i] * ays[i].sec + absI fs[i] - 1) / absI fs[i] ≤ wayI ays[i] x fs[i] * ays[i].sec + absI fs[i] - 1 := Int.ediv_le_self _ (by omega)
  by_cases hl : fs[i] < 0
  · have hw : wayI ays[i] x fs[i] = x.atp := by unfold wayI; rw [if_neg (by omega)]
    rw [hw] at u0 u1 dd0 dd1
    have HQ := hid (show leaveR ays[i] x fs[i] = x.start + (x.atp * ays[i].sec + absI fs[i] - 1) / absI fs[i] by unfold leaveR; rw [if_neg hq]; unfold leaveI; rw [hw])
    clear hq hw
    go_enter Try.func46, Try.ntmps46
    go_wp2
    generalize hG : World.alloc _ _ = wz
    have hE1 : Ext w wz := by rw [← hG]; exact Ext.tr (Ext.new _ _) (Ext.new _ _)
    have B0 : Blk wz w.heap.size 31 #[.int .i64 j, .slice (some ⟨b, off, none⟩) ays.length c0] := by rw [← hG]; exact (Blk.new _ _ _).ext (Ext.new _ _)
    have B1 : Blk wz (w.heap.size + 1) 33 #[.int .i64 (i : Int), .int .i64 x.atp, .int .i64 x.start] := by
      rw [← hG]
      have h1 := Blk.new (w.alloc (.cells #[.int .i64 j, .slice (some ⟨b, off, none⟩) ays.length c0] 31)) 33 #[.int .i64 (i : Int), .int .i64 x.atp, .int .i64 x.start]
      simpa using h1
    have m0 : ∀ W, Ext wz W → W.cell? ⟨w.heap.size, 0, none⟩ = some (.int .i64 j) := fun W hW => (B0.ext hW).cell 0
    have m1 : ∀ W, Ext wz W → W.cell? ⟨w.heap.size, 1, none⟩ = some (.slice (some ⟨b, off, none⟩) ays.length c0) := fun W hW => (B0.ext hW).cell 1
    have f0 : ∀ W, Ext wz W → W.cell? ⟨w.heap.size + 1, 0, none⟩ = some (.int .i64 (i : Int)) := fun W hW => (B1.ext hW).cell 0
    have f1 : ∀ W, Ext wz W → W.cell? ⟨w.heap.size + 1, 1, none⟩ = some (.int .i64 x.atp) := fun W hW => (B1.ext hW).cell 1
    have f2 : ∀ W, Ext wz W → W.cell? ⟨w.heap.size + 1, 2, none⟩ = some (.int .i64 x.start) := fun W hW => (B1.ext hW).cell 2
    have a0 : ∀ W, Ext wz W → W.cell? ⟨b, off + i * 7, none⟩ = some (.string ays[i].id) := fun W hW => ((bcell (Ext.tr hE1 hW)).1 _ _ hbw).trans e0
    have a1 : ∀ W, Ext wz W → W.cell? ⟨b, off + i * 7 + 1, none⟩ = some (.int .i64 ays[i].frm) := fun W hW => ((bcell (Ext.tr hE1 hW)).1 _ _ hbw).trans e1
    have a2 : ∀ W, Ext wz W → W.cell? ⟨b, off + i * 7 + 2, none⟩ = some (.int .i64 ays[i].tt) := fun W hW => ((bcell (Ext.tr hE1 hW)).1 _ _ hbw).trans e2
    have a3 : ∀ W, Ext wz W → W.cell? ⟨b, off + i * 7 + 3, none⟩ = some (.int .i64 ays[i].leng) := fun W hW => ((bcell (Ext.tr hE1 hW)).1 _ _ hbw).trans e3
    have a4 : ∀ W, Ext wz W → W.cell? ⟨b, off + i * 7 + 4, none⟩ = some (.int .i64 ays[i].sec) := fun W hW => ((bcell (Ext.tr hE1 hW)).1 _ _ hbw).trans e4
    have a5 : ∀ W, Ext wz W → W.cell? ⟨b, off + i * 7 + 5, none⟩ = some (.int .i64 ays[i].fric) := fun W hW => ((bcell (Ext.tr hE1 hW)).1 _ _ hbw).trans e5
    have a6 : ∀ W, Ext wz W → W.cell? ⟨b, off + i * 7 + 6, none⟩ = some (.int .i64 ays[i].shock) := fun W hW => ((bcell (Ext.tr hE1 hW)).1 _ _ hbw).trans e6
    have g0 : ∀ W, Ext wz W → W.cell? ⟨b2, off2 + i, none⟩ = some (.int .i64 fs[i]) := fun W hW => ((bcell (Ext.tr hE1 hW)).1 _ _ hb2w).trans d0
    clear hG e0 e1 e2 e3 e4 e5 e6 d0
    have hzz : Ext wz wz := Below.refl _ _
    go_region_held3 (fun W => Ext wz W) (first | assumption | exact Ext.drewN _ 1 | (go_tidy; go_grown)) (fail)
    go_wp2_with (go_at_call 85; refine (ways ays[i] fs[i] _).mono ?_; rintro e w5 ⟨rfl, hE5⟩)
    have hE6 : Ext wz w5 := Ext.tr (Ext.tr (Ext.drewN _ 1) (Ext.new _ _)) hE5
    have k2 := f2 w5 hE6
    have k4 : w5.cell? ⟨wz.heap.size, 4, none⟩ = some (.int .i64 ays[i].sec) := (hE5.cell (p := ⟨wz.heap.size, 4, none⟩) (by simp)).trans (by go_simp)
    clear m0 m1 f0 f1 f2 a0 a1 a2 a3 a4 a5 a6 g0
    have w1 : IntKind.i64.wrap (x.atp * ays[i].sec) = x.atp * ays[i].sec := IntWalk.i64_in _ (by omega)
    have w2 : IntKind.i64.wrap (x.start + (x.atp * ays[i].sec + absI fs[i] - 1) / absI fs[i]) = x.start + (x.atp * ays[i].sec + absI fs[i] - 1) / absI fs[i] := IntWalk.i64_in _ (by omega)
    go_quiet ((first | (go_at_call 87; exact Calls.quiet_of_same (qs (absG _ _ ⟨q0, q1⟩))) | (go_at_call 86; exact Calls.quiet_of_same (qs (divUp _ _ _ ⟨u0, u1⟩ ⟨b0, b1⟩)))))
    go_wp2
    go_ret2
    exact ⟨⟨_, by rw [HQ.out]; rfl⟩, Ext.tr (Ext.tr hE1 hE6) (Ext.drewN _ _)⟩
  · have hw : wayI ays[i] x fs[i] = ays[i].leng - x.atp := by unfold wayI; rw [if_pos (by omega)]
    rw [hw] at u0 u1 dd0 dd1
    have HQ := hid (show leaveR ays[i] x fs[i] = x.start + ((ays[i].leng - x.atp) * ays[i].sec + absI fs[i] - 1) / absI fs[i] by unfold leaveR; rw [if_neg hq]; unfold leaveI; rw [hw])
    clear hq hw
    go_enter Try.func46, Try.ntmps46
    go_wp2
    generalize hG : World.alloc _ _ = wz
    have hE1 : Ext w wz := by rw [← hG]; exact Ext.tr (Ext.new _ _) (Ext.new _ _)
    have B0 : Blk wz w.heap.size 31 #[.int .i64 j, .slice (some ⟨b, off, none⟩) ays.length c0] := by rw [← hG]; exact (Blk.new _ _ _).ext (Ext.new _ _)
    have B1 : Blk wz (w.heap.size + 1) 33 #[.int .i64 (i : Int), .int .i64 x.atp, .int .i64 x.start] := by
      rw [← hG]
      have h1 := Blk.new (w.alloc (.cells #[.int .i64 j, .slice (some ⟨b, off, none⟩) ays.length c0] 31)) 33 #[.int .i64 (i : Int), .int .i64 x.atp, .int .i64 x.start]
      simpa using h1
    have m0 : ∀ W, Ext wz W → W.cell? ⟨w.heap.size, 0, none⟩ = some (.int .i64 j) := fun W hW => (B0.ext hW).cell 0
    have m1 : ∀ W, Ext wz W → W.cell? ⟨w.heap.size, 1, none⟩ = some (.slice (some ⟨b, off, none⟩) ays.length c0) := fun W hW => (B0.ext hW).cell 1
    have f0 : ∀ W, Ext wz W → W.cell? ⟨w.heap.size + 1, 0, none⟩ = some (.int .i64 (i : Int)) := fun W hW => (B1.ext hW).cell 0
    have f1 : ∀ W, Ext wz W → W.cell? ⟨w.heap.size + 1, 1, none⟩ = some (.int .i64 x.atp) := fun W hW => (B1.ext hW).cell 1
    have f2 : ∀ W, Ext wz W → W.cell? ⟨w.heap.size + 1, 2, none⟩ = some (.int .i64 x.start) := fun W hW => (B1.ext hW).cell 2
    have a0 : ∀ W, Ext wz W → W.cell? ⟨b, off + i * 7, none⟩ = some (.string ays[i].id) := fun W hW => ((bcell (Ext.tr hE1 hW)).1 _ _ hbw).trans e0
    have a1 : ∀ W, Ext wz W → W.cell? ⟨b, off + i * 7 + 1, none⟩ = some (.int .i64 ays[i].frm) := fun W hW => ((bcell (Ext.tr hE1 hW)).1 _ _ hbw).trans e1
    have a2 : ∀ W, Ext wz W → W.cell? ⟨b, off + i * 7 + 2, none⟩ = some (.int .i64 ays[i].tt) := fun W hW => ((bcell (Ext.tr hE1 hW)).1 _ _ hbw).trans e2
    have a3 : ∀ W, Ext wz W → W.cell? ⟨b, off + i * 7 + 3, none⟩ = some (.int .i64 ays[i].leng) := fun W hW => ((bcell (Ext.tr hE1 hW)).1 _ _ hbw).trans e3
    have a4 : ∀ W, Ext wz W → W.cell? ⟨b, off + i * 7 + 4, none⟩ = some (.int .i64 ays[i].sec) := fun W hW => ((bcell (Ext.tr hE1 hW)).1 _ _ hbw).trans e4
    have a5 : ∀ W, Ext wz W → W.cell? ⟨b, off + i * 7 + 5, none⟩ = some (.int .i64 ays[i].fric) := fun W hW => ((bcell (Ext.tr hE1 hW)).1 _ _ hbw).trans e5
    have a6 : ∀ W, Ext wz W → W.cell? ⟨b, off + i * 7 + 6, none⟩ = some (.int .i64 ays[i].shock) := fun W hW => ((bcell (Ext.tr hE1 hW)).1 _ _ hbw).trans e6
    have g0 : ∀ W, Ext wz W → W.cell? ⟨b2, off2 + i, none⟩ = some (.int .i64 fs[i]) := fun W hW => ((bcell (Ext.tr hE1 hW)).1 _ _ hb2w).trans d0
    clear hG e0 e1 e2 e3 e4 e5 e6 d0
    have hzz : Ext wz wz := Below.refl _ _
    go_region_held3 (fun W => Ext wz W) (first | assumption | exact Ext.drewN _ 1 | (go_tidy; go_grown)) (fail)
    go_wp2_with (go_at_call 85; refine (ways ays[i] fs[i] _).mono ?_; rintro e w5 ⟨rfl, hE5⟩)
    have hE6 : Ext wz w5 := Ext.tr (Ext.tr (Ext.drewN _ 1) (Ext.new _ _)) hE5
    have k2 := f2 w5 hE6
    have k4 : w5.cell? ⟨wz.heap.size, 4, none⟩ = some (.int .i64 ays[i].sec) := (hE5.cell (p := ⟨wz.heap.size, 4, none⟩) (by simp)).trans (by go_simp)
    clear m0 m1 f0 f1 f2 a0 a1 a2 a3 a4 a5 a6 g0
    have w1 : IntKind.i64.wrap ((ays[i].leng - x.atp) * ays[i].sec) = (ays[i].leng - x.atp) * ays[i].sec := IntWalk.i64_in _ (by omega)
    have w2 : IntKind.i64.wrap (x.start + ((ays[i].leng - x.atp) * ays[i].sec + absI fs[i] - 1) / absI fs[i]) = x.start + ((ays[i].leng - x.atp) * ays[i].sec + absI fs[i] - 1) / absI fs[i] := IntWalk.i64_in _ (by omega)
    go_quiet ((first | (go_at_call 87; exact Calls.quiet_of_same (qs (absG _ _ ⟨q0, q1⟩))) | (go_at_call 86; exact Calls.quiet_of_same (qs (divUp _ _ _ ⟨u0, u1⟩ ⟨b0, b1⟩)))))
    go_wp2
    go_ret2
    exact ⟨⟨_, by rw [HQ.out]; rfl⟩, Ext.tr (Ext.tr hE1 hE6) (Ext.drewN _ _)⟩
set_option maxRecDepth 100000 in
set_option maxHeartbeats 1000000 in
theorem l17Leave (j : Int) (ays : List Airway) (fs : List Int) (x : Fire) (i : Nat) (A0 : Option Addr) (c0 bm om bf of lo hi lo2 hi2 : Nat) (v2 : Value) (w : World) (hm : MineAt w bm om j (.slice A0 ays.length c0)) (hx : Fire.At w bf of x) (hv : Sl lo hi w 7 (.slice A0 ays.length c0) ays.length (flat Airway.enc ays)) (hv2 : Sl lo2 hi2 w 1 v2 fs.length (flat encI fs)) (hF : FireIn ays fs x i) (h1 : i < ays.length) (h2 : i < fs.length) (hq : fs[i] ≠ 0) :
    Calls Try.prog 44 #[.pointer (some ⟨bm, om, none⟩), v2, .pointer (some ⟨bf, of, none⟩)] w fun e w' => e = .returned (.int .i64 (leaveI ays[i] x fs[i])) ∧ Ext w w' := by
  obtain ⟨hi0, _, _, ⟨p0, p1⟩, ⟨t0, t1⟩, l1, ⟨s0, s1⟩, ⟨q0, q1⟩⟩ := hF
  obtain ⟨m0, m1⟩ := hm
  obtain ⟨f0, f1, f2⟩ := hx
  rw [hi0] at f0
  obtain ⟨hhi, _, A, c, hA, hnc, hcm, hcell⟩ := hv
  simp only [Value.slice.injEq] at hA
  obtain ⟨rfl, _, rfl⟩ := hA
  obtain ⟨hhi2, _, A2, c2, rfl, hnc2, hcm2, hcell2⟩ := hv2
  obtain ⟨b, off, rfl, hb1, hb2, hc⟩ := hcell (by omega)
  obtain ⟨b2, off2, rfl, hb21, hb22, hc2⟩ := hcell2 (by omega)
  have d0 := cellsI hc2 i h2
  obtain ⟨e0, e1, e2, e3, e4, e5, e6⟩ := Airway.cells hc i h1
  have h1i : (i : Int) < ays.length := by omega
  have h2i : (i : Int) < fs.length := by omega
  obtain ⟨b0, b1⟩ := absI_bd ⟨q0, q1⟩ hq
  obtain ⟨⟨v0, v1⟩, u0, u1⟩ := way_bd (a := ays[i]) (x := x) (q := fs[i]) p0 p1 l1 s0 s1
  have dd0 : 0 ≤ (wayI ays[i] x fs[i] * ays[i].sec + absI fs[i] - 1) / absI fs[i] := Int.ediv_nonneg (by omega) (by omega)
  have dd1 : (wayI ays[i] x fs[i] * ays[i].sec + absI fs[i] - 1) / absI fs[i] ≤ wayI ays[i] x fs[i] * ays[i].sec + absI fs[i] - 1 := Int.ediv_le_self _ (by omega)
  obtain ⟨r, hr⟩ : ∃ r, absI fs[i] = r := ⟨_, rfl⟩
  rw [hr] at b0 b1 dd0 dd1
  have HR := hid hr
  clear hc hc2 hi0 hr
  by_cases hl : fs[i] < 0
  · have hw : wayI ays[i] x fs[i] = x.atp := by unfold wayI; rw [if_neg (by omega)]
    rw [hw] at u0 u1 dd0 dd1
    have HQ := hid (show leaveI ays[i] x fs[i] = x.start + (x.atp * ays[i].sec + r - 1) / r by unfold leaveI; rw [hw, HR.out])
    have hqg : decide (0 < fs[i]) = false := by simp; omega
    have hab0 : ¬ r = 0 := by omega
    clear hq hw
    go_enter Try.func44, Try.ntmps44
    go_wp2
    go_quiet (fail)
    go_wp2_with (go_at_call 83; refine (cv (l03Abs _ _ ⟨q0, q1⟩) (vi HR.out)).mono ?_; rintro e w' ⟨rfl, rfl⟩)
    have w1 : IntKind.i64.wrap (x.atp * ays[i].sec) = x.atp * ays[i].sec := IntWalk.i64_in _ (by omega)
    have w2 : IntKind.i64.wrap (x.atp * ays[i].sec + r) = x.atp * ays[i].sec + r := IntWalk.i64_in _ (by omega)
    have w3 : IntKind.i64.wrap (x.atp * ays[i].sec + r - 1) = x.atp * ays[i].sec + r - 1 := IntWalk.i64_in _ (by omega)
    have w4 : (x.atp * ays[i].sec + r - 1).tdiv (r) = (x.atp * ays[i].sec + r - 1) / r := Int.tdiv_eq_ediv_of_nonneg (by omega)
    have w6 : IntKind.i64.wrap ((x.atp * ays[i].sec + r - 1) / r) = (x.atp * ays[i].sec + r - 1) / r := IntWalk.i64_in _ (by omega)
    have w5 : IntKind.i64.wrap (x.start + (x.atp * ays[i].sec + r - 1) / r) = x.start + (x.atp * ays[i].sec + r - 1) / r := IntWalk.i64_in _ (by omega)
    go_quiet (fail)
    go_wp2
    go_ret
    exact ⟨ret_int HQ.out.symm, by first | exact Ext.drewN _ _ | exact Ext.tr (Ext.drewN _ _) (Ext.drewN _ _) | (go_tidy; go_grown)⟩
  · have hw : wayI ays[i] x fs[i] = (ays[i].leng - x.atp) := by unfold wayI; rw [if_pos (by omega)]
    rw [hw] at u0 u1 dd0 dd1
    have HQ := hid (show leaveI ays[i] x fs[i] = x.start + ((ays[i].leng - x.atp) * ays[i].sec + r - 1) / r by unfold leaveI; rw [hw, HR.out])
    have hqg : decide (0 < fs[i]) = true := by simp; omega
    have hab0 : ¬ r = 0 := by omega
    clear hq hw
    go_enter Try.func44, Try.ntmps44
    go_wp2
    go_quiet (fail)
    go_wp2
    have w0 : IntKind.i64.wrap (ays[i].leng - x.atp) = ays[i].leng - x.atp := IntWalk.i64_in _ (by omega)
    go_quiet (fail)
    clear w0
    go_wp2_with (go_at_call 83; refine (cv (l03Abs _ _ ⟨q0, q1⟩) (vi HR.out)).mono ?_; rintro e w' ⟨rfl, rfl⟩)
    have w1 : IntKind.i64.wrap ((ays[i].leng - x.atp) * ays[i].sec) = (ays[i].leng - x.atp) * ays[i].sec := IntWalk.i64_in _ (by omega)
    have w2 : IntKind.i64.wrap ((ays[i].leng - x.atp) * ays[i].sec + r) = (ays[i].leng - x.atp) * ays[i].sec + r := IntWalk.i64_in _ (by omega)
    have w3 : IntKind.i64.wrap ((ays[i].leng - x.atp) * ays[i].sec + r - 1) = (ays[i].leng - x.atp) * ays[i].sec + r - 1 := IntWalk.i64_in _ (by omega)
    have w4 : ((ays[i].leng - x.atp) * ays[i].sec + r - 1).tdiv (r) = ((ays[i].leng - x.atp) * ays[i].sec + r - 1) / r := Int.tdiv_eq_ediv_of_nonneg (by omega)
    have w6 : IntKind.i64.wrap (((ays[i].leng - x.atp) * ays[i].sec + r - 1) / r) = ((ays[i].leng - x.atp) * ays[i].sec + r - 1) / r := IntWalk.i64_in _ (by omega)
    have w5 : IntKind.i64.wrap (x.start + ((ays[i].leng - x.atp) * ays[i].sec + r - 1) / r) = x.start + ((ays[i].leng - x.atp) * ays[i].sec + r - 1) / r := IntWalk.i64_in _ (by omega)
    go_quiet (fail)
    go_wp2
    go_ret
    exact ⟨ret_int HQ.out.symm, by first | exact Ext.drewN _ _ | exact Ext.tr (Ext.drewN _ _) (Ext.drewN _ _) | (go_tidy; go_grown)⟩
end Go.Proofs.Ytlilmopcikogpaa
