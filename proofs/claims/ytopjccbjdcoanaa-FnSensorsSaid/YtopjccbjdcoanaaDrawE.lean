/- The draws of the monitors' law: a sensor with a series, a series with a width, three series. -/
import Derived.Test.YtopjccbjdcoanaaDrawD
import Derived.Test.YtopjccbjdcoanaaMedS
import Derived.Laws.ResultCell
namespace Go.Proofs.Ytopjccbjdcoanaa
set_option linter.unusedVariables false
open Go.RowKit
theorem SrcTo.out {g n : Nat} {w w0 w' : World} (h : SrcTo g n w0 w') (hE : Ext w w0) (hg : w.heap.size ≤ g) : Ext w w' := h.2.ext hE hg
theorem row_st {w : World} {base e K n p i : Nat} {v : Value} {xs : List Value} (h : w.ownsRow base e K v n xs) (hp : p < base) (u : Value) : (w.setCell ⟨p, i, none⟩ u).ownsRow base e K v n xs :=
  row_keep h ((KeepI.refl p (p + 1) w).set_ (g := p) (m := i) (Nat.le_refl _) (Nat.lt_succ_self _) u) (by omega)
theorem store_extR {w W : World} {p i : Nat} (h : Ext w W) (hp : w.heap.size ≤ p) (u : Value) : Ext w (W.setCell ⟨p, i, none⟩ u) :=
  ((KeepI.refl w.heap.size (p + 1) W).set_ (g := p) (m := i) hp (by omega) u).ext h (Nat.le_refl _)
set_option maxRecDepth 100000 in
theorem drawMedianOf (bs : List Int) (lo hi : Nat) (v : Value) (w : World) (hv : Sl lo hi w 1 v bs.length (flat encB bs)) (hb : ∀ b ∈ bs, 0 ≤ b ∧ b ≤ 255) :
    Calls Try.prog 41 #[v] w fun e w' => (∃ (v' : Value) (xs : List Int) (wd : Int), e = .returned (.tuple #[v', .int .i64 wd]) ∧ xs.length ≤ 201 ∧ w'.ownsRow w.heap.size 2 1 v' xs.length (flat encI xs)) ∧ Ext w w' := by
  have HF := hid (l00From bs lo hi v w hv hb)
  clear hv
  go_enter Try.func41, Try.ntmps41
  go_wp2_with fail
  refine HF.out.mono ?_
  rintro e w0 ⟨rfl, hS0, hE0⟩
  have hg := hS0.lt
  have HS0 := hid hS0
  have HE0 := hid hE0
  clear hS0 hE0
  generalize hG : w.heap.size = G at *
  go_wp2_with fail
  refine (drawSeries G 0 w0 HS0.out (by omega)).mono ?_
  rintro e w1 ⟨⟨v1, xs, rfl, hx, hO⟩, hS⟩
  have HO := hid hO
  have HS := hid hS
  clear hO hS
  go_wp2_with fail
  refine (amongLit G (0 + 200) [1, 3, 5, 9, 2, 11, 0, 3] w0 w1 HS.out (by omega) (by simp) _ rfl _ rfl hg).mono ?_
  rintro e w2 ⟨⟨y, rfl, hy⟩, hS2, hK2⟩
  have HS2 := hid hS2
  have HO2 := hid (row_keep HO.out hK2 (by omega))
  clear hS2 hK2
  go_wp2
  go_ret2
  exact ⟨⟨_, xs, y, rfl, hx, row_low HO2.out (by omega)⟩, HS2.out.out HE0.out (by omega)⟩
set_option maxRecDepth 100000 in
set_option maxHeartbeats 1000000 in
theorem drawAlarmsOf (bs : List Int) (lo hi : Nat) (v : Value) (w : World) (hv : Sl lo hi w 1 v bs.length (flat encB bs)) (hb : ∀ b ∈ bs, 0 ≤ b ∧ b ≤ 255) :
    Calls Try.prog 39 #[v] w fun e w' => (∃ (v' : Value) (xs : List Int) (x : Sensor), e = .returned (.tuple #[sAgg x, v']) ∧ x.id.size ≤ 10 ∧ xs.length ≤ 201 ∧ w'.ownsRow w.heap.size 2 1 v' xs.length (flat encI xs)) ∧ Ext w w' := by
  obtain ⟨_, _, A, c, rfl, _, _, _⟩ := id hv
  go_enter Try.func39, Try.ntmps39
  go_wp2_with fail
  generalize hA : w.alloc _ = wa
  have HB0 := hid (show Blk wa w.heap.size 40 _ by rw [← hA]; exact Blk.new _ _ _)
  have HEa := hid (show Ext w wa by rw [← hA]; exact Ext.new _ _)
  have haz : wa.heap.size = w.heap.size + 1 := by rw [← hA]; simp
  have HF := hid (l00From bs lo hi _ wa (hv.ext HEa.out) hb)
  clear hA hv
  refine HF.out.mono ?_
  rintro e w0 ⟨rfl, hS0, hE0⟩
  have hg := hS0.lt
  have HS0 := hid hS0
  have HE0 := hid (Ext.tr HEa.out hE0)
  have HB1 := hid (HB0.out.ext hE0)
  clear hS0 hE0 HB0 HF HEa
  rw [haz] at HS0 hg ⊢
  clear haz
  generalize hG : w.heap.size + 1 = G at *
  go_wp2_with fail
  refine (drawOne G 0 ⟨#[103, 97, 115]⟩ w0 HS0.out (by omega)).mono ?_
  rintro e w1 ⟨⟨x, rfl, hxi, hxs⟩, hS⟩
  have HS := hid hS
  have HB2 := hid (HB1.out.keep hS.2 (.inl (by omega)))
  clear hS HB1
  go_wp2_with fail
  refine (bend G (0 + 8) x hxs w1 HS.out.1 (by omega)).mono ?_
  rintro e w2 ⟨⟨y, rfl, hyi, hys⟩, hS⟩
  have HS2 := hid (HS.out.tr hS)
  have HB3 := hid (HB2.out.keep hS.2 (.inl (by omega)))
  have HI : Hid (y.id.size ≤ 10) := hid (by rw [hyi, hxi]; decide)
  clear hS HB2 HS hyi hxi
  unfold sAgg
  go_wp2_with fail
  generalize hwb : w2.alloc _ = wb
  have HL := hid (show Blk wb w2.heap.size 40 #[.string y.id, .int .i64 y.junction, .int .i64 y.limit, .int .i64 y.delay, .int .i64 y.release] by rw [← hwb]; exact Blk.new _ _ _)
  have HS3 := hid (show SrcTo G (0 + 8 + 8) w0 wb by rw [← hwb]; exact HS2.out.ext (Ext.new _ _))
  have HB4 := hid (show Blk wb w.heap.size 40 _ by rw [← hwb]; exact HB3.out.ext (Ext.new _ _))
  have hz2 := HS2.out.size
  have hll := HL.out.lt
  have hbl := HB4.out.lt
  clear hwb HS2 HB3
  generalize hLe : w2.heap.size = L at *
  generalize hRe : w.heap.size = R at *
  have a0 : wb.cell? ⟨L, 0, none⟩ = some (.string y.id) := HL.out.cell 0
  have a1 : wb.cell? ⟨L, 1, none⟩ = some (.int .i64 y.junction) := HL.out.cell 1
  have a2 : wb.cell? ⟨L, 2, none⟩ = some (.int .i64 y.limit) := HL.out.cell 2
  have a3 : wb.cell? ⟨L, 3, none⟩ = some (.int .i64 y.delay) := HL.out.cell 3
  have a4 : wb.cell? ⟨L, 4, none⟩ = some (.int .i64 y.release) := HL.out.cell 4
  have hdr := hid (HS3.out.1.ext (Ext.drewN wb 1))
  go_region_law (first | (go_simp; go_at_call 63; refine (drawSeries G (0 + 8 + 8) _ hdr.out (by omega)).mono ?_; rintro e w6 ⟨⟨v6, xs, rfl, hx, hO6⟩, hS6⟩; have HL6 := hid ((HL.out.ext (Ext.drewN wb 1)).keep hS6.2 (.inr (by omega))); have HB6 := hid ((HB4.out.ext (Ext.drewN wb 1)).keep hS6.2 (.inl (by omega))); have HO6 : Hid (w6.ownsRow wb.heap.size 2 1 v6 xs.length (flat encI xs)) := hid hO6; have c0 : w6.cell? ⟨L, 0, none⟩ = some (.string y.id) := HL6.out.cell 0; have c1 : w6.cell? ⟨L, 1, none⟩ = some (.int .i64 y.junction) := HL6.out.cell 1; have c2 : w6.cell? ⟨L, 2, none⟩ = some (.int .i64 y.limit) := HL6.out.cell 2; have c3 : w6.cell? ⟨L, 3, none⟩ = some (.int .i64 y.delay) := HL6.out.cell 3; have c4 : w6.cell? ⟨L, 4, none⟩ = some (.int .i64 y.release) := HL6.out.cell 4; have b0 := HB6.out.cell 0; have b1 := HB6.out.cell 1; have b2 := HB6.out.cell 2; have b3 := HB6.out.cell 3; have b4 := HB6.out.cell 4; have f0 := HB6.out.frozen 0; have f1 := HB6.out.frozen 1; have f2 := HB6.out.frozen 2; have f3 := HB6.out.frozen 3; have f4 := HB6.out.frozen 4; have hrl := HB6.out.lt; simp at b0 b1 b2 b3 b4))
  all_goals
    have HS7 := hid ((HS3.out.ext (Ext.drewN wb 1)).tr hS6)
    have HE7 := hid (HS7.out.out HE0.out (by omega))
    clear hS6 hO6
    go_wp2
    (try simp only [Exit.inBlock, Exit.then])
    refine bodyPost_ret (v := .tuple #[sAgg y, v6]) ?_ rfl ⟨⟨v6, xs, y, rfl, HI.out, hx, row_low (row_st (row_st (row_st (row_st (row_st HO6.out (by omega) _) (by omega) _) (by omega) _) (by omega) _) (by omega) _) (by omega)⟩, store_extR (store_extR (store_extR (store_extR (store_extR HE7.out (by omega) _) (by omega) _) (by omega) _) (by omega) _) (by omega) _⟩
    rw [results_cell_tmp rfl]
    unfold sAgg
    go_simp
end Go.Proofs.Ytopjccbjdcoanaa
