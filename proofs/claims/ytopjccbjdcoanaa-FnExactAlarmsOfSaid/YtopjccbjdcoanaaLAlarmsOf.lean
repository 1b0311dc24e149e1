/- The walk of the law FnExactAlarmsOf: it returns true; nothing that was there has turned. -/
import Derived.Test.YtopjccbjdcoanaaAlo
import Derived.Test.YtopjccbjdcoanaaXSensor
import Derived.Test.YtopjccbjdcoanaaXSS
namespace Go.Proofs.Ytopjccbjdcoanaa
set_option linter.unusedVariables false
open Go.RowKit
set_option maxRecDepth 100000 in
set_option maxHeartbeats 1000000 in
theorem lawAlarmsOf (w : World) (aX : Sensor) (hs_aX : aX.id.size ≤ maxLen) (aSeries : List Int) (v_aSeries : Value) (hv_aSeries : Sl 0 w.heap.size w 1 v_aSeries aSeries.length (flat encI aSeries)) :
    Calls Try.prog 4 #[.agg #[.string aX.id, .int .i64 aX.junction, .int .i64 aX.limit, .int .i64 aX.delay, .int .i64 aX.release], v_aSeries] w fun e w' => e = .returned (.bool true) ∧ Ext w w' := by
  go_enter Try.func4, Try.ntmps4
  have hT : Ext w w := Below.refl _ _
  have hv0 := hv_aSeries
  obtain ⟨_, _, A_aSeries, c_aSeries, rfl, _, _, _⟩ := hv0
  by_cases hg_aSeries : aSeries.length > 1048576
  · go_wp2
    go_ret
    exact ⟨rfl, by first | exact hT | (go_tidy; go_grown)⟩
  have hn_aSeries : aSeries.length ≤ 1048576 := by omega
  go_wp2_with fail
  generalize hG : (w.alloc _) = wz
  replace hT : Ext w wz := by rw [← hG]; exact Ext.new _ _
  have zz : w.heap.size + 1 ≤ wz.heap.size := by rw [← hG]; simp
  have bz0 : Blk wz (w.heap.size) 42 #[.string aX.id, .int .i64 aX.junction, .int .i64 aX.limit, .int .i64 aX.delay, .int .i64 aX.release] := by
    rw [← hG]
    have h1 := Blk.new w 42 #[.string aX.id, .int .i64 aX.junction, .int .i64 aX.limit, .int .i64 aX.delay, .int .i64 aX.release]
    simpa using h1
  clear hG
  have qbz0_0 : wz.cell? ⟨w.heap.size, 0, none⟩ = some (.string aX.id) := bz0.cell 0
  have qbz0_1 : wz.cell? ⟨w.heap.size, 1, none⟩ = some (.int .i64 aX.junction) := bz0.cell 1
  have qbz0_2 : wz.cell? ⟨w.heap.size, 2, none⟩ = some (.int .i64 aX.limit) := bz0.cell 2
  have qbz0_3 : wz.cell? ⟨w.heap.size, 3, none⟩ = some (.int .i64 aX.delay) := bz0.cell 3
  have qbz0_4 : wz.cell? ⟨w.heap.size, 4, none⟩ = some (.int .i64 aX.release) := bz0.cell 4
  refine (szSensor aX 1048576 _ hs_aX ⟨by omega, by omega⟩).mono ?_
  rintro e w1 ⟨rfl, hE1⟩
  have z1 : wz.heap.size ≤ w1.heap.size := hE1.size
  replace hT := Ext.tr hT hE1
  clear qbz0_0 qbz0_1 qbz0_2 qbz0_3 qbz0_4
  replace bz0 := bz0.ext hE1
  have qbz0_0 : w1.cell? ⟨w.heap.size, 0, none⟩ = some (.string aX.id) := bz0.cell 0
  have qbz0_1 : w1.cell? ⟨w.heap.size, 1, none⟩ = some (.int .i64 aX.junction) := bz0.cell 1
  have qbz0_2 : w1.cell? ⟨w.heap.size, 2, none⟩ = some (.int .i64 aX.limit) := bz0.cell 2
  have qbz0_3 : w1.cell? ⟨w.heap.size, 3, none⟩ = some (.int .i64 aX.delay) := bz0.cell 3
  have qbz0_4 : w1.cell? ⟨w.heap.size, 4, none⟩ = some (.int .i64 aX.release) := bz0.cell 4
  clear hE1
  by_cases hn1 : szF (1048576) aX.id.size < 0
  · go_wp2
    go_ret
    exact ⟨rfl, hT⟩
  have hr1 := szF_bd _ _ hn1
  obtain ⟨hr1e, hr1b⟩ := hr1
  rw [hr1e]
  clear hr1e hn1
  go_wp2_with fail
  refine (toSensor aX _).mono ?_
  rintro e w2 ⟨rfl, hE2⟩
  have z2 : w1.heap.size ≤ w2.heap.size := hE2.size
  replace hT := Ext.tr hT hE2
  clear qbz0_0 qbz0_1 qbz0_2 qbz0_3 qbz0_4
  replace bz0 := bz0.ext hE2
  have qbz0_0 : w2.cell? ⟨w.heap.size, 0, none⟩ = some (.string aX.id) := bz0.cell 0
  have qbz0_1 : w2.cell? ⟨w.heap.size, 1, none⟩ = some (.int .i64 aX.junction) := bz0.cell 1
  have qbz0_2 : w2.cell? ⟨w.heap.size, 2, none⟩ = some (.int .i64 aX.limit) := bz0.cell 2
  have qbz0_3 : w2.cell? ⟨w.heap.size, 3, none⟩ = some (.int .i64 aX.delay) := bz0.cell 3
  have qbz0_4 : w2.cell? ⟨w.heap.size, 4, none⟩ = some (.int .i64 aX.release) := bz0.cell 4
  clear hE2
  go_wp2_with fail
  refine (toInt64S aSeries _ _ _ _ (hv_aSeries.ext hT) hn_aSeries).mono ?_
  rintro e w3 ⟨⟨v3, rfl, hO3⟩, hE3⟩
  have z3 : w2.heap.size ≤ w3.heap.size := hE3.size
  replace hT := Ext.tr hT hE3
  clear qbz0_0 qbz0_1 qbz0_2 qbz0_3 qbz0_4
  replace bz0 := bz0.ext hE3
  have qbz0_0 : w3.cell? ⟨w.heap.size, 0, none⟩ = some (.string aX.id) := bz0.cell 0
  have qbz0_1 : w3.cell? ⟨w.heap.size, 1, none⟩ = some (.int .i64 aX.junction) := bz0.cell 1
  have qbz0_2 : w3.cell? ⟨w.heap.size, 2, none⟩ = some (.int .i64 aX.limit) := bz0.cell 2
  have qbz0_3 : w3.cell? ⟨w.heap.size, 3, none⟩ = some (.int .i64 aX.delay) := bz0.cell 3
  have qbz0_4 : w3.cell? ⟨w.heap.size, 4, none⟩ = some (.int .i64 aX.release) := bz0.cell 4
  clear hE3
  go_wp2_with fail
  refine (specAlarmsOf aX aSeries _ _ _ _ hs_aX hO3.sl hn_aSeries).mono ?_
  rintro e w4 ⟨⟨v4, rfl, hO4⟩, hE4⟩
  have z4 : w3.heap.size ≤ w4.heap.size := hE4.size
  replace hO3 := hO3.ext hE4
  replace hT := Ext.tr hT hE4
  clear qbz0_0 qbz0_1 qbz0_2 qbz0_3 qbz0_4
  replace bz0 := bz0.ext hE4
  have qbz0_0 : w4.cell? ⟨w.heap.size, 0, none⟩ = some (.string aX.id) := bz0.cell 0
  have qbz0_1 : w4.cell? ⟨w.heap.size, 1, none⟩ = some (.int .i64 aX.junction) := bz0.cell 1
  have qbz0_2 : w4.cell? ⟨w.heap.size, 2, none⟩ = some (.int .i64 aX.limit) := bz0.cell 2
  have qbz0_3 : w4.cell? ⟨w.heap.size, 3, none⟩ = some (.int .i64 aX.delay) := bz0.cell 3
  have qbz0_4 : w4.cell? ⟨w.heap.size, 4, none⟩ = some (.int .i64 aX.release) := bz0.cell 4
  clear hE4
  go_wp2_with fail
  refine (toInt64S aSeries _ _ _ _ (hv_aSeries.ext hT) hn_aSeries).mono ?_
  rintro e w5 ⟨⟨v5, rfl, hO5⟩, hE5⟩
  have z5 : w4.heap.size ≤ w5.heap.size := hE5.size
  replace hO3 := hO3.ext hE5
  replace hO4 := hO4.ext hE5
  replace hT := Ext.tr hT hE5
  clear qbz0_0 qbz0_1 qbz0_2 qbz0_3 qbz0_4
  replace bz0 := bz0.ext hE5
  have qbz0_0 : w5.cell? ⟨w.heap.size, 0, none⟩ = some (.string aX.id) := bz0.cell 0
  have qbz0_1 : w5.cell? ⟨w.heap.size, 1, none⟩ = some (.int .i64 aX.junction) := bz0.cell 1
  have qbz0_2 : w5.cell? ⟨w.heap.size, 2, none⟩ = some (.int .i64 aX.limit) := bz0.cell 2
  have qbz0_3 : w5.cell? ⟨w.heap.size, 3, none⟩ = some (.int .i64 aX.delay) := bz0.cell 3
  have qbz0_4 : w5.cell? ⟨w.heap.size, 4, none⟩ = some (.int .i64 aX.release) := bz0.cell 4
  clear hE5
  go_wp2_with fail
  refine (toSensor aX _).mono ?_
  rintro e w6 ⟨rfl, hE6⟩
  have z6 : w5.heap.size ≤ w6.heap.size := hE6.size
  replace hO3 := hO3.ext hE6
  replace hO4 := hO4.ext hE6
  replace hO5 := hO5.ext hE6
  replace hT := Ext.tr hT hE6
  clear qbz0_0 qbz0_1 qbz0_2 qbz0_3 qbz0_4
  replace bz0 := bz0.ext hE6
  have qbz0_0 : w6.cell? ⟨w.heap.size, 0, none⟩ = some (.string aX.id) := bz0.cell 0
  have qbz0_1 : w6.cell? ⟨w.heap.size, 1, none⟩ = some (.int .i64 aX.junction) := bz0.cell 1
  have qbz0_2 : w6.cell? ⟨w.heap.size, 2, none⟩ = some (.int .i64 aX.limit) := bz0.cell 2
  have qbz0_3 : w6.cell? ⟨w.heap.size, 3, none⟩ = some (.int .i64 aX.delay) := bz0.cell 3
  have qbz0_4 : w6.cell? ⟨w.heap.size, 4, none⟩ = some (.int .i64 aX.release) := bz0.cell 4
  clear hE6
  go_wp2_with fail
  refine (implAlarmsOf aX aSeries _ _ _ _ hs_aX hO5.sl hn_aSeries).mono ?_
  rintro e w7 ⟨⟨v7, rfl, hO7⟩, hE7⟩
  have z7 : w6.heap.size ≤ w7.heap.size := hE7.size
  replace hO3 := hO3.ext hE7
  replace hO4 := hO4.ext hE7
  replace hO5 := hO5.ext hE7
  replace hT := Ext.tr hT hE7
  clear qbz0_0 qbz0_1 qbz0_2 qbz0_3 qbz0_4
  replace bz0 := bz0.ext hE7
  have qbz0_0 : w7.cell? ⟨w.heap.size, 0, none⟩ = some (.string aX.id) := bz0.cell 0
  have qbz0_1 : w7.cell? ⟨w.heap.size, 1, none⟩ = some (.int .i64 aX.junction) := bz0.cell 1
  have qbz0_2 : w7.cell? ⟨w.heap.size, 2, none⟩ = some (.int .i64 aX.limit) := bz0.cell 2
  have qbz0_3 : w7.cell? ⟨w.heap.size, 3, none⟩ = some (.int .i64 aX.delay) := bz0.cell 3
  have qbz0_4 : w7.cell? ⟨w.heap.size, 4, none⟩ = some (.int .i64 aX.release) := bz0.cell 4
  clear hE7
  go_wp2_with fail
  refine (eqInt64SS ((almR aX aSeries).1) _ _ _ _ _ _ _ hO7.sl hO4.sl hO7.2.1).mono ?_
  rintro e w8 ⟨rfl, hE8⟩
  have z8 : w7.heap.size ≤ w8.heap.size := hE8.size
  replace hO3 := hO3.ext hE8
  replace hO4 := hO4.ext hE8
  replace hO5 := hO5.ext hE8
  replace hO7 := hO7.ext hE8
  replace hT := Ext.tr hT hE8
  clear qbz0_0 qbz0_1 qbz0_2 qbz0_3 qbz0_4
  replace bz0 := bz0.ext hE8
  have qbz0_0 : w8.cell? ⟨w.heap.size, 0, none⟩ = some (.string aX.id) := bz0.cell 0
  have qbz0_1 : w8.cell? ⟨w.heap.size, 1, none⟩ = some (.int .i64 aX.junction) := bz0.cell 1
  have qbz0_2 : w8.cell? ⟨w.heap.size, 2, none⟩ = some (.int .i64 aX.limit) := bz0.cell 2
  have qbz0_3 : w8.cell? ⟨w.heap.size, 3, none⟩ = some (.int .i64 aX.delay) := bz0.cell 3
  have qbz0_4 : w8.cell? ⟨w.heap.size, 4, none⟩ = some (.int .i64 aX.release) := bz0.cell 4
  clear hE8
  go_wp2_with fail
  refine (toInt64S aSeries _ _ _ _ (hv_aSeries.ext hT) hn_aSeries).mono ?_
  rintro e w9 ⟨⟨v9, rfl, hO9⟩, hE9⟩
  have z9 : w8.heap.size ≤ w9.heap.size := hE9.size
  replace hO3 := hO3.ext hE9
  replace hO4 := hO4.ext hE9
  replace hO5 := hO5.ext hE9
  replace hO7 := hO7.ext hE9
  replace hT := Ext.tr hT hE9
  clear qbz0_0 qbz0_1 qbz0_2 qbz0_3 qbz0_4
  replace bz0 := bz0.ext hE9
  have qbz0_0 : w9.cell? ⟨w.heap.size, 0, none⟩ = some (.string aX.id) := bz0.cell 0
  have qbz0_1 : w9.cell? ⟨w.heap.size, 1, none⟩ = some (.int .i64 aX.junction) := bz0.cell 1
  have qbz0_2 : w9.cell? ⟨w.heap.size, 2, none⟩ = some (.int .i64 aX.limit) := bz0.cell 2
  have qbz0_3 : w9.cell? ⟨w.heap.size, 3, none⟩ = some (.int .i64 aX.delay) := bz0.cell 3
  have qbz0_4 : w9.cell? ⟨w.heap.size, 4, none⟩ = some (.int .i64 aX.release) := bz0.cell 4
  clear hE9
  go_wp2_with fail
  refine (eqInt64S (aSeries) _ _ _ _ _ _ _ hO5.sl hO9.sl (by omega)).mono ?_
  rintro e w10 ⟨rfl, hE10⟩
  have z10 : w9.heap.size ≤ w10.heap.size := hE10.size
  replace hO3 := hO3.ext hE10
  replace hO4 := hO4.ext hE10
  replace hO5 := hO5.ext hE10
  replace hO7 := hO7.ext hE10
  replace hO9 := hO9.ext hE10
  replace hT := Ext.tr hT hE10
  clear qbz0_0 qbz0_1 qbz0_2 qbz0_3 qbz0_4
  replace bz0 := bz0.ext hE10
  have qbz0_0 : w10.cell? ⟨w.heap.size, 0, none⟩ = some (.string aX.id) := bz0.cell 0
  have qbz0_1 : w10.cell? ⟨w.heap.size, 1, none⟩ = some (.int .i64 aX.junction) := bz0.cell 1
  have qbz0_2 : w10.cell? ⟨w.heap.size, 2, none⟩ = some (.int .i64 aX.limit) := bz0.cell 2
  have qbz0_3 : w10.cell? ⟨w.heap.size, 3, none⟩ = some (.int .i64 aX.delay) := bz0.cell 3
  have qbz0_4 : w10.cell? ⟨w.heap.size, 4, none⟩ = some (.int .i64 aX.release) := bz0.cell 4
  clear hE10
  clear hO9
  go_wp2_with fail
  refine (markInt64S (1) _ _ _ _ _ _ hO5 (by omega) (by have := hO5.2.1; omega)).mono ?_
  rintro e w11 ⟨rfl, hM11, hK11⟩
  have z11 : w10.heap.size ≤ w11.heap.size := hK11.size
  replace hO3 := hO3.keep hK11 (by omega)
  replace hO4 := hO4.keep hK11 (by omega)
  replace hO7 := hO7.keep hK11 (by omega)
  replace hT := hK11.ext hT (by omega)
  clear qbz0_0 qbz0_1 qbz0_2 qbz0_3 qbz0_4
  replace bz0 := bz0.keep hK11 (by omega)
  have qbz0_0 : w11.cell? ⟨w.heap.size, 0, none⟩ = some (.string aX.id) := bz0.cell 0
  have qbz0_1 : w11.cell? ⟨w.heap.size, 1, none⟩ = some (.int .i64 aX.junction) := bz0.cell 1
  have qbz0_2 : w11.cell? ⟨w.heap.size, 2, none⟩ = some (.int .i64 aX.limit) := bz0.cell 2
  have qbz0_3 : w11.cell? ⟨w.heap.size, 3, none⟩ = some (.int .i64 aX.delay) := bz0.cell 3
  have qbz0_4 : w11.cell? ⟨w.heap.size, 4, none⟩ = some (.int .i64 aX.release) := bz0.cell 4
  clear hK11
  clear hO5
  have hb11 := hM11.2.1
  go_wp2_with fail
  refine (eqInt64SS ((almR aX aSeries).1) _ _ _ _ _ _ _ hO7.sl hO4.sl hO7.2.1).mono ?_
  rintro e w12 ⟨rfl, hE12⟩
  have z12 : w11.heap.size ≤ w12.heap.size := hE12.size
  replace hO3 := hO3.ext hE12
  replace hO4 := hO4.ext hE12
  replace hM11 := hM11.ext hE12
  replace hO7 := hO7.ext hE12
  replace hT := Ext.tr hT hE12
  clear qbz0_0 qbz0_1 qbz0_2 qbz0_3 qbz0_4
  replace bz0 := bz0.ext hE12
  have qbz0_0 : w12.cell? ⟨w.heap.size, 0, none⟩ = some (.string aX.id) := bz0.cell 0
  have qbz0_1 : w12.cell? ⟨w.heap.size, 1, none⟩ = some (.int .i64 aX.junction) := bz0.cell 1
  have qbz0_2 : w12.cell? ⟨w.heap.size, 2, none⟩ = some (.int .i64 aX.limit) := bz0.cell 2
  have qbz0_3 : w12.cell? ⟨w.heap.size, 3, none⟩ = some (.int .i64 aX.delay) := bz0.cell 3
  have qbz0_4 : w12.cell? ⟨w.heap.size, 4, none⟩ = some (.int .i64 aX.release) := bz0.cell 4
  clear hE12
  go_wp2_with fail
  refine (markInt64SS (1) _ _ _ _ _ hO7 (by omega) (by have := hO7.2.1; omega)).mono ?_
  rintro e w13 ⟨rfl, hM13, hK13⟩
  have z13 : w12.heap.size ≤ w13.heap.size := hK13.size
  replace hO3 := hO3.keep hK13 (by omega)
  replace hO4 := hO4.keep hK13 (by omega)
  replace hM11 := hM11.keep hK13 (by omega)
  replace hT := hK13.ext hT (by omega)
  clear qbz0_0 qbz0_1 qbz0_2 qbz0_3 qbz0_4
  replace bz0 := bz0.keep hK13 (by omega)
  have qbz0_0 : w13.cell? ⟨w.heap.size, 0, none⟩ = some (.string aX.id) := bz0.cell 0
  have qbz0_1 : w13.cell? ⟨w.heap.size, 1, none⟩ = some (.int .i64 aX.junction) := bz0.cell 1
  have qbz0_2 : w13.cell? ⟨w.heap.size, 2, none⟩ = some (.int .i64 aX.limit) := bz0.cell 2
  have qbz0_3 : w13.cell? ⟨w.heap.size, 3, none⟩ = some (.int .i64 aX.delay) := bz0.cell 3
  have qbz0_4 : w13.cell? ⟨w.heap.size, 4, none⟩ = some (.int .i64 aX.release) := bz0.cell 4
  clear hK13
  have hnn13 := hO7.2.1
  obtain ⟨hnn13a, hnn13b⟩ := hnn13
  clear hO7
  go_wp2_with fail
  refine (heldInt64SS (1) _ _ _ ((almR aX aSeries).1) _ hM13.sl ⟨hnn13a, hnn13b⟩ (by omega) (by omega)).mono ?_
  rintro e w14 ⟨rfl, hE14⟩
  have z14 : w13.heap.size ≤ w14.heap.size := hE14.size
  replace hO3 := hO3.ext hE14
  replace hO4 := hO4.ext hE14
  replace hM11 := hM11.ext hE14
  replace hM13 := hM13.ext hE14
  replace hT := Ext.tr hT hE14
  clear qbz0_0 qbz0_1 qbz0_2 qbz0_3 qbz0_4
  replace bz0 := bz0.ext hE14
  have qbz0_0 : w14.cell? ⟨w.heap.size, 0, none⟩ = some (.string aX.id) := bz0.cell 0
  have qbz0_1 : w14.cell? ⟨w.heap.size, 1, none⟩ = some (.int .i64 aX.junction) := bz0.cell 1
  have qbz0_2 : w14.cell? ⟨w.heap.size, 2, none⟩ = some (.int .i64 aX.limit) := bz0.cell 2
  have qbz0_3 : w14.cell? ⟨w.heap.size, 3, none⟩ = some (.int .i64 aX.delay) := bz0.cell 3
  have qbz0_4 : w14.cell? ⟨w.heap.size, 4, none⟩ = some (.int .i64 aX.release) := bz0.cell 4
  clear hE14
  go_wp2_with fail
  refine (toSensor aX _).mono ?_
  rintro e w15 ⟨rfl, hE15⟩
  have z15 : w14.heap.size ≤ w15.heap.size := hE15.size
  replace hO3 := hO3.ext hE15
  replace hO4 := hO4.ext hE15
  replace hM11 := hM11.ext hE15
  replace hM13 := hM13.ext hE15
  replace hT := Ext.tr hT hE15
  clear qbz0_0 qbz0_1 qbz0_2 qbz0_3 qbz0_4
  replace bz0 := bz0.ext hE15
  have qbz0_0 : w15.cell? ⟨w.heap.size, 0, none⟩ = some (.string aX.id) := bz0.cell 0
  have qbz0_1 : w15.cell? ⟨w.heap.size, 1, none⟩ = some (.int .i64 aX.junction) := bz0.cell 1
  have qbz0_2 : w15.cell? ⟨w.heap.size, 2, none⟩ = some (.int .i64 aX.limit) := bz0.cell 2
  have qbz0_3 : w15.cell? ⟨w.heap.size, 3, none⟩ = some (.int .i64 aX.delay) := bz0.cell 3
  have qbz0_4 : w15.cell? ⟨w.heap.size, 4, none⟩ = some (.int .i64 aX.release) := bz0.cell 4
  clear hE15
  go_wp2_with fail
  refine (toInt64S aSeries _ _ _ _ (hv_aSeries.ext hT) hn_aSeries).mono ?_
  rintro e w16 ⟨⟨v16, rfl, hO16⟩, hE16⟩
  have z16 : w15.heap.size ≤ w16.heap.size := hE16.size
  replace hO3 := hO3.ext hE16
  replace hO4 := hO4.ext hE16
  replace hM11 := hM11.ext hE16
  replace hM13 := hM13.ext hE16
  replace hT := Ext.tr hT hE16
  clear qbz0_0 qbz0_1 qbz0_2 qbz0_3 qbz0_4
  replace bz0 := bz0.ext hE16
  have qbz0_0 : w16.cell? ⟨w.heap.size, 0, none⟩ = some (.string aX.id) := bz0.cell 0
  have qbz0_1 : w16.cell? ⟨w.heap.size, 1, none⟩ = some (.int .i64 aX.junction) := bz0.cell 1
  have qbz0_2 : w16.cell? ⟨w.heap.size, 2, none⟩ = some (.int .i64 aX.limit) := bz0.cell 2
  have qbz0_3 : w16.cell? ⟨w.heap.size, 3, none⟩ = some (.int .i64 aX.delay) := bz0.cell 3
  have qbz0_4 : w16.cell? ⟨w.heap.size, 4, none⟩ = some (.int .i64 aX.release) := bz0.cell 4
  clear hE16
  go_wp2_with fail
  refine (implAlarmsOf aX aSeries _ _ _ _ hs_aX hO16.sl hn_aSeries).mono ?_
  rintro e w17 ⟨⟨v17, rfl, hO17⟩, hE17⟩
  have z17 : w16.heap.size ≤ w17.heap.size := hE17.size
  replace hO3 := hO3.ext hE17
  replace hO4 := hO4.ext hE17
  replace hM11 := hM11.ext hE17
  replace hM13 := hM13.ext hE17
  replace hO16 := hO16.ext hE17
  replace hT := Ext.tr hT hE17
  clear qbz0_0 qbz0_1 qbz0_2 qbz0_3 qbz0_4
  replace bz0 := bz0.ext hE17
  have qbz0_0 : w17.cell? ⟨w.heap.size, 0, none⟩ = some (.string aX.id) := bz0.cell 0
  have qbz0_1 : w17.cell? ⟨w.heap.size, 1, none⟩ = some (.int .i64 aX.junction) := bz0.cell 1
  have qbz0_2 : w17.cell? ⟨w.heap.size, 2, none⟩ = some (.int .i64 aX.limit) := bz0.cell 2
  have qbz0_3 : w17.cell? ⟨w.heap.size, 3, none⟩ = some (.int .i64 aX.delay) := bz0.cell 3
  have qbz0_4 : w17.cell? ⟨w.heap.size, 4, none⟩ = some (.int .i64 aX.release) := bz0.cell 4
  clear hE17
  go_wp2_with fail
  refine (eqInt64SS ((almR aX aSeries).1) _ _ _ _ _ _ _ hO17.sl hO4.sl hO17.2.1).mono ?_
  rintro e w18 ⟨rfl, hE18⟩
  have z18 : w17.heap.size ≤ w18.heap.size := hE18.size
  replace hO3 := hO3.ext hE18
  replace hO4 := hO4.ext hE18
  replace hM11 := hM11.ext hE18
  replace hM13 := hM13.ext hE18
  replace hO16 := hO16.ext hE18
  replace hO17 := hO17.ext hE18
  replace hT := Ext.tr hT hE18
  clear qbz0_0 qbz0_1 qbz0_2 qbz0_3 qbz0_4
  replace bz0 := bz0.ext hE18
  have qbz0_0 : w18.cell? ⟨w.heap.size, 0, none⟩ = some (.string aX.id) := bz0.cell 0
  have qbz0_1 : w18.cell? ⟨w.heap.size, 1, none⟩ = some (.int .i64 aX.junction) := bz0.cell 1
  have qbz0_2 : w18.cell? ⟨w.heap.size, 2, none⟩ = some (.int .i64 aX.limit) := bz0.cell 2
  have qbz0_3 : w18.cell? ⟨w.heap.size, 3, none⟩ = some (.int .i64 aX.delay) := bz0.cell 3
  have qbz0_4 : w18.cell? ⟨w.heap.size, 4, none⟩ = some (.int .i64 aX.release) := bz0.cell 4
  clear hE18
  go_wp2_with fail
  refine (heldInt64SS (1) _ _ _ ((almR aX aSeries).1) _ hM13.sl ⟨hnn13a, hnn13b⟩ (by omega) (by omega)).mono ?_
  rintro e w19 ⟨rfl, hE19⟩
  have z19 : w18.heap.size ≤ w19.heap.size := hE19.size
  replace hO3 := hO3.ext hE19
  replace hO4 := hO4.ext hE19
  replace hM11 := hM11.ext hE19
  replace hM13 := hM13.ext hE19
  replace hO16 := hO16.ext hE19
  replace hO17 := hO17.ext hE19
  replace hT := Ext.tr hT hE19
  clear qbz0_0 qbz0_1 qbz0_2 qbz0_3 qbz0_4
  replace bz0 := bz0.ext hE19
  have qbz0_0 : w19.cell? ⟨w.heap.size, 0, none⟩ = some (.string aX.id) := bz0.cell 0
  have qbz0_1 : w19.cell? ⟨w.heap.size, 1, none⟩ = some (.int .i64 aX.junction) := bz0.cell 1
  have qbz0_2 : w19.cell? ⟨w.heap.size, 2, none⟩ = some (.int .i64 aX.limit) := bz0.cell 2
  have qbz0_3 : w19.cell? ⟨w.heap.size, 3, none⟩ = some (.int .i64 aX.delay) := bz0.cell 3
  have qbz0_4 : w19.cell? ⟨w.heap.size, 4, none⟩ = some (.int .i64 aX.release) := bz0.cell 4
  clear hE19
  go_wp2
  go_ret
  exact ⟨rfl, hT⟩
end Go.Proofs.Ytopjccbjdcoanaa
