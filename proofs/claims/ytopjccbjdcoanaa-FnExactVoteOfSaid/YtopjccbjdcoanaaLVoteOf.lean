/- The walk of the law FnExactVoteOf: it returns true; nothing that was there has turned. -/
import Derived.Test.YtopjccbjdcoanaaVoteI
namespace Go.Proofs.Ytopjccbjdcoanaa
set_option linter.unusedVariables false
open Go.RowKit
set_option maxRecDepth 100000 in
set_option maxHeartbeats 1000000 in
theorem lawVoteOf (w : World) (aA : List Int) (v_aA : Value) (hv_aA : Sl 0 w.heap.size w 1 v_aA aA.length (flat encI aA)) (aB : List Int) (v_aB : Value) (hv_aB : Sl 0 w.heap.size w 1 v_aB aB.length (flat encI aB)) (aC : List Int) (v_aC : Value) (hv_aC : Sl 0 w.heap.size w 1 v_aC aC.length (flat encI aC)) :
    Calls Try.prog 7 #[v_aA, v_aB, v_aC] w fun e w' => e = .returned (.bool true) ∧ Ext w w' := by
  go_enter Try.func7, Try.ntmps7
  have hT : Ext w w := Below.refl _ _
  have hv0 := hv_aA
  obtain ⟨_, _, A_aA, c_aA, rfl, _, _, _⟩ := hv0
  by_cases hg_aA : aA.length > 1048576
  · go_wp2
    go_ret
    exact ⟨rfl, by first | exact hT | (go_tidy; go_grown)⟩
  have hn_aA : aA.length ≤ 1048576 := by omega
  have hv0 := hv_aB
  obtain ⟨_, _, A_aB, c_aB, rfl, _, _, _⟩ := hv0
  by_cases hg_aB : aB.length > 1048576
  · go_wp2
    go_ret
    exact ⟨rfl, by first | exact hT | (go_tidy; go_grown)⟩
  have hn_aB : aB.length ≤ 1048576 := by omega
  have hv0 := hv_aC
  obtain ⟨_, _, A_aC, c_aC, rfl, _, _, _⟩ := hv0
  by_cases hg_aC : aC.length > 1048576
  · go_wp2
    go_ret
    exact ⟨rfl, by first | exact hT | (go_tidy; go_grown)⟩
  have hn_aC : aC.length ≤ 1048576 := by omega
  go_wp2_with fail
  refine (toInt64S aA _ _ _ _ (hv_aA.ext hT) hn_aA).mono ?_
  rintro e w1 ⟨⟨v1, rfl, hO1⟩, hE1⟩
  have z1 : w.heap.size ≤ w1.heap.size := hE1.size
  replace hT := Ext.tr hT hE1
  clear hE1
  go_wp2_with fail
  refine (toInt64S aB _ _ _ _ (hv_aB.ext hT) hn_aB).mono ?_
  rintro e w2 ⟨⟨v2, rfl, hO2⟩, hE2⟩
  have z2 : w1.heap.size ≤ w2.heap.size := hE2.size
  replace hO1 := hO1.ext hE2
  replace hT := Ext.tr hT hE2
  clear hE2
  go_wp2_with fail
  refine (toInt64S aC _ _ _ _ (hv_aC.ext hT) hn_aC).mono ?_
  rintro e w3 ⟨⟨v3, rfl, hO3⟩, hE3⟩
  have z3 : w2.heap.size ≤ w3.heap.size := hE3.size
  replace hO1 := hO1.ext hE3
  replace hO2 := hO2.ext hE3
  replace hT := Ext.tr hT hE3
  clear hE3
  go_wp2_with fail
  refine (specVoteOf aA aB aC _ _ _ _ _ _ _ _ _ _ hO1.sl hn_aA hO2.sl hn_aB hO3.sl hn_aC).mono ?_
  rintro e w4 ⟨⟨v4, rfl, hO4⟩, hE4⟩
  have z4 : w3.heap.size ≤ w4.heap.size := hE4.size
  replace hO1 := hO1.ext hE4
  replace hO2 := hO2.ext hE4
  replace hO3 := hO3.ext hE4
  replace hT := Ext.tr hT hE4
  clear hE4
  go_wp2_with fail
  refine (toInt64S aA _ _ _ _ (hv_aA.ext hT) hn_aA).mono ?_
  rintro e w5 ⟨⟨v5, rfl, hO5⟩, hE5⟩
  have z5 : w4.heap.size ≤ w5.heap.size := hE5.size
  replace hO1 := hO1.ext hE5
  replace hO2 := hO2.ext hE5
  replace hO3 := hO3.ext hE5
  replace hO4 := hO4.ext hE5
  replace hT := Ext.tr hT hE5
  clear hE5
  go_wp2_with fail
  refine (toInt64S aB _ _ _ _ (hv_aB.ext hT) hn_aB).mono ?_
  rintro e w6 ⟨⟨v6, rfl, hO6⟩, hE6⟩
  have z6 : w5.heap.size ≤ w6.heap.size := hE6.size
  replace hO1 := hO1.ext hE6
  replace hO2 := hO2.ext hE6
  replace hO3 := hO3.ext hE6
  replace hO4 := hO4.ext hE6
  replace hO5 := hO5.ext hE6
  replace hT := Ext.tr hT hE6
  clear hE6
  go_wp2_with fail
  refine (toInt64S aC _ _ _ _ (hv_aC.ext hT) hn_aC).mono ?_
  rintro e w7 ⟨⟨v7, rfl, hO7⟩, hE7⟩
  have z7 : w6.heap.size ≤ w7.heap.size := hE7.size
  replace hO1 := hO1.ext hE7
  replace hO2 := hO2.ext hE7
  replace hO3 := hO3.ext hE7
  replace hO4 := hO4.ext hE7
  replace hO5 := hO5.ext hE7
  replace hO6 := hO6.ext hE7
  replace hT := Ext.tr hT hE7
  clear hE7
  go_wp2_with fail
  refine (implVoteOf aA aB aC _ _ _ _ _ _ _ _ _ _ hO5.sl hn_aA hO6.sl hn_aB hO7.sl hn_aC).mono ?_
  rintro e w8 ⟨⟨v8, rfl, hO8⟩, hE8⟩
  have z8 : w7.heap.size ≤ w8.heap.size := hE8.size
  replace hO1 := hO1.ext hE8
  replace hO2 := hO2.ext hE8
  replace hO3 := hO3.ext hE8
  replace hO4 := hO4.ext hE8
  replace hO5 := hO5.ext hE8
  replace hO6 := hO6.ext hE8
  replace hO7 := hO7.ext hE8
  replace hT := Ext.tr hT hE8
  clear hE8
  go_wp2_with fail
  refine (eqInt64S ((voteR aA aB aC).1) _ _ _ _ _ _ _ hO8.sl hO4.sl hO8.2.1).mono ?_
  rintro e w9 ⟨rfl, hE9⟩
  have z9 : w8.heap.size ≤ w9.heap.size := hE9.size
  replace hO1 := hO1.ext hE9
  replace hO2 := hO2.ext hE9
  replace hO3 := hO3.ext hE9
  replace hO4 := hO4.ext hE9
  replace hO5 := hO5.ext hE9
  replace hO6 := hO6.ext hE9
  replace hO7 := hO7.ext hE9
  replace hO8 := hO8.ext hE9
  replace hT := Ext.tr hT hE9
  clear hE9
  go_wp2_with fail
  refine (toInt64S aA _ _ _ _ (hv_aA.ext hT) hn_aA).mono ?_
  rintro e w10 ⟨⟨v10, rfl, hO10⟩, hE10⟩
  have z10 : w9.heap.size ≤ w10.heap.size := hE10.size
  replace hO1 := hO1.ext hE10
  replace hO2 := hO2.ext hE10
  replace hO3 := hO3.ext hE10
  replace hO4 := hO4.ext hE10
  replace hO5 := hO5.ext hE10
  replace hO6 := hO6.ext hE10
  replace hO7 := hO7.ext hE10
  replace hO8 := hO8.ext hE10
  replace hT := Ext.tr hT hE10
  clear hE10
  go_wp2_with fail
  refine (eqInt64S (aA) _ _ _ _ _ _ _ hO5.sl hO10.sl (by omega)).mono ?_
  rintro e w11 ⟨rfl, hE11⟩
  have z11 : w10.heap.size ≤ w11.heap.size := hE11.size
  replace hO1 := hO1.ext hE11
  replace hO2 := hO2.ext hE11
  replace hO3 := hO3.ext hE11
  replace hO4 := hO4.ext hE11
  replace hO5 := hO5.ext hE11
  replace hO6 := hO6.ext hE11
  replace hO7 := hO7.ext hE11
  replace hO8 := hO8.ext hE11
  replace hO10 := hO10.ext hE11
  replace hT := Ext.tr hT hE11
  clear hE11
  clear hO10
  go_wp2_with fail
  refine (toInt64S aB _ _ _ _ (hv_aB.ext hT) hn_aB).mono ?_
  rintro e w12 ⟨⟨v12, rfl, hO12⟩, hE12⟩
  have z12 : w11.heap.size ≤ w12.heap.size := hE12.size
  replace hO1 := hO1.ext hE12
  replace hO2 := hO2.ext hE12
  replace hO3 := hO3.ext hE12
  replace hO4 := hO4.ext hE12
  replace hO5 := hO5.ext hE12
  replace hO6 := hO6.ext hE12
  replace hO7 := hO7.ext hE12
  replace hO8 := hO8.ext hE12
  replace hT := Ext.tr hT hE12
  clear hE12
  go_wp2_with fail
  refine (eqInt64S (aB) _ _ _ _ _ _ _ hO6.sl hO12.sl (by omega)).mono ?_
  rintro e w13 ⟨rfl, hE13⟩
  have z13 : w12.heap.size ≤ w13.heap.size := hE13.size
  replace hO1 := hO1.ext hE13
  replace hO2 := hO2.ext hE13
  replace hO3 := hO3.ext hE13
  replace hO4 := hO4.ext hE13
  replace hO5 := hO5.ext hE13
  replace hO6 := hO6.ext hE13
  replace hO7 := hO7.ext hE13
  replace hO8 := hO8.ext hE13
  replace hO12 := hO12.ext hE13
  replace hT := Ext.tr hT hE13
  clear hE13
  clear hO12
  go_wp2_with fail
  refine (toInt64S aC _ _ _ _ (hv_aC.ext hT) hn_aC).mono ?_
  rintro e w14 ⟨⟨v14, rfl, hO14⟩, hE14⟩
  have z14 : w13.heap.size ≤ w14.heap.size := hE14.size
  replace hO1 := hO1.ext hE14
  replace hO2 := hO2.ext hE14
  replace hO3 := hO3.ext hE14
  replace hO4 := hO4.ext hE14
  replace hO5 := hO5.ext hE14
  replace hO6 := hO6.ext hE14
  replace hO7 := hO7.ext hE14
  replace hO8 := hO8.ext hE14
  replace hT := Ext.tr hT hE14
  clear hE14
  go_wp2_with fail
  refine (eqInt64S (aC) _ _ _ _ _ _ _ hO7.sl hO14.sl (by omega)).mono ?_
  rintro e w15 ⟨rfl, hE15⟩
  have z15 : w14.heap.size ≤ w15.heap.size := hE15.size
  replace hO1 := hO1.ext hE15
  replace hO2 := hO2.ext hE15
  replace hO3 := hO3.ext hE15
  replace hO4 := hO4.ext hE15
  replace hO5 := hO5.ext hE15
  replace hO6 := hO6.ext hE15
  replace hO7 := hO7.ext hE15
  replace hO8 := hO8.ext hE15
  replace hO14 := hO14.ext hE15
  replace hT := Ext.tr hT hE15
  clear hE15
  clear hO14
  go_wp2_with fail
  refine (markInt64S (1) _ _ _ _ _ _ hO5 (by omega) (by have := hO5.2.1; omega)).mono ?_
  rintro e w16 ⟨rfl, hM16, hK16⟩
  have z16 : w15.heap.size ≤ w16.heap.size := hK16.size
  replace hO1 := hO1.keep hK16 (by omega)
  replace hO2 := hO2.keep hK16 (by omega)
  replace hO3 := hO3.keep hK16 (by omega)
  replace hO4 := hO4.keep hK16 (by omega)
  replace hO6 := hO6.keep hK16 (by omega)
  replace hO7 := hO7.keep hK16 (by omega)
  replace hO8 := hO8.keep hK16 (by omega)
  replace hT := hK16.ext hT (by omega)
  clear hK16
  clear hO5
  have hb16 := hM16.2.1
  go_wp2_with fail
  refine (markInt64S (1 + (aA.length : Int)) _ _ _ _ _ _ hO6 (by omega) (by have := hO6.2.1; omega)).mono ?_
  rintro e w17 ⟨rfl, hM17, hK17⟩
  have z17 : w16.heap.size ≤ w17.heap.size := hK17.size
  replace hO1 := hO1.keep hK17 (by omega)
  replace hO2 := hO2.keep hK17 (by omega)
  replace hO3 := hO3.keep hK17 (by omega)
  replace hO4 := hO4.keep hK17 (by omega)
  replace hM16 := hM16.keep hK17 (by omega)
  replace hO7 := hO7.keep hK17 (by omega)
  replace hO8 := hO8.keep hK17 (by omega)
  replace hT := hK17.ext hT (by omega)
  clear hK17
  clear hO6
  have hb17 := hM17.2.1
  go_wp2_with fail
  refine (markInt64S (1 + (aA.length : Int) + (aB.length : Int)) _ _ _ _ _ _ hO7 (by omega) (by have := hO7.2.1; omega)).mono ?_
  rintro e w18 ⟨rfl, hM18, hK18⟩
  have z18 : w17.heap.size ≤ w18.heap.size := hK18.size
  replace hO1 := hO1.keep hK18 (by omega)
  replace hO2 := hO2.keep hK18 (by omega)
  replace hO3 := hO3.keep hK18 (by omega)
  replace hO4 := hO4.keep hK18 (by omega)
  replace hM16 := hM16.keep hK18 (by omega)
  replace hM17 := hM17.keep hK18 (by omega)
  replace hO8 := hO8.keep hK18 (by omega)
  replace hT := hK18.ext hT (by omega)
  clear hK18
  clear hO7
  have hb18 := hM18.2.1
  go_wp2_with fail
  refine (eqInt64S ((voteR aA aB aC).1) _ _ _ _ _ _ _ hO8.sl hO4.sl hO8.2.1).mono ?_
  rintro e w19 ⟨rfl, hE19⟩
  have z19 : w18.heap.size ≤ w19.heap.size := hE19.size
  replace hO1 := hO1.ext hE19
  replace hO2 := hO2.ext hE19
  replace hO3 := hO3.ext hE19
  replace hO4 := hO4.ext hE19
  replace hM16 := hM16.ext hE19
  replace hM17 := hM17.ext hE19
  replace hM18 := hM18.ext hE19
  replace hO8 := hO8.ext hE19
  replace hT := Ext.tr hT hE19
  clear hE19
  go_wp2_with fail
  refine (markInt64S (1) _ _ _ _ _ _ hO8 (by omega) (by have := hO8.2.1; omega)).mono ?_
  rintro e w20 ⟨rfl, hM20, hK20⟩
  have z20 : w19.heap.size ≤ w20.heap.size := hK20.size
  replace hO1 := hO1.keep hK20 (by omega)
  replace hO2 := hO2.keep hK20 (by omega)
  replace hO3 := hO3.keep hK20 (by omega)
  replace hO4 := hO4.keep hK20 (by omega)
  replace hM16 := hM16.keep hK20 (by omega)
  replace hM17 := hM17.keep hK20 (by omega)
  replace hM18 := hM18.keep hK20 (by omega)
  replace hT := hK20.ext hT (by omega)
  clear hK20
  clear hO8
  have hb20 := hM20.2.1
  go_wp2_with fail
  refine (heldInt64S (1) _ _ _ _ _ hM20.sl hM20.2.1 (by omega) (by have := hM20.2.1; omega)).mono ?_
  rintro e w21 ⟨rfl, hE21⟩
  have z21 : w20.heap.size ≤ w21.heap.size := hE21.size
  replace hO1 := hO1.ext hE21
  replace hO2 := hO2.ext hE21
  replace hO3 := hO3.ext hE21
  replace hO4 := hO4.ext hE21
  replace hM16 := hM16.ext hE21
  replace hM17 := hM17.ext hE21
  replace hM18 := hM18.ext hE21
  replace hM20 := hM20.ext hE21
  replace hT := Ext.tr hT hE21
  clear hE21
  go_wp2_with fail
  refine (toInt64S aA _ _ _ _ (hv_aA.ext hT) hn_aA).mono ?_
  rintro e w22 ⟨⟨v22, rfl, hO22⟩, hE22⟩
  have z22 : w21.heap.size ≤ w22.heap.size := hE22.size
  replace hO1 := hO1.ext hE22
  replace hO2 := hO2.ext hE22
  replace hO3 := hO3.ext hE22
  replace hO4 := hO4.ext hE22
  replace hM16 := hM16.ext hE22
  replace hM17 := hM17.ext hE22
  replace hM18 := hM18.ext hE22
  replace hM20 := hM20.ext hE22
  replace hT := Ext.tr hT hE22
  clear hE22
  go_wp2_with fail
  refine (toInt64S aB _ _ _ _ (hv_aB.ext hT) hn_aB).mono ?_
  rintro e w23 ⟨⟨v23, rfl, hO23⟩, hE23⟩
  have z23 : w22.heap.size ≤ w23.heap.size := hE23.size
  replace hO1 := hO1.ext hE23
  replace hO2 := hO2.ext hE23
  replace hO3 := hO3.ext hE23
  replace hO4 := hO4.ext hE23
  replace hM16 := hM16.ext hE23
  replace hM17 := hM17.ext hE23
  replace hM18 := hM18.ext hE23
  replace hM20 := hM20.ext hE23
  replace hO22 := hO22.ext hE23
  replace hT := Ext.tr hT hE23
  clear hE23
  go_wp2_with fail
  refine (toInt64S aC _ _ _ _ (hv_aC.ext hT) hn_aC).mono ?_
  rintro e w24 ⟨⟨v24, rfl, hO24⟩, hE24⟩
  have z24 : w23.heap.size ≤ w24.heap.size := hE24.size
  replace hO1 := hO1.ext hE24
  replace hO2 := hO2.ext hE24
  replace hO3 := hO3.ext hE24
  replace hO4 := hO4.ext hE24
  replace hM16 := hM16.ext hE24
  replace hM17 := hM17.ext hE24
  replace hM18 := hM18.ext hE24
  replace hM20 := hM20.ext hE24
  replace hO22 := hO22.ext hE24
  replace hO23 := hO23.ext hE24
  replace hT := Ext.tr hT hE24
  clear hE24
  go_wp2_with fail
  refine (implVoteOf aA aB aC _ _ _ _ _ _ _ _ _ _ hO22.sl hn_aA hO23.sl hn_aB hO24.sl hn_aC).mono ?_
  rintro e w25 ⟨⟨v25, rfl, hO25⟩, hE25⟩
  have z25 : w24.heap.size ≤ w25.heap.size := hE25.size
  replace hO1 := hO1.ext hE25
  replace hO2 := hO2.ext hE25
  replace hO3 := hO3.ext hE25
  replace hO4 := hO4.ext hE25
  replace hM16 := hM16.ext hE25
  replace hM17 := hM17.ext hE25
  replace hM18 := hM18.ext hE25
  replace hM20 := hM20.ext hE25
  replace hO22 := hO22.ext hE25
  replace hO23 := hO23.ext hE25
  replace hO24 := hO24.ext hE25
  replace hT := Ext.tr hT hE25
  clear hE25
  go_wp2_with fail
  refine (eqInt64S ((voteR aA aB aC).1) _ _ _ _ _ _ _ hO25.sl hO4.sl hO25.2.1).mono ?_
  rintro e w26 ⟨rfl, hE26⟩
  have z26 : w25.heap.size ≤ w26.heap.size := hE26.size
  replace hO1 := hO1.ext hE26
  replace hO2 := hO2.ext hE26
  replace hO3 := hO3.ext hE26
  replace hO4 := hO4.ext hE26
  replace hM16 := hM16.ext hE26
  replace hM17 := hM17.ext hE26
  replace hM18 := hM18.ext hE26
  replace hM20 := hM20.ext hE26
  replace hO22 := hO22.ext hE26
  replace hO23 := hO23.ext hE26
  replace hO24 := hO24.ext hE26
  replace hO25 := hO25.ext hE26
  replace hT := Ext.tr hT hE26
  clear hE26
  go_wp2_with fail
  refine (heldInt64S (1) _ _ _ _ _ hM20.sl hM20.2.1 (by omega) (by have := hM20.2.1; omega)).mono ?_
  rintro e w27 ⟨rfl, hE27⟩
  have z27 : w26.heap.size ≤ w27.heap.size := hE27.size
  replace hO1 := hO1.ext hE27
  replace hO2 := hO2.ext hE27
  replace hO3 := hO3.ext hE27
  replace hO4 := hO4.ext hE27
  replace hM16 := hM16.ext hE27
  replace hM17 := hM17.ext hE27
  replace hM18 := hM18.ext hE27
  replace hM20 := hM20.ext hE27
  replace hO22 := hO22.ext hE27
  replace hO23 := hO23.ext hE27
  replace hO24 := hO24.ext hE27
  replace hO25 := hO25.ext hE27
  replace hT := Ext.tr hT hE27
  clear hE27
  go_wp2
  go_ret
  exact ⟨rfl, hT⟩
end Go.Proofs.Ytopjccbjdcoanaa
