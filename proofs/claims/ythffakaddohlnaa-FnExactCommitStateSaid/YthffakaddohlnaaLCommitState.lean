/- The walk of the law FnExactCommitState: it returns true; nothing that was there has turned. -/
import Derived.Test.YthffakaddohlnaaCmI
import Derived.Test.YthffakaddohlnaaXVersionM
namespace Go.Proofs.Ythffakaddohlnaa
set_option linter.unusedVariables false
open Go.RowKit
set_option maxRecDepth 100000 in
set_option maxHeartbeats 1000000 in
theorem lawCommitState (w : World) (aList : List (Version)) (v_aList : Value) (hv_aList : SlV 0 w.heap.size w v_aList aList) (hs_aList : ∀ x ∈ aList, okV x) (aParent : Int) (aMemo : ByteArray) (hs_aMemo : aMemo.size ≤ maxLen) (aState : List Setting) (v_aState : Value) (hv_aState : Sl 0 w.heap.size w 2 v_aState aState.length (flat Setting.enc aState)) (hs_aState : ∀ x ∈ aState, x.name.size ≤ maxLen) :
    Calls Try.prog 11 #[v_aList, .int .i64 aParent, .string aMemo, v_aState] w fun e w' => e = .returned (.bool true) ∧ Ext w w' := by
  go_enter Try.func11, Try.ntmps11
  have hT : Ext w w := Below.refl _ _
  by_cases hg_aMemo : aMemo.size > 1048576
  · go_wp2
    go_ret
    exact ⟨rfl, by first | exact hT | (go_tidy; go_grown)⟩
  have hn_aMemo : aMemo.size ≤ 1048576 := by omega
  go_wp2_with fail
  refine (szVersionS aList _ _ _ _ _ (hv_aList.ext hT) hs_aList ⟨by omega, by omega⟩).mono ?_
  rintro e w1 ⟨⟨r1, rfl, hr1⟩, hE1⟩
  have z1 : w.heap.size ≤ w1.heap.size := hE1.size
  replace hT := Ext.tr hT hE1
  clear hE1
  by_cases hn1 : r1 < 0
  · go_wp2
    go_ret
    exact ⟨rfl, hT⟩
  obtain ⟨hr1a, hn_aList, hb_aList⟩ := hr1 (by omega)
  have hr1b : 0 ≤ r1 := by omega
  go_wp2_with fail
  refine (szSettingS aState _ _ _ _ _ (hv_aState.ext hT) hs_aState ⟨by omega, by omega⟩).mono ?_
  rintro e w2 ⟨⟨r2, rfl, hr2⟩, hE2⟩
  have z2 : w1.heap.size ≤ w2.heap.size := hE2.size
  replace hT := Ext.tr hT hE2
  clear hE2
  by_cases hn2 : r2 < 0
  · go_wp2
    go_ret
    exact ⟨rfl, hT⟩
  obtain ⟨hr2a, hn_aState, hb_aState⟩ := hr2 (by omega)
  have hr2b : 0 ≤ r2 := by omega
  go_wp2_with fail
  refine (toVersionS aList _ _ _ _ (hv_aList.ext hT) hn_aList).mono ?_
  rintro e w3 ⟨⟨v3, rfl, hO3⟩, hE3⟩
  have z3 : w2.heap.size ≤ w3.heap.size := hE3.size
  replace hT := Ext.tr hT hE3
  clear hE3
  go_wp2_with fail
  refine (toSettingS aState _ _ _ _ (hv_aState.ext hT) hn_aState).mono ?_
  rintro e w4 ⟨⟨v4, rfl, hO4⟩, hE4⟩
  have z4 : w3.heap.size ≤ w4.heap.size := hE4.size
  replace hO3 := hO3.ext hE4
  replace hT := Ext.tr hT hE4
  clear hE4
  go_wp2_with fail
  refine (specCommitState aList aParent aMemo aState _ _ _ _ _ _ _ (OwnV.sls hO3) hs_aList hn_aList hs_aMemo hO4.sl hO4.shape hs_aState hn_aState).mono ?_
  rintro e w5 ⟨⟨v5, rfl, hO5⟩, hE5⟩
  have z5 : w4.heap.size ≤ w5.heap.size := hE5.size
  replace hO3 := hO3.ext hE5
  replace hO4 := hO4.ext hE5
  replace hT := Ext.tr hT hE5
  clear hE5
  go_wp2_with fail
  refine (toVersionS aList _ _ _ _ (hv_aList.ext hT) hn_aList).mono ?_
  rintro e w6 ⟨⟨v6, rfl, hO6⟩, hE6⟩
  have z6 : w5.heap.size ≤ w6.heap.size := hE6.size
  replace hO3 := hO3.ext hE6
  replace hO4 := hO4.ext hE6
  replace hO5 := hO5.ext hE6
  replace hT := Ext.tr hT hE6
  clear hE6
  go_wp2_with fail
  refine (toSettingS aState _ _ _ _ (hv_aState.ext hT) hn_aState).mono ?_
  rintro e w7 ⟨⟨v7, rfl, hO7⟩, hE7⟩
  have z7 : w6.heap.size ≤ w7.heap.size := hE7.size
  replace hO3 := hO3.ext hE7
  replace hO4 := hO4.ext hE7
  replace hO5 := hO5.ext hE7
  replace hO6 := hO6.ext hE7
  replace hT := Ext.tr hT hE7
  clear hE7
  go_wp2_with fail
  refine (implCommitState aList aParent aMemo aState _ _ _ _ _ _ _ (OwnV.sls hO6) hs_aList hn_aList hs_aMemo hO7.sl hO7.shape hs_aState hn_aState).mono ?_
  rintro e w8 ⟨⟨v8, rfl, hO8⟩, hE8⟩
  have z8 : w7.heap.size ≤ w8.heap.size := hE8.size
  replace hO3 := hO3.ext hE8
  replace hO4 := hO4.ext hE8
  replace hO5 := hO5.ext hE8
  replace hO6 := hO6.ext hE8
  replace hO7 := hO7.ext hE8
  replace hT := Ext.tr hT hE8
  clear hE8
  go_wp2_with fail
  refine (eqVersionS ((commitR aList aParent aMemo aState).1) _ _ _ _ _ _ _ hO8.sl hO5.sl hO8.2.1).mono ?_
  rintro e w9 ⟨rfl, hE9⟩
  have z9 : w8.heap.size ≤ w9.heap.size := hE9.size
  replace hO3 := hO3.ext hE9
  replace hO4 := hO4.ext hE9
  replace hO5 := hO5.ext hE9
  replace hO6 := hO6.ext hE9
  replace hO7 := hO7.ext hE9
  replace hO8 := hO8.ext hE9
  replace hT := Ext.tr hT hE9
  clear hE9
  go_wp2_with fail
  refine (toVersionS aList _ _ _ _ (hv_aList.ext hT) hn_aList).mono ?_
  rintro e w10 ⟨⟨v10, rfl, hO10⟩, hE10⟩
  have z10 : w9.heap.size ≤ w10.heap.size := hE10.size
  replace hO3 := hO3.ext hE10
  replace hO4 := hO4.ext hE10
  replace hO5 := hO5.ext hE10
  replace hO6 := hO6.ext hE10
  replace hO7 := hO7.ext hE10
  replace hO8 := hO8.ext hE10
  replace hT := Ext.tr hT hE10
  clear hE10
  go_wp2_with fail
  refine (eqVersionS (aList) _ _ _ _ _ _ _ hO6.sl hO10.sl (by omega)).mono ?_
  rintro e w11 ⟨rfl, hE11⟩
  have z11 : w10.heap.size ≤ w11.heap.size := hE11.size
  replace hO3 := hO3.ext hE11
  replace hO4 := hO4.ext hE11
  replace hO5 := hO5.ext hE11
  replace hO6 := hO6.ext hE11
  replace hO7 := hO7.ext hE11
  replace hO8 := hO8.ext hE11
  replace hO10 := hO10.ext hE11
  replace hT := Ext.tr hT hE11
  clear hE11
  clear hO10
  go_wp2_with fail
  refine (toSettingS aState _ _ _ _ (hv_aState.ext hT) hn_aState).mono ?_
  rintro e w12 ⟨⟨v12, rfl, hO12⟩, hE12⟩
  have z12 : w11.heap.size ≤ w12.heap.size := hE12.size
  replace hO3 := hO3.ext hE12
  replace hO4 := hO4.ext hE12
  replace hO5 := hO5.ext hE12
  replace hO6 := hO6.ext hE12
  replace hO7 := hO7.ext hE12
  replace hO8 := hO8.ext hE12
  replace hT := Ext.tr hT hE12
  clear hE12
  go_wp2_with fail
  refine (eqSettingS (aState) _ _ _ _ _ _ _ hO7.sl hO12.sl (by omega)).mono ?_
  rintro e w13 ⟨rfl, hE13⟩
  have z13 : w12.heap.size ≤ w13.heap.size := hE13.size
  replace hO3 := hO3.ext hE13
  replace hO4 := hO4.ext hE13
  replace hO5 := hO5.ext hE13
  replace hO6 := hO6.ext hE13
  replace hO7 := hO7.ext hE13
  replace hO8 := hO8.ext hE13
  replace hO12 := hO12.ext hE13
  replace hT := Ext.tr hT hE13
  clear hE13
  clear hO12
  go_wp2_with fail
  refine (markVersionS (1) _ _ _ _ _ hO6 (by omega) (by have := hO6.2.1; omega)).mono ?_
  rintro e w14 ⟨rfl, hM14, hK14⟩
  have z14 : w13.heap.size ≤ w14.heap.size := hK14.size
  replace hO3 := hO3.keep hK14 (by omega)
  replace hO4 := hO4.keep hK14 (by omega)
  replace hO5 := hO5.keep hK14 (by omega)
  replace hO7 := hO7.keep hK14 (by omega)
  replace hO8 := hO8.keep hK14 (by omega)
  replace hT := hK14.ext hT (by omega)
  clear hK14
  have hnn14 := hO6.2.1
  obtain ⟨hnn14a, hnn14b⟩ := hnn14
  clear hO6
  go_wp2_with fail
  refine (markSettingS (1 + 3 * ((aList).length : Int) + 2 * (totN nV (aList) : Int)) _ _ _ _ _ _ hO7 (by omega) (by have := hO7.2.1; omega)).mono ?_
  rintro e w15 ⟨rfl, hM15, hK15⟩
  have z15 : w14.heap.size ≤ w15.heap.size := hK15.size
  replace hO3 := hO3.keep hK15 (by omega)
  replace hO4 := hO4.keep hK15 (by omega)
  replace hO5 := hO5.keep hK15 (by omega)
  replace hM14 := hM14.keep hK15 (by omega)
  replace hO8 := hO8.keep hK15 (by omega)
  replace hT := hK15.ext hT (by omega)
  clear hK15
  clear hO7
  have hb15 := hM15.2.1
  go_wp2_with fail
  refine (eqVersionS ((commitR aList aParent aMemo aState).1) _ _ _ _ _ _ _ hO8.sl hO5.sl hO8.2.1).mono ?_
  rintro e w16 ⟨rfl, hE16⟩
  have z16 : w15.heap.size ≤ w16.heap.size := hE16.size
  replace hO3 := hO3.ext hE16
  replace hO4 := hO4.ext hE16
  replace hO5 := hO5.ext hE16
  replace hM14 := hM14.ext hE16
  replace hM15 := hM15.ext hE16
  replace hO8 := hO8.ext hE16
  replace hT := Ext.tr hT hE16
  clear hE16
  go_wp2_with fail
  refine (markVersionS (1) _ _ _ _ _ hO8 (by omega) (by have := hO8.2.1; omega)).mono ?_
  rintro e w17 ⟨rfl, hM17, hK17⟩
  have z17 : w16.heap.size ≤ w17.heap.size := hK17.size
  replace hO3 := hO3.keep hK17 (by omega)
  replace hO4 := hO4.keep hK17 (by omega)
  replace hO5 := hO5.keep hK17 (by omega)
  replace hM14 := hM14.keep hK17 (by omega)
  replace hM15 := hM15.keep hK17 (by omega)
  replace hT := hK17.ext hT (by omega)
  clear hK17
  have hnn17 := hO8.2.1
  obtain ⟨hnn17a, hnn17b⟩ := hnn17
  clear hO8
  go_wp2_with fail
  refine (heldVersionS (1) _ _ _ ((commitR aList aParent aMemo aState).1) _ hM17.sl ⟨hnn17a, hnn17b⟩ (by omega) (by omega)).mono ?_
  rintro e w18 ⟨rfl, hE18⟩
  have z18 : w17.heap.size ≤ w18.heap.size := hE18.size
  replace hO3 := hO3.ext hE18
  replace hO4 := hO4.ext hE18
  replace hO5 := hO5.ext hE18
  replace hM14 := hM14.ext hE18
  replace hM15 := hM15.ext hE18
  replace hM17 := hM17.ext hE18
  replace hT := Ext.tr hT hE18
  clear hE18
  go_wp2_with fail
  refine (toVersionS aList _ _ _ _ (hv_aList.ext hT) hn_aList).mono ?_
  rintro e w19 ⟨⟨v19, rfl, hO19⟩, hE19⟩
  have z19 : w18.heap.size ≤ w19.heap.size := hE19.size
  replace hO3 := hO3.ext hE19
  replace hO4 := hO4.ext hE19
  replace hO5 := hO5.ext hE19
  replace hM14 := hM14.ext hE19
  replace hM15 := hM15.ext hE19
  replace hM17 := hM17.ext hE19
  replace hT := Ext.tr hT hE19
  clear hE19
  go_wp2_with fail
  refine (toSettingS aState _ _ _ _ (hv_aState.ext hT) hn_aState).mono ?_
  rintro e w20 ⟨⟨v20, rfl, hO20⟩, hE20⟩
  have z20 : w19.heap.size ≤ w20.heap.size := hE20.size
  replace hO3 := hO3.ext hE20
  replace hO4 := hO4.ext hE20
  replace hO5 := hO5.ext hE20
  replace hM14 := hM14.ext hE20
  replace hM15 := hM15.ext hE20
  replace hM17 := hM17.ext hE20
  replace hO19 := hO19.ext hE20
  replace hT := Ext.tr hT hE20
  clear hE20
  go_wp2_with fail
  refine (implCommitState aList aParent aMemo aState _ _ _ _ _ _ _ (OwnV.sls hO19) hs_aList hn_aList hs_aMemo hO20.sl hO20.shape hs_aState hn_aState).mono ?_
  rintro e w21 ⟨⟨v21, rfl, hO21⟩, hE21⟩
  have z21 : w20.heap.size ≤ w21.heap.size := hE21.size
  replace hO3 := hO3.ext hE21
  replace hO4 := hO4.ext hE21
  replace hO5 := hO5.ext hE21
  replace hM14 := hM14.ext hE21
  replace hM15 := hM15.ext hE21
  replace hM17 := hM17.ext hE21
  replace hO19 := hO19.ext hE21
  replace hO20 := hO20.ext hE21
  replace hT := Ext.tr hT hE21
  clear hE21
  go_wp2_with fail
  refine (eqVersionS ((commitR aList aParent aMemo aState).1) _ _ _ _ _ _ _ hO21.sl hO5.sl hO21.2.1).mono ?_
  rintro e w22 ⟨rfl, hE22⟩
  have z22 : w21.heap.size ≤ w22.heap.size := hE22.size
  replace hO3 := hO3.ext hE22
  replace hO4 := hO4.ext hE22
  replace hO5 := hO5.ext hE22
  replace hM14 := hM14.ext hE22
  replace hM15 := hM15.ext hE22
  replace hM17 := hM17.ext hE22
  replace hO19 := hO19.ext hE22
  replace hO20 := hO20.ext hE22
  replace hO21 := hO21.ext hE22
  replace hT := Ext.tr hT hE22
  clear hE22
  go_wp2_with fail
  refine (heldVersionS (1) _ _ _ ((commitR aList aParent aMemo aState).1) _ hM17.sl ⟨hnn17a, hnn17b⟩ (by omega) (by omega)).mono ?_
  rintro e w23 ⟨rfl, hE23⟩
  have z23 : w22.heap.size ≤ w23.heap.size := hE23.size
  replace hO3 := hO3.ext hE23
  replace hO4 := hO4.ext hE23
  replace hO5 := hO5.ext hE23
  replace hM14 := hM14.ext hE23
  replace hM15 := hM15.ext hE23
  replace hM17 := hM17.ext hE23
  replace hO19 := hO19.ext hE23
  replace hO20 := hO20.ext hE23
  replace hO21 := hO21.ext hE23
  replace hT := Ext.tr hT hE23
  clear hE23
  go_wp2
  go_ret
  exact ⟨rfl, hT⟩
end Go.Proofs.Ythffakaddohlnaa
