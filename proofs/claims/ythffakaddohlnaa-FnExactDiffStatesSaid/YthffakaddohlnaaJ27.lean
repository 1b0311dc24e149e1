/- Contracts of DiffStates in both packages: the program's function. -/
import Derived.Test.YthffakaddohlnaaI27
namespace Go.Proofs.Ythffakaddohlnaa
set_option linter.unusedVariables false
open Go.RowKit
theorem implDiffNo (xs ys : List Setting) (lo hi lo2 hi2 : Nat) (v v2 : Value) (w : World) (hv : Sl lo hi w 2 v xs.length (flat Setting.enc xs)) (hs : ∀ x ∈ xs, x.name.size ≤ maxLen) (hn : xs.length ≤ 1048576) (hv2 : Sl lo2 hi2 w 2 v2 ys.length (flat Setting.enc ys)) (hs2 : ∀ x ∈ ys, x.name.size ≤ maxLen) (hn2 : ys.length ≤ 1048576) (hno : (stateOkB xs && stateOkB ys) = false) :
    Calls Try.prog 27 #[v, v2] w fun e w' => (∃ v', e = .returned (.tuple #[v', .int .i64 (diffR xs ys).2]) ∧ Own w.heap.size w'.heap.size w' 77 3 v' (diffR xs ys).1.length (flat Change.enc (diffR xs ys).1)) ∧ Ext w w' := by
  have HQ := hid (diffR_no hno)
  cases h1 : stateOkB xs
  · go_enter Try.func27, Try.ntmps27
    go_wp2_with fail
    refine (cv (stateImpl xs lo hi v _ hv hs hn) (vb h1)).mono ?_
    rintro e w1 ⟨rfl, hE⟩
    go_wp2
    go_ret2
    exact ⟨⟨_, by rw [HQ.out]; rfl, by rw [HQ.out]; exact Own.nil _ _ hE⟩, hE⟩
  · have h2 : stateOkB ys = false := by rw [h1] at hno; simpa using hno
    go_enter Try.func27, Try.ntmps27
    go_wp2_with fail
    refine (cv (stateImpl xs lo hi v _ hv hs hn) (vb h1)).mono ?_
    rintro e w1 ⟨rfl, hE⟩
    go_wp2_with fail
    refine (cv (stateImpl ys lo2 hi2 v2 _ (hv2.ext hE) hs2 hn2) (vb h2)).mono ?_
    rintro e w2 ⟨rfl, hE2⟩
    replace hE := Ext.tr hE hE2
    go_wp2
    go_ret2
    exact ⟨⟨_, by rw [HQ.out]; rfl, by rw [HQ.out]; exact Own.nil _ _ hE⟩, hE⟩
theorem valAtYes {xs : List Setting} {s : ByteArray} {j : Nat} (hj : j < xs.length) (h : nameIx xs s = (j : Int)) : (Value.tuple #[.int .i64 (valAt xs (nameIx xs s)), .bool (decide (0 ≤ nameIx xs s))]) = .tuple #[.int .i64 xs[j].value, .bool true] := by
  rw [h, valAt_nat xs j hj]; simp
theorem valAtNo {xs : List Setting} {s : ByteArray} (h : nameIx xs s < 0) : (Value.tuple #[.int .i64 (valAt xs (nameIx xs s)), .bool (decide (0 ≤ nameIx xs s))]) = .tuple #[.int .i64 0, .bool false] := by
  unfold valAt; rw [if_pos h]
  have : decide (0 ≤ nameIx xs s) = false := by simpa using h
  rw [this]
set_option maxRecDepth 100000 in
set_option maxHeartbeats 4000000 in
theorem implDiffStates (xs ys : List Setting) (lo hi lo2 hi2 : Nat) (v v2 : Value) (w : World) (hv : Sl lo hi w 2 v xs.length (flat Setting.enc xs)) (hs : ∀ x ∈ xs, x.name.size ≤ maxLen) (hn : xs.length ≤ 1048576) (hv2 : Sl lo2 hi2 w 2 v2 ys.length (flat Setting.enc ys)) (hs2 : ∀ x ∈ ys, x.name.size ≤ maxLen) (hn2 : ys.length ≤ 1048576) :
    Calls Try.prog 27 #[v, v2] w fun e w' => (∃ v', e = .returned (.tuple #[v', .int .i64 (diffR xs ys).2]) ∧ Own w.heap.size w'.heap.size w' 77 3 v' (diffR xs ys).1.length (flat Change.enc (diffR xs ys).1)) ∧ Ext w w' := by
  cases hno : (stateOkB xs && stateOkB ys)
  · exact implDiffNo xs ys lo hi lo2 hi2 v v2 w hv hs hn hv2 hs2 hn2 hno
  rw [Bool.and_eq_true] at hno
  obtain ⟨h1, h2⟩ := hno
  have HQ := hid (diffR_ok h1 h2)
  have hx24 := state_len h1
  have hy24 := state_len h2
  have hv0 := hv
  have hv20 := hv2
  obtain ⟨hhi, _, A, c, rfl, hnc, hcm, hcell⟩ := hv0
  obtain ⟨hhi2, _, A2, c2, rfl, hnc2, hcm2, hcell2⟩ := hv20
  go_enter Try.func27, Try.ntmps27
  go_wp2_with fail
  refine (cv (stateImpl xs lo hi _ _ hv hs hn) (vb h1)).mono ?_
  rintro e w1 ⟨rfl, hE⟩
  go_wp2_with fail
  refine (cv (stateImpl ys lo2 hi2 _ _ (hv2.ext hE) hs2 hn2) (vb h2)).mono ?_
  rintro e w2 ⟨rfl, hE2⟩
  replace hE := Ext.tr hE hE2
  have hz := hE.size
  go_wp2
  go_loopw [6, 25] (fun u i wr => ∃ k : Nat, k ≤ xs.length ∧ i = .int .i64 k ∧ wr.ownsRow w.heap.size 77 3 u (drops xs ys k).length (flat Change.enc (drops xs ys k)) ∧ Ext w wr) (fun _ i _ => xs.length - (intOf i).toNat)
  case atStart => exact ⟨0, by omega, rfl, World.ownsRow_nil _ _ _ _, hE⟩
  case round =>
    obtain ⟨k, hk, rfl, hu, hE3⟩ := hrel
    by_cases hlt : k < xs.length
    · obtain ⟨b, off, rfl, hb1, hb2, hc⟩ := hcell (by omega)
      have hbw : b < w.heap.size := by omega
      obtain ⟨c0, c1⟩ := Setting.at_of hc hE3 hbw k hlt
      clear hc
      have hz3 := hE3.size
      have hil := drops_len xs ys k hk
      have HX := hid (drops_succ xs ys k hlt)
      by_cases hd : nameIx ys xs[k].name < 0
      · have HD := hid (show drop1 ys xs[k] = [⟨2, xs[k].name, xs[k].value⟩] by unfold drop1; rw [if_pos hd])
        have HV := hid (valAtNo hd)
        go_wp2_with fail
        generalize hA : wr.alloc _ = B
        have hEB : Ext wr B := by rw [← hA]; exact Ext.new _ _
        have hBk : Blk B wr.heap.size 61 #[.string xs[k].name, .int .i64 xs[k].value] := by rw [← hA]; exact Blk.new _ _ _
        have huB := ownE hu hEB
        clear hA c0 c1 hu
        refine (cv (valueAt ys xs[k].name lo2 hi2 _ _ (hv2.ext (Ext.tr hE3 hEB)) hn2) HV.out).mono ?_
        rintro e w3 ⟨rfl, hE4⟩
        have hBk3 := hBk.ext hE4
        have x0 := hBk3.cell 0
        have x1 := hBk3.cell 1
        simp at x0 x1
        have hu3 := ownE huB hE4
        replace hE3 := Ext.tr (Ext.tr hE3 hEB) hE4
        have hz4 := hE3.size
        clear hBk hBk3 huB
        go_wp2_with (at_builtin; refine wp_append1 w3 rfl (.tmp 38) (.tmp 41) _ rfl w.heap.size 77 3 32 _ Try.underlying38 infoChange rfl (by omega) (by omega) _ _ _ hu3 rfl [.int .i64 2, .string xs[k].name, .int .i64 xs[k].value] rfl (encC_one _ _ _) _ rfl rfl (by omega) hz4 ?_; intro v' w' ho' hb')
        go_roundw
        case rel => exact ⟨k + 1, by omega, by go_num, by rw [HX.out, HD.out, flat_snoc, List.length_append]; exact ho', hE3.trans hb'⟩
        case measure => simp [intOf]; omega
      · have HD := hid (show drop1 ys xs[k] = [] by unfold drop1; rw [if_neg hd])
        obtain ⟨j, hj, hje, hjn⟩ := nameIx_at hd
        have HV := hid (valAtYes hj hje)
        clear hje hjn hd
        go_wp2_with fail
        generalize hA : wr.alloc _ = B
        have hEB : Ext wr B := by rw [← hA]; exact Ext.new _ _
        have huB := ownE hu hEB
        clear hA c0 c1 hu
        refine (cv (valueAt ys xs[k].name lo2 hi2 _ _ (hv2.ext (Ext.tr hE3 hEB)) hn2) HV.out).mono ?_
        rintro e w3 ⟨rfl, hE4⟩
        have hu3 := ownE huB hE4
        replace hE3 := Ext.tr (Ext.tr hE3 hEB) hE4
        clear huB
        go_wp2
        go_roundw
        case rel => exact ⟨k + 1, by omega, by go_num, by rw [HX.out, HD.out, List.append_nil]; exact hu3, hE3⟩
        case measure => simp [intOf]; omega
    · obtain rfl : k = xs.length := by omega
      have HU := hid hu
      have HZ3 := hid hE3.size
      have hdl := drops_len xs ys xs.length (Nat.le_refl _)
      clear hu
      go_wp2
      go_loopw [6, 46] (fun u i wr => ∃ k : Nat, k ≤ ys.length ∧ i = .int .i64 k ∧ wr.ownsRow w.heap.size 77 3 u (diffs xs ys k).length (flat Change.enc (diffs xs ys k)) ∧ Ext w wr) (fun _ i _ => ys.length - (intOf i).toNat)
      case atStart => exact ⟨0, by omega, rfl, by have h := HU.out; simpa [diffs, sets] using h, hE3⟩
      case round =>
        obtain ⟨k, hk, rfl, hu, hE4⟩ := hrel
        clear hE3
        by_cases hlt : k < ys.length
        · obtain ⟨b, off, rfl, hb1, hb2, hc⟩ := hcell2 (by omega)
          have hbw : b < w.heap.size := by omega
          obtain ⟨c0, c1⟩ := Setting.at_of hc hE4 hbw k hlt
          clear hc
          have hz4 := hE4.size
          have hil : (diffs xs ys k).length ≤ 48 := by unfold diffs; rw [List.length_append]; have := sets_len xs ys k hk; omega
          by_cases hd : nameIx xs ys[k].name < 0
          · have HX := hid (diffs_snoc xs ys k hlt _ (set1_new hd))
            have HV := hid (valAtNo hd)
            clear hd
            go_wp2_with fail
            generalize hA : wr.alloc _ = B
            have hEB : Ext wr B := by rw [← hA]; exact Ext.new _ _
            have hBk : Blk B wr.heap.size 61 #[.string ys[k].name, .int .i64 ys[k].value] := by rw [← hA]; exact Blk.new _ _ _
            have huB := ownE hu hEB
            clear hA c0 c1 hu
            refine (cv (valueAt xs ys[k].name lo hi _ _ (hv.ext (Ext.tr hE4 hEB)) hn) HV.out).mono ?_
            rintro e w3 ⟨rfl, hE5⟩
            have hBk3 := hBk.ext hE5
            have x0 := hBk3.cell 0
            have x1 := hBk3.cell 1
            simp at x0 x1
            have hu3 := ownE huB hE5
            replace hE4 := Ext.tr (Ext.tr hE4 hEB) hE5
            have hz5 := hE4.size
            clear hBk hBk3 huB
            go_wp2_with (at_builtin; refine wp_append1 w3 rfl (.tmp 65) (.tmp 68) _ rfl w.heap.size 77 3 32 _ Try.underlying38 infoChange rfl (by omega) (by omega) _ _ _ hu3 rfl [.int .i64 1, .string ys[k].name, .int .i64 ys[k].value] rfl (encC_one _ _ _) _ rfl rfl (by omega) hz5 ?_; intro v' w' ho' hb')
            go_roundw
            case rel => exact ⟨k + 1, by omega, by go_num, by rw [HX.out, flat_snoc, List.length_append]; exact ho', hE4.trans hb'⟩
            case measure => simp [intOf]; omega
          · obtain ⟨j, hj, hje, hjn⟩ := nameIx_at hd
            have HJ := hid hje
            have HV := hid (valAtYes hj hje)
            clear hje hjn hd
            by_cases hv3 : xs[j].value = ys[k].value
            · have HX := hid (diffs_snoc xs ys k hlt _ (set1_same hj HJ.out hv3))
              have HV3 := hid hv3
              clear hv3
              go_wp2_with fail
              generalize hA : wr.alloc _ = B
              have hEB : Ext wr B := by rw [← hA]; exact Ext.new _ _
              have hBk : Blk B wr.heap.size 61 #[.string ys[k].name, .int .i64 ys[k].value] := by rw [← hA]; exact Blk.new _ _ _
              have huB := ownE hu hEB
              clear hA c0 c1 hu
              refine (cv (valueAt xs ys[k].name lo hi _ _ (hv.ext (Ext.tr hE4 hEB)) hn) (HV.out.trans (by rw [HV3.out]))).mono ?_
              rintro e w3 ⟨rfl, hE5⟩
              have hBk3 := hBk.ext hE5
              have x0 := hBk3.cell 0
              have x1 := hBk3.cell 1
              simp at x0 x1
              have hu3 := ownE huB hE5
              replace hE4 := Ext.tr (Ext.tr hE4 hEB) hE5
              have hz5 := hE4.size
              clear hBk hBk3 huB
              go_wp2
              go_roundw
              case rel => exact ⟨k + 1, by omega, by go_num, by rw [HX.out, List.append_nil]; exact hu3, hE4⟩
              case measure => simp [intOf]; omega
            · have HX := hid (diffs_snoc xs ys k hlt _ (set1_turn hj HJ.out hv3))
              go_wp2_with fail
              generalize hA : wr.alloc _ = B
              have hEB : Ext wr B := by rw [← hA]; exact Ext.new _ _
              have hBk : Blk B wr.heap.size 61 #[.string ys[k].name, .int .i64 ys[k].value] := by rw [← hA]; exact Blk.new _ _ _
              have huB := ownE hu hEB
              clear hA c0 c1 hu
              refine (cv (valueAt xs ys[k].name lo hi _ _ (hv.ext (Ext.tr hE4 hEB)) hn) HV.out).mono ?_
              rintro e w3 ⟨rfl, hE5⟩
              have hBk3 := hBk.ext hE5
              have x0 := hBk3.cell 0
              have x1 := hBk3.cell 1
              simp at x0 x1
              have hu3 := ownE huB hE5
              replace hE4 := Ext.tr (Ext.tr hE4 hEB) hE5
              have hz5 := hE4.size
              clear hBk hBk3 huB
              go_wp2_with (at_builtin; refine wp_append1 w3 rfl (.tmp 65) (.tmp 68) _ rfl w.heap.size 77 3 32 _ Try.underlying38 infoChange rfl (by omega) (by omega) _ _ _ hu3 rfl [.int .i64 1, .string ys[k].name, .int .i64 ys[k].value] rfl (encC_one _ _ _) _ rfl rfl (by omega) hz5 ?_; intro v' w' ho' hb')
              go_roundw
              case rel => exact ⟨k + 1, by omega, by go_num, by rw [HX.out, flat_snoc, List.length_append]; exact ho', hE4.trans hb'⟩
              case measure => simp [intOf]; omega
        · obtain rfl : k = ys.length := by omega
          have hdl2 := sets_len xs ys ys.length (Nat.le_refl _)
          have hln : (diffs xs ys ys.length).length ≤ 48 := by unfold diffs; rw [List.length_append]; omega
          go_wp2
          go_ret2
          exact ⟨⟨_, by rw [HQ.out]; rfl, by rw [HQ.out]; exact Own.of hu (by show (diffs xs ys ys.length).length ≤ _; omega)⟩, hE4⟩
end Go.Proofs.Ythffakaddohlnaa
