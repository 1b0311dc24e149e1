/- Contracts of DiffStates in both packages: the reference's function, where it answers. -/
import Derived.Test.YthffakaddohlnaaH27
namespace Go.Proofs.Ythffakaddohlnaa
set_option linter.unusedVariables false
open Go.RowKit
theorem encC_one (a b : Int) (s : ByteArray) : ∀ y ∈ ([.int .i64 a, .string s, .int .i64 b] : List Value), y.oneCell' = true := by
  intro y hy
  simp only [List.mem_cons, List.not_mem_nil, or_false] at hy
  rcases hy with rfl | rfl | rfl <;> rfl
theorem nameIx_at {xs : List Setting} {s : ByteArray} (h : ¬ nameIx xs s < 0) : ∃ k : Nat, ∃ h : k < xs.length, nameIx xs s = (k : Int) ∧ xs[k].name = s := by
  unfold nameIx findIx at h ⊢
  cases hf : xs.findIdx? (fun x => decide (x.name.toList = s.toList)) with
  | none => rw [hf] at h; simp at h
  | some j =>
    obtain ⟨hk, hp, _⟩ := List.findIdx?_eq_some_iff_getElem.1 hf
    exact ⟨j, hk, rfl, strInj (by simpa using hp)⟩
theorem set1_new {xs : List Setting} {y : Setting} (h : nameIx xs y.name < 0) : set1 xs y = [⟨1, y.name, y.value⟩] := by unfold set1; rw [if_pos h]
theorem set1_same {xs : List Setting} {y : Setting} {j : Nat} (hj : j < xs.length) (h : nameIx xs y.name = (j : Int)) (hv : xs[j].value = y.value) : set1 xs y = [] := by
  unfold set1; rw [h, if_neg (by omega), valAt_nat xs j hj, if_pos hv]
theorem set1_turn {xs : List Setting} {y : Setting} {j : Nat} (hj : j < xs.length) (h : nameIx xs y.name = (j : Int)) (hv : ¬ xs[j].value = y.value) : set1 xs y = [⟨1, y.name, y.value⟩] := by
  unfold set1; rw [h, if_neg (by omega), valAt_nat xs j hj, if_neg hv]
theorem diffs_snoc (xs ys : List Setting) (k : Nat) (h : k < ys.length) (c : List Change) (hc : set1 xs ys[k] = c) : diffs xs ys (k + 1) = diffs xs ys k ++ c := by
  unfold diffs; rw [sets_succ xs ys k h, hc, List.append_assoc]
set_option maxRecDepth 100000 in
set_option maxHeartbeats 4000000 in
theorem specDiffStates (xs ys : List Setting) (lo hi lo2 hi2 : Nat) (v v2 : Value) (w : World) (hv : Sl lo hi w 2 v xs.length (flat Setting.enc xs)) (hs : ∀ x ∈ xs, x.name.size ≤ maxLen) (hn : xs.length ≤ 1048576) (hv2 : Sl lo2 hi2 w 2 v2 ys.length (flat Setting.enc ys)) (hs2 : ∀ x ∈ ys, x.name.size ≤ maxLen) (hn2 : ys.length ≤ 1048576) :
    Calls Try.prog 26 #[v, v2] w fun e w' => (∃ v', e = .returned (.tuple #[v', .int .i64 (diffR xs ys).2]) ∧ Own w.heap.size w'.heap.size w' 77 3 v' (diffR xs ys).1.length (flat Change.enc (diffR xs ys).1)) ∧ Ext w w' := by
  cases hno : (stateOkB xs && stateOkB ys)
  · exact specDiffNo xs ys lo hi lo2 hi2 v v2 w hv hs hn hv2 hs2 hn2 hno
  rw [Bool.and_eq_true] at hno
  obtain ⟨h1, h2⟩ := hno
  have HQ := hid (diffR_ok h1 h2)
  have hx24 := state_len h1
  have hy24 := state_len h2
  have hv0 := hv
  have hv20 := hv2
  obtain ⟨hhi, _, A, c, rfl, hnc, hcm, hcell⟩ := hv0
  obtain ⟨hhi2, _, A2, c2, rfl, hnc2, hcm2, hcell2⟩ := hv20
  go_enter Try.func26, Try.ntmps26
  go_wp2_with fail
  refine (cv (stateSpec xs lo hi _ _ hv hs hn) (vb h1)).mono ?_
  rintro e w1 ⟨rfl, hE⟩
  go_wp2_with fail
  refine (cv (stateSpec ys lo2 hi2 _ _ (hv2.ext hE) hs2 hn2) (vb h2)).mono ?_
  rintro e w2 ⟨rfl, hE2⟩
  replace hE := Ext.tr hE hE2
  have hz := hE.size
  go_wp2
  go_loopw [6, 7] (fun u i wr => ∃ k : Nat, k ≤ xs.length ∧ i = .int .i64 k ∧ wr.ownsRow w.heap.size 77 3 u (drops xs ys k).length (flat Change.enc (drops xs ys k)) ∧ Ext w wr) (fun _ i _ => xs.length - (intOf i).toNat)
  case atStart => exact ⟨0, by omega, rfl, own_empty _ _ _ _ hz, Ext.tr hE (Ext.new _ _)⟩
  case round =>
    obtain ⟨k, hk, rfl, hu, hE3⟩ := hrel
    by_cases hlt : k < xs.length
    · obtain ⟨b, off, rfl, hb1, hb2, hc⟩ := hcell (by omega)
      have hbw : b < w.heap.size := by omega
      obtain ⟨c0, c1⟩ := Setting.at_of hc hE3 hbw k hlt
      clear hc
      have hz3 := hE3.size
      have hil := drops_len xs ys k hk
      have HX := hid (drops_succ xs ys k hlt)
      by_cases hd : nameIx ys xs[k].name < 0
      · have HD := hid (show drop1 ys xs[k] = [⟨2, xs[k].name, xs[k].value⟩] by unfold drop1; rw [if_pos hd])
        go_wp2_with (first | (go_at_call 60; refine (l27At ys xs[k].name lo2 hi2 _ _ (hv2.ext hE3) hn2).mono ?_; rintro e w' ⟨rfl, rfl⟩) | (at_builtin; refine wp_append1 wr rfl (.tmp 33) (.tmp 39) _ rfl w.heap.size 77 3 32 _ Try.underlying38 infoChange rfl (by omega) (by omega) _ _ _ hu rfl [.int .i64 2, .string xs[k].name, .int .i64 xs[k].value] rfl (encC_one _ _ _) _ rfl rfl (by omega) hz3 ?_; intro v' w' ho' hb'))
        go_roundw
        case rel => exact ⟨k + 1, by omega, by go_num, by rw [HX.out, HD.out, flat_snoc, List.length_append]; exact ho', hE3.trans hb'⟩
        case measure => simp [intOf]; omega
      · have HD := hid (show drop1 ys xs[k] = [] by unfold drop1; rw [if_neg hd])
        go_wp2_with (first | (go_at_call 60; refine (l27At ys xs[k].name lo2 hi2 _ _ (hv2.ext hE3) hn2).mono ?_; rintro e w' ⟨rfl, rfl⟩))
        go_roundw
        case rel => exact ⟨k + 1, by omega, by go_num, by rw [HX.out, HD.out, List.append_nil]; exact hu, hE3⟩
        case measure => simp [intOf]; omega
    · obtain rfl : k = xs.length := by omega
      have HU := hid hu
      have HZ3 := hid hE3.size
      have hdl := drops_len xs ys xs.length (Nat.le_refl _)
      clear hu
      go_wp2
      go_loopw [6, 8] (fun u i wr => ∃ k : Nat, k ≤ ys.length ∧ i = .int .i64 k ∧ wr.ownsRow w.heap.size 77 3 u (diffs xs ys k).length (flat Change.enc (diffs xs ys k)) ∧ Ext w wr) (fun _ i _ => ys.length - (intOf i).toNat)
      case atStart => exact ⟨0, by omega, rfl, by have h := HU.out; simpa [diffs, sets] using h, hE3⟩
      case round =>
        obtain ⟨k, hk, rfl, hu, hE4⟩ := hrel
        clear hE3
        by_cases hlt : k < ys.length
        · obtain ⟨b, off, rfl, hb1, hb2, hc⟩ := hcell2 (by omega)
          have hbw : b < w.heap.size := by omega
          obtain ⟨c0, c1⟩ := Setting.at_of hc hE4 hbw k hlt
          clear hc
          have hz4 := hE4.size
          have hil : (diffs xs ys k).length ≤ 48 := by unfold diffs; rw [List.length_append]; have := sets_len xs ys k hk; omega
          by_cases hd : nameIx xs ys[k].name < 0
          · have HX := hid (diffs_snoc xs ys k hlt _ (set1_new hd))
            go_wp2_with (first | (go_at_call 60; refine (l27At xs ys[k].name lo hi _ _ (hv.ext hE4) hn).mono ?_; rintro e w' ⟨rfl, rfl⟩))
            go_quiet (fail)
            replace hu := ownD hu nq
            replace hE4 := Ext.tr hE4 (Ext.drewN wr nq)
            replace c0 : (wr.drewN nq).cell? ⟨b, off + k * 2, none⟩ = _ := c0
            replace c1 : (wr.drewN nq).cell? ⟨b, off + k * 2 + 1, none⟩ = _ := c1
            replace hz4 := hE4.size
            generalize wr.drewN nq = wq at *
            go_wp2_with (at_builtin; refine wp_append1 wq rfl (.tmp 67) (.tmp 73) _ rfl w.heap.size 77 3 32 _ Try.underlying38 infoChange rfl (by omega) (by omega) _ _ _ hu rfl [.int .i64 1, .string ys[k].name, .int .i64 ys[k].value] rfl (encC_one _ _ _) _ rfl rfl (by omega) hz4 ?_; intro v' w' ho' hb')
            go_roundw
            case rel => exact ⟨k + 1, by omega, by go_num, by rw [HX.out, flat_snoc, List.length_append]; exact ho', hE4.trans hb'⟩
            case measure => simp [intOf]; omega
          · obtain ⟨j, hj, hje, hjn⟩ := nameIx_at hd
            obtain ⟨b', off', rfl, hb1', hb2', hc'⟩ := hcell (by omega)
            obtain ⟨d0, d1⟩ := Setting.at_of hc' hE4 (by omega) j hj
            rw [hjn] at d0
            have HJ := hid hje
            have HN := hid hjn
            clear hc' hje hjn hd
            by_cases hv3 : xs[j].value = ys[k].value
            · have HX := hid (diffs_snoc xs ys k hlt _ (set1_same hj HJ.out hv3))
              rw [hv3] at d1
              clear hv3
              go_wp2_with (first | (go_at_call 60; refine (cv (l27At xs ys[k].name lo hi _ _ (hv.ext hE4) hn) (by rw [HJ.out])).mono ?_; rintro e w' ⟨rfl, rfl⟩))
              go_quiet (fail)
              go_wp2
              go_roundw
              case rel => exact ⟨k + 1, by omega, by go_num, by rw [HX.out, List.append_nil]; exact ownD hu _, Ext.tr hE4 (Ext.drewN _ _)⟩
              case measure => simp [intOf]; omega
            · have HX := hid (diffs_snoc xs ys k hlt _ (set1_turn hj HJ.out hv3))
              go_wp2_with (first | (go_at_call 60; refine (cv (l27At xs ys[k].name lo hi _ _ (hv.ext hE4) hn) (by rw [HJ.out])).mono ?_; rintro e w' ⟨rfl, rfl⟩))
              go_quiet (fail)
              replace hu := ownD hu nq
              replace hE4 := Ext.tr hE4 (Ext.drewN wr nq)
              replace c0 : (wr.drewN nq).cell? ⟨b, off + k * 2, none⟩ = _ := c0
              replace c1 : (wr.drewN nq).cell? ⟨b, off + k * 2 + 1, none⟩ = _ := c1
              replace hz4 := hE4.size
              clear d0 d1
              generalize wr.drewN nq = wq at *
              go_wp2_with (at_builtin; refine wp_append1 wq rfl (.tmp 67) (.tmp 73) _ rfl w.heap.size 77 3 32 _ Try.underlying38 infoChange rfl (by omega) (by omega) _ _ _ hu rfl [.int .i64 1, .string ys[k].name, .int .i64 ys[k].value] rfl (encC_one _ _ _) _ rfl rfl (by omega) hz4 ?_; intro v' w' ho' hb')
              go_roundw
              case rel => exact ⟨k + 1, by omega, by go_num, by rw [HX.out, flat_snoc, List.length_append]; exact ho', hE4.trans hb'⟩
              case measure => simp [intOf]; omega
        · obtain rfl : k = ys.length := by omega
          have hdl2 := sets_len xs ys ys.length (Nat.le_refl _)
          have hln : (diffs xs ys ys.length).length ≤ 48 := by unfold diffs; rw [List.length_append]; omega
          go_wp2
          go_ret2
          exact ⟨⟨_, by rw [HQ.out]; rfl, by rw [HQ.out]; exact Own.of hu (by show (diffs xs ys ys.length).length ≤ _; omega)⟩, hE4⟩
end Go.Proofs.Ythffakaddohlnaa
