/- The program's list of numbers of a text. -/
import Derived.Test.YtopjccbjdcoanaaDoorRdT
namespace Go.Proofs.YtopjccbjdcoanaaDoor
set_option linter.unusedVariables false
open Go.RowKit
theorem cutW (s : ByteArray) (w : World) (hs : s.size ≤ 1048576) (hc : cpuP w) :
    Calls Tryd.prog 28 #[.string s, .string ⟨#[32]⟩] w fun e w' => e = .returned (.tuple #[.string ⟨(Lib.cut s.data.toList [32]).1.toArray⟩, .string ⟨(Lib.cut s.data.toList [32]).2.1.toArray⟩, .bool (Lib.cut s.data.toList [32]).2.2]) ∧ ∃ n, w' = w.drewN n := by
  obtain ⟨m, hm⟩ := hc
  exact Any.strings_Cut (P := Tryd.prog) (ρ := Tryd.laysM145_ren) { Tryd.laysM145 with } s ⟨#[32]⟩ m w (by omega) hm
def partsOf (s : ByteArray) : List ByteArray := Lib.splitB ⟨#[44]⟩ 0 (min 65 (s.size + 1) - 1) s
theorem splitNW (s : ByteArray) (w : World) (hs : s.size ≤ 1048576) (hc : cpuP w) :
    Calls Tryd.prog 38 #[.string s, .string ⟨#[44]⟩, .int .i64 65] w fun e w' =>
      e = .returned (.slice (some ⟨w.heap.size, 0, none⟩) (partsOf s).length (min 65 (s.size + 1))) ∧ w' = w.alloc (.cells (Lib.cellsOf (partsOf s) (min 65 (s.size + 1))) 9) := by
  obtain ⟨m, hm⟩ := hc
  exact Any.strings_SplitN (P := Tryd.prog) (ρ := Tryd.laysM147_ren) { Tryd.laysM147 with } Tryd.laysM147.i9 s ⟨#[44]⟩ 65 m w (by omega) hm (by decide) (by omega) (by omega)
theorem splitB_le (sep : ByteArray) (save : Nat) : ∀ (k : Nat) (s : ByteArray), ∀ p ∈ Lib.splitB sep save k s, p.size ≤ s.size
  | 0, s, p, hp => by rw [Lib.splitB_zero] at hp; obtain rfl := List.mem_singleton.1 hp; exact Nat.le_refl _
  | k + 1, s, p, hp => by
    unfold Lib.splitB at hp
    split at hp
    · obtain rfl := List.mem_singleton.1 hp; exact Nat.le_refl _
    · rcases List.mem_cons.1 hp with rfl | hp
      · rw [ByteArray.size_extract]; omega
      · have := splitB_le sep save k _ p hp
        rw [ByteArray.size_extract] at this; omega
theorem parts_len (s : ByteArray) : (partsOf s).length ≤ 65 := by
  have := Lib.splitB_length_le ⟨#[44]⟩ 0 (min 65 (s.size + 1) - 1) s
  unfold partsOf; omega
theorem parts_le (s : ByteArray) : ∀ p ∈ partsOf s, p.size ≤ s.size := splitB_le _ _ _ s
theorem parts_pos (s : ByteArray) : 0 < (partsOf s).length := by
  unfold partsOf
  cases min 65 (s.size + 1) - 1 with
  | zero => rw [Lib.splitB_zero]; simp
  | succ k => unfold Lib.splitB; split <;> simp
theorem parts_nil {s : ByteArray} (h : s.size = 0) : partsOf s = [s] := by
  unfold partsOf; rw [h]; rfl
theorem parts_join {s : ByteArray} {ms : List Int} (h4 : ms.length = 4) (hm : ∀ m ∈ ms, numOk m) (hs : s.data.toList = Lib.join (digs ms) [44]) : (partsOf s).map (·.data.toList) = digs ms := by
  have hne : digs ms ≠ [] := fun e => by have h9 := congrArg List.length e; rw [digs_len, h4] at h9; simp at h9
  have hlen : 3 ≤ s.size := by
    obtain ⟨a, b, c, d, rfl⟩ := four_of h4
    have e : s.size = s.data.toList.length := rfl
    rw [e, hs]
    unfold digs
    simp only [List.map_cons, List.map_nil, join_cons2, List.length_append, List.length_singleton]
    omega
  unfold partsOf
  rw [Lib.splitB_data, hs]
  exact splitK_join _ _ hne (digs_no (fun n hn => hm n hn) (by decide)) (by rw [digs_len]; omega)
theorem digs_inj : ∀ {ms ns : List Int}, (∀ m ∈ ms, numOk m) → digs ns = digs ms → ns = ms
  | [], [], _, _ => rfl
  | [], _ :: _, _, h => by simp [digs] at h
  | _ :: _, [], _, h => by simp [digs] at h
  | m :: ms, n :: ns, hm, h => by
    unfold digs at h
    simp only [List.map_cons, List.cons.injEq] at h
    have h1 := itoa_inj_nn (hm m (by simp)).1 h.1.symm
    have h2 := digs_inj (ms := ms) (ns := ns) (fun x hx => hm x (by simp [hx])) h.2
    rw [h1, h2]
theorem join_dash {ms : List Int} (h4 : ms.length = 4) (hm : ∀ m ∈ ms, numOk m) : Lib.join (digs ms) [44] ≠ [45] := by
  intro e
  have hne : digs ms ≠ [] := fun e => by have h9 := congrArg List.length e; rw [digs_len, h4] at h9; simp at h9
  have hs := splitL_of 44 (digs ms) hne (digs_no (fun n hn => hm n hn) (by decide))
  rw [e, splitL_none 44 [45] (by decide)] at hs
  have h9 := congrArg List.length hs
  rw [digs_len, h4] at h9; simp at h9
/-- what ReadList hands back -/
def rlPost (s : ByteArray) (base : Nat) (e : Ending) (w' : World) : Prop := ∃ (v : Value) (ns : List Int) (ok : Bool), e = .returned (.tuple #[v, .bool ok]) ∧ w'.ownsRow base 2 1 v ns.length (flat encI ns) ∧ ns.length ≤ 65 ∧ (ok = true → s.size ≠ 0) ∧ ∀ ms : List Int, ms.length = 4 → (∀ m ∈ ms, numOk m) → s.data.toList = Lib.join (digs ms) [44] → ok = true ∧ ns = ms
theorem rlPost_no {s : ByteArray} {base : Nat} {w' : World} (h : ∀ ms : List Int, ms.length = 4 → (∀ m ∈ ms, numOk m) → s.data.toList = Lib.join (digs ms) [44] → False) : rlPost s base (.returned (.tuple #[.slice none 0 0, .bool false])) w' :=
  ⟨_, [], false, rfl, own_nilS _ _ _, by simp, fun e => (by cases e), fun ms h1 h2 h3 => (h ms h1 h2 h3).elim⟩
theorem rlPost_dash {base : Nat} {w' : World} : rlPost ⟨#[45]⟩ base (.returned (.tuple #[.slice none 0 0, .bool true])) w' :=
  ⟨_, [], true, rfl, own_nilS _ _ _, by simp, fun _ => by decide, fun ms h1 h2 h3 => (join_dash h1 h2 h3.symm).elim⟩
theorem encS_cells {ps : List ByteArray} {N k : Nat} (hk : k < ps.length) : (Lib.cellsOf ps N)[k]? = some (.string ps[k]) := by
  unfold Lib.cellsOf
  rw [List.getElem?_toArray, List.getElem?_append_left (by simpa using hk)]
  simp [hk]
set_option maxRecDepth 100000 in
set_option maxHeartbeats 1000000 in
theorem readList (s : ByteArray) (w : World) (hs : s.size ≤ 1048576) (he : envP w) :
    Calls Tryd.prog 29 #[.string s] w fun e w' => rlPost s w.heap.size e w' ∧ Ext w w' := by
  by_cases h0 : s = ⟨#[45]⟩
  · subst h0
    have HQ := hid (fun W' => rlPost_dash (base := w.heap.size) (w' := W'))
    go_enter Tryd.func29, Tryd.ntmps29
    go_wp2
    go_ret2
    exact ⟨HQ.out _, Below.refl _ _⟩
  have h1b : (s.toList == [45]) = false := by have := str_ne h0; rwa [show (⟨#[45]⟩ : ByteArray).toList = [45] by rw [ByteArray.toList_eq]] at this
  have HSP := hid (splitNW s w hs he.2.2.2)
  obtain ⟨ps, HPS⟩ : ∃ ps, Hid (partsOf s = ps) := ⟨_, hid rfl⟩
  rw [HPS.out] at HSP
  obtain ⟨N, HN⟩ : ∃ N, Hid (min 65 (s.size + 1) = N) := ⟨_, hid rfl⟩
  rw [HN.out] at HSP
  have hpl : ps.length ≤ 65 := by rw [← HPS.out]; exact parts_len s
  have hpp : 0 < ps.length := by rw [← HPS.out]; exact parts_pos s
  have HPL : Hid (∀ p ∈ ps, p.size ≤ s.size) := hid (by rw [← HPS.out]; exact parts_le s)
  have HEV := hid he
  clear he h0
  go_enter Tryd.func29, Tryd.ntmps29
  have HXN := hid (fun w1 (hw1 : w1 = w.alloc (.cells (Lib.cellsOf ps N) 9)) => show Ext w w1 ∧ ∀ W, Ext w1 W → ∀ k (hk : k < ps.length), W.cell? ⟨w.heap.size, k, none⟩ = some (.string ps[k]) from
    ⟨by rw [hw1]; exact Ext.new _ _, fun W hW k hk => by
      have hB : Blk w1 w.heap.size 9 (Lib.cellsOf ps N) := by rw [hw1]; exact Blk.new _ _ _
      exact ((hB.ext hW).cell k).trans (encS_cells hk)⟩)
  go_wp2_with (go_at_call 38; refine HSP.out.mono ?_; rintro e w1 ⟨rfl, hw1⟩; have hE1 := (HXN.out w1 hw1).1; have HX := hid (HXN.out w1 hw1).2; clear hw1)
  clear HXN HSP
  go_loopw [4, 14] (fun u i wr => ∃ (k : Nat) (ns : List Int), k ≤ ps.length ∧ ns.length = k ∧ i = .int .i64 k ∧ wr.ownsRow w1.heap.size 2 1 u k (flat encI ns) ∧ Hid (digs ns = (ps.take k).map (·.data.toList)) ∧ Ext w1 wr) (fun _ i _ => ps.length - (intOf i).toNat)
  case atStart => exact ⟨0, [], Nat.zero_le _, rfl, rfl, own_nilS _ _ _, hid rfl, Below.refl _ _⟩
  case round =>
    obtain ⟨k, ns, hk, hnk, rfl, hown, HD, hE⟩ := hrel
    by_cases hlt : k < ps.length
    · have hz := hE.size
      have c0 := HX.out wr hE k hlt
      have hpk := HPL.out ps[k] (List.getElem_mem hlt)
      have HRD := hid (readDecimal ps[k] wr (by omega) (HEV.out.ext (Ext.tr hE1 hE)))
      have HTK := hid (show (ps.take (k + 1)).map (·.data.toList) = (ps.take k).map (·.data.toList) ++ [ps[k].data.toList] by rw [List.take_succ_eq_append_getElem hlt, List.map_append]; rfl)
      have HNO := hid (show (∀ m, numOk m → ps[k].data.toList = Lib.itoa m → False) → ∀ ms : List Int, ms.length = 4 → (∀ m ∈ ms, numOk m) → s.data.toList = Lib.join (digs ms) [44] → False from fun h ms h4 hm hj => by
        have hp := parts_join h4 hm hj
        rw [HPS.out] at hp
        have hl := congrArg List.length hp
        rw [List.length_map, digs_len] at hl
        have e : ps[k].data.toList = Lib.itoa (ms[k]'(by omega)) := by
          have e1 : (ps.map (·.data.toList))[k]'(by simpa using hlt) = ps[k].data.toList := by simp
          rw [← e1]
          simp only [hp]
          simp [digs]
        exact h _ (hm _ (List.getElem_mem _)) e)
      go_wp2_with fail
      refine HRD.out.mono ?_
      rintro e w2 ⟨⟨n, b, rfl, hso, hco⟩, hE2⟩
      cases b
      · have HQ := hid (fun W' => rlPost_no (base := w.heap.size) (w' := W') (HNO.out (fun m hm e => by have := hco m hm e; cases this)))
        clear hso hco HNO
        go_wp2
        go_ret2
        exact ⟨HQ.out _, Ext.tr (Ext.tr hE1 hE) hE2⟩
      · have HS := hid (hso rfl)
        have hown2 := ownE hown hE2
        have hE3 := Ext.tr hE hE2
        have hz3 := hE3.size
        clear hso hco HNO
        go_wp2_with (at_builtin; refine wp_append1 w2 rfl (.tmp 25) (.tmp 27) _ rfl w1.heap.size 2 1 8 _ Tryd.underlying38 infoI rfl (by omega) (by omega) _ _ _ hown2 rfl [.int .i64 n] rfl (by simp [Value.oneCell']) _ rfl rfl (by omega) hz3 ?_; intro v' w' ho' hb')
        go_roundw
        case rel => exact ⟨k + 1, ns ++ [n], by omega, by simp; omega, by go_num, by rw [flat_snoc]; exact ho', hid (by rw [HTK.out, ← HD.out, ← HS.out]; simp [digs]), hE3.trans hb'⟩
        case measure => simp [intOf]; omega
    · obtain rfl : k = ps.length := by omega
      have HDS := hid (show digs ns = ps.map (·.data.toList) by rw [HD.out, List.take_length])
      have hS := Sl.of_own hown (by unfold maxLen; omega)
      have hS2 : Sl w1.heap.size wr.heap.size wr 1 u4 ns.length (flat encI ns) := by rw [hnk]; exact hS
      have HT := hid (listTextW ns _ _ u4 wr hS2 (HEV.out.ext (Ext.tr hE1 hE)).1)
      have hz : s.size ≠ 0 := fun e => by
        have h1 := parts_nil e
        rw [HPS.out] at h1
        have h2 := HDS.out
        rw [h1] at h2
        have hl : ns.length = 1 := by have h9 := congrArg List.length h2; rw [digs_len] at h9; simpa using h9
        obtain ⟨m, hm⟩ := List.length_eq_one_iff.1 hl
        rw [hm] at h2
        have h3 : Lib.itoa m = s.data.toList := by simpa [digs] using h2
        have h4 : s.data.toList = [] := List.length_eq_zero_iff.1 e
        exact itoa_ne m (h3.trans h4)
      obtain ⟨_, _, A4, c4, rfl, _, _, _⟩ := hS
      clear hS2
      go_wp2_with fail
      refine HT.out.mono ?_
      rintro e w2 ⟨⟨t, rfl, htx⟩, hE2⟩
      by_cases hts : t = s
      · have HQ := hid (fun W' (hW : Ext wr W') => show rlPost s w.heap.size (.returned (.tuple #[.slice A4 ps.length c4, .bool true])) W' from
          ⟨_, ns, true, rfl, own_base (ownE (by rw [hnk]; exact hown) hW) hE1.size, by omega, fun _ => hz, fun ms h4 hm hj => by
            have hp := parts_join h4 hm hj
            rw [HPS.out, ← HDS.out] at hp
            exact ⟨rfl, digs_inj hm hp⟩⟩)
        subst hts
        clear htx
        go_wp2
        go_ret2
        exact ⟨HQ.out _ hE2, Ext.tr (Ext.tr hE1 hE) hE2⟩
      · have HQ := hid (fun W' => rlPost_no (s := s) (base := w.heap.size) (w' := W') (fun ms h4 hm hj => by
          have hp := parts_join h4 hm hj
          rw [HPS.out, ← HDS.out] at hp
          have e := digs_inj hm hp
          subst e
          exact hts ((htx (by omega) (by omega) (fun n hn => ⟨by have := (hm n hn).1; omega, (hm n hn).2⟩)).trans (text_eq hj.symm))))
        have hne := str_ne hts
        clear htx hts
        go_wp2
        go_ret2
        exact ⟨HQ.out _, Ext.tr (Ext.tr hE1 hE) hE2⟩
end Go.Proofs.YtopjccbjdcoanaaDoor
