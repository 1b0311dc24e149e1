/- Drawn series of readings: a contract that tells their size alone. -/
import Derived.Test.YtopjccbjdcoanaaDrawA
namespace Go.Proofs.Ytopjccbjdcoanaa
set_option linter.unusedVariables false
open Go.RowKit
theorem zerosRow (w : World) (m : Nat) (hm : m ≤ 201) : (w.alloc (.cells (zeros (.int .i64 0) (m * 1)) 2)).ownsRow w.heap.size 2 1 (.slice (some ⟨w.heap.size, 0, none⟩) m m) m (flat encI (List.replicate m 0)) := by
  have hf : flat encI (List.replicate m 0) = List.replicate m (.int .i64 0) := by
    induction m with
    | zero => rfl
    | succ m ih => rw [List.replicate_succ, List.replicate_succ, ← ih (by omega)]; rfl
  refine ⟨by rw [hf]; simp, .inr ⟨w.heap.size, m, _, rfl, Nat.le_refl _, Blk.new _ _ _, Nat.le_refl _, by unfold maxLen; omega, zeros_size _ _, ?_⟩⟩
  have : (zeros (.int .i64 0) (m * 1)).toList = List.replicate (m * 1) (.int .i64 0) := toList_madeCells_one _ _
  rw [this, hf, Nat.mul_one, List.take_of_length_le (by simp)]
theorem row_low {w : World} {base base' e K n : Nat} {v : Value} {xs : List Value} (h : w.ownsRow base e K v n xs) (hb : base' ≤ base) : w.ownsRow base' e K v n xs := by
  refine ⟨h.1, ?_⟩
  rcases h.2 with h0 | ⟨g, cap, cur, h1, h2, h3⟩
  · exact .inl h0
  · exact .inr ⟨g, cap, cur, h1, Nat.le_trans hb h2, h3⟩
set_option maxRecDepth 100000 in
set_option maxHeartbeats 2000000 in
theorem drawSeries (g n : Nat) (w : World) (h : Src g n w) (hn : n ≤ 1073741824) :
    Calls Try.prog 63 #[.pointer (some ⟨g, 0, none⟩)] w fun e w' => (∃ (v' : Value) (xs : List Int), e = .returned v' ∧ xs.length ≤ 201 ∧ w'.ownsRow w.heap.size 2 1 v' xs.length (flat encI xs)) ∧ SrcTo g (n + 200) w w' := by
  have hg := h.lt
  have H := hid h
  clear h
  have hmk : ∀ (m : Nat), m ≤ 201 → ∀ W : World, (Instr.makeSlice 27 (.int .i64 (m : Int)) (.int .i64 (m : Int))).run Try.prog W = .ok (.slice (some ⟨W.heap.size, 0, none⟩) m m) (W.alloc (.cells (zeros (.int .i64 0) (m * 1)) 2)) := fun m hm W => run_made 27 2 _ 1 8 Try.underlying27 infoInt m (by omega) (by unfold maxLen; omega) W
  have HMK := hid hmk
  clear hmk
  go_enter Try.func63, Try.ntmps63
  go_wp2_with fail
  refine (srcPick g n 16 _ (H.out.ext (Ext.new _ _)) (by omega) ⟨by omega, by omega⟩).mono ?_
  rintro e w1 ⟨⟨r, rfl, hr0, hr1⟩, hS⟩
  have HS1 := hid ((SrcTo.of H.out (Ext.new w (.cells #[] 2))).tr hS)
  have HO1 := hid (row_keep (own_empty w w.heap.size 2 1 (Nat.le_refl _)) hS.2 (by omega))
  clear hS
  go_wp2_with fail
  refine (srcPick g (n + 2) 25 w1 HS1.out.1 (by omega) ⟨by omega, by omega⟩).mono ?_
  rintro e w2 ⟨⟨q, rfl, hq0, hq1⟩, hS⟩
  have HS2 := hid (HS1.out.tr hS)
  have HO2 := hid (row_keep HO1.out hS.2 (by omega))
  obtain ⟨q, rfl⟩ := Int.eq_ofNat_of_zero_le hq0
  clear hS HO1 HS1
  go_wp2
  go_loopw [3, 4, 5] (fun u r i W => ∃ (k : Nat) (xs : List Int) (z : Int), k ≤ q ∧ i = .int .i64 k ∧ r = .int .i64 z ∧ (0 ≤ z ∧ z + k ≤ 100) ∧ Hid (xs.length + k = q) ∧ Hid (W.ownsRow w.heap.size 2 1 u xs.length (flat encI xs)) ∧ Hid (SrcTo g (n + 4 + 6 * (q - k)) w W)) (fun _ _ i _ => (intOf i).toNat)
  case atStart => exact ⟨q, [], r, by omega, rfl, rfl, by omega, hid (by simp), HO2, hid (HS2.out.more (by omega))⟩
  case round =>
    obtain ⟨k, xs, z, hk, rfl, rfl, ⟨hz0, hz1⟩, HL, HO, HS⟩ := hrel
    clear HO2 HS2
    by_cases hlt : 0 < k
    · have hk' : (0 : Int) < k := by omega
      go_wp2_with fail
      refine (srcPick g (n + 4 + 6 * (q - k)) 6 wr HS.out.1 (by omega) ⟨by omega, by omega⟩).mono ?_
      rintro e w3 ⟨⟨c, rfl, hc0, hc1⟩, hS⟩
      have HS3 := hid (HS.out.tr hS)
      have HO3 := hid (row_keep HO.out hS.2 (by omega))
      clear hS HO HS
      have hcc : c = 0 ∨ c = 1 ∨ (¬ c = 0 ∧ ¬ c = 1) := by omega
      rcases hcc with rfl | rfl | ⟨hn0, hn1⟩
      · go_wp2_with fail
        refine (srcPick g (n + 4 + 6 * (q - k) + 2) 20 w3 HS3.out.1 (by omega) ⟨by omega, by omega⟩).mono ?_
        rintro e w4 ⟨⟨z2, rfl, hz2, hz3⟩, hS⟩
        have HS4 := hid (HS3.out.tr hS)
        have HO4 := hid (row_keep HO3.out hS.2 (by omega))
        clear hS
        go_wp2_with fail
        refine (srcOne g (n + 4 + 6 * (q - k) + 2 + 2) 9 w4 HS4.out.1 (by omega) ⟨by omega, by omega⟩).mono ?_
        rintro e w5 ⟨⟨b, rfl⟩, hS⟩
        have HS5 := hid (HS4.out.tr hS)
        have HO5 := hid (row_keep HO4.out hS.2 (by omega))
        have hz5 := HS5.out.size
        clear hS
        cases b
        · go_wp2_with (at_builtin; refine wp_append1 w5 rfl (.tmp 30) (.tmp 32) _ rfl w.heap.size 2 1 8 _ Try.underlying27 infoInt rfl (by omega) (by omega) _ _ _ HO5.out rfl [.int .i64 z2] rfl (by simp [Value.oneCell']) _ rfl rfl (by have := HL.out; omega) hz5 ?_; intro v' w' ho' hb')
          go_roundw
          case rel => exact ⟨k - 1, xs ++ [z2], z2, by omega, congrArg _ (by omega), rfl, by omega, hid (by have := HL.out; simp; omega), hid (by rw [flat_snoc, List.length_append]; exact ho'), hid ((HS5.out.below hb' (Nat.le_refl _) hz5 hg).more (by omega))⟩
          case measure => simp [intOf]; omega
        · go_wp2_with (at_builtin; refine wp_append1 w5 rfl (.tmp 27) (.tmp 28) _ rfl w.heap.size 2 1 8 _ Try.underlying27 infoInt rfl (by omega) (by omega) _ _ _ HO5.out rfl [.int .i64 (-1)] rfl (by simp [Value.oneCell']) _ rfl rfl (by have := HL.out; omega) hz5 ?_; intro v' w' ho' hb')
          go_roundw
          case rel => exact ⟨k - 1, xs ++ [(-1)], z2, by omega, congrArg _ (by omega), rfl, by omega, hid (by have := HL.out; simp; omega), hid (by rw [flat_snoc, List.length_append]; exact ho'), hid ((HS5.out.below hb' (Nat.le_refl _) hz5 hg).more (by omega))⟩
          case measure => simp [intOf]; omega
      · go_wp2_with fail
        refine (srcOne g (n + 4 + 6 * (q - k) + 2) 9 w3 HS3.out.1 (by omega) ⟨by omega, by omega⟩).mono ?_
        rintro e w5 ⟨⟨b, rfl⟩, hS⟩
        have HS5 := hid (HS3.out.tr hS)
        have HO5 := hid (row_keep HO3.out hS.2 (by omega))
        have hz5 := HS5.out.size
        clear hS
        cases b
        · go_wp2_with (at_builtin; refine wp_append1 w5 rfl (.tmp 30) (.tmp 32) _ rfl w.heap.size 2 1 8 _ Try.underlying27 infoInt rfl (by omega) (by omega) _ _ _ HO5.out rfl [.int .i64 (z + 1)] rfl (by simp [Value.oneCell']) _ rfl rfl (by have := HL.out; omega) hz5 ?_; intro v' w' ho' hb')
          go_roundw
          case rel => exact ⟨k - 1, xs ++ [(z + 1)], (z + 1), by omega, congrArg _ (by omega), rfl, by omega, hid (by have := HL.out; simp; omega), hid (by rw [flat_snoc, List.length_append]; exact ho'), hid ((HS5.out.below hb' (Nat.le_refl _) hz5 hg).more (by omega))⟩
          case measure => simp [intOf]; omega
        · go_wp2_with (at_builtin; refine wp_append1 w5 rfl (.tmp 27) (.tmp 28) _ rfl w.heap.size 2 1 8 _ Try.underlying27 infoInt rfl (by omega) (by omega) _ _ _ HO5.out rfl [.int .i64 (-1)] rfl (by simp [Value.oneCell']) _ rfl rfl (by have := HL.out; omega) hz5 ?_; intro v' w' ho' hb')
          go_roundw
          case rel => exact ⟨k - 1, xs ++ [(-1)], (z + 1), by omega, congrArg _ (by omega), rfl, by omega, hid (by have := HL.out; simp; omega), hid (by rw [flat_snoc, List.length_append]; exact ho'), hid ((HS5.out.below hb' (Nat.le_refl _) hz5 hg).more (by omega))⟩
          case measure => simp [intOf]; omega
      · have e0 : (c == 0) = false := by simpa using hn0
        have e1 : (c == 1) = false := by simpa using hn1
        clear hn0 hn1
        go_wp2_with fail
        refine (srcOne g (n + 4 + 6 * (q - k) + 2) 9 w3 HS3.out.1 (by omega) ⟨by omega, by omega⟩).mono ?_
        rintro e w5 ⟨⟨b, rfl⟩, hS⟩
        have HS5 := hid (HS3.out.tr hS)
        have HO5 := hid (row_keep HO3.out hS.2 (by omega))
        have hz5 := HS5.out.size
        clear hS
        cases b
        · go_wp2_with (at_builtin; refine wp_append1 w5 rfl (.tmp 30) (.tmp 32) _ rfl w.heap.size 2 1 8 _ Try.underlying27 infoInt rfl (by omega) (by omega) _ _ _ HO5.out rfl [.int .i64 z] rfl (by simp [Value.oneCell']) _ rfl rfl (by have := HL.out; omega) hz5 ?_; intro v' w' ho' hb')
          go_roundw
          case rel => exact ⟨k - 1, xs ++ [z], z, by omega, congrArg _ (by omega), rfl, by omega, hid (by have := HL.out; simp; omega), hid (by rw [flat_snoc, List.length_append]; exact ho'), hid ((HS5.out.below hb' (Nat.le_refl _) hz5 hg).more (by omega))⟩
          case measure => simp [intOf]; omega
        · go_wp2_with (at_builtin; refine wp_append1 w5 rfl (.tmp 27) (.tmp 28) _ rfl w.heap.size 2 1 8 _ Try.underlying27 infoInt rfl (by omega) (by omega) _ _ _ HO5.out rfl [.int .i64 (-1)] rfl (by simp [Value.oneCell']) _ rfl rfl (by have := HL.out; omega) hz5 ?_; intro v' w' ho' hb')
          go_roundw
          case rel => exact ⟨k - 1, xs ++ [(-1)], z, by omega, congrArg _ (by omega), rfl, by omega, hid (by have := HL.out; simp; omega), hid (by rw [flat_snoc, List.length_append]; exact ho'), hid ((HS5.out.below hb' (Nat.le_refl _) hz5 hg).more (by omega))⟩
          case measure => simp [intOf]; omega
    · obtain rfl : k = 0 := by omega
      have hql := HL.out
      go_wp2_with fail
      refine (srcPick g (n + 4 + 6 * (q - 0)) 24 wr HS.out.1 (by omega) ⟨by omega, by omega⟩).mono ?_
      rintro e w3 ⟨⟨c, rfl, hc0, hc1⟩, hS⟩
      have HS3 := hid (HS.out.tr hS)
      have HO3 := hid (row_keep HO.out hS.2 (by omega))
      clear hS HO HS
      have hcc : c = 0 ∨ c = 1 ∨ (¬ c = 0 ∧ ¬ c = 1) := by omega
      rcases hcc with rfl | rfl | ⟨hn0, hn1⟩
      · go_wp2_with fail
        refine (amongLit g (n + 4 + 6 * (q - 0) + 2) [-2, 1000000, 1000001] w w3 HS3.out (by omega) (by simp) _ rfl _ rfl hg).mono ?_
        rintro e w4 ⟨⟨y, rfl, hy⟩, hS4, hK4⟩
        have HS4 := hid hS4
        have HO4 := hid (row_keep HO3.out hK4 (by omega))
        have hz4 := hS4.size
        clear hS4 hK4
        go_wp2_with (at_builtin; refine wp_append1 w4 rfl (.tmp 38) (.tmp 42) _ rfl w.heap.size 2 1 8 _ Try.underlying27 infoInt rfl (by omega) (by omega) _ _ _ HO4.out rfl [.int .i64 y] rfl (by simp [Value.oneCell']) _ rfl rfl (by omega) hz4 ?_; intro v' w' ho' hb')
        go_ret
        exact ⟨⟨_, xs ++ [y], rfl, by simp; omega, by rw [flat_snoc, List.length_append]; exact ho'⟩, (HS4.out.below hb' (Nat.le_refl _) hz4 hg).more (by omega)⟩
      · go_wp2_with fail
        refine (amongLit g (n + 4 + 6 * (q - 0) + 2) [200, 201] w w3 HS3.out (by omega) (by simp) _ rfl _ rfl hg).mono ?_
        rintro e w4 ⟨⟨y, rfl, hy⟩, hS4, hK4⟩
        have HS4 := hid hS4
        have hz4 := hS4.size
        clear hS4 hK4
        obtain ⟨m, rfl, hm⟩ : ∃ m : Nat, y = (m : Int) ∧ m ≤ 201 := by
          simp only [List.mem_cons, List.not_mem_nil, or_false] at hy
          rcases hy with rfl | rfl
          · exact ⟨200, rfl, by omega⟩
          · exact ⟨201, rfl, by omega⟩
        have hmk := HMK.out m hm w4
        have HR := hid (zerosRow w4 m hm)
        rw [Nat.mul_one] at HR hmk
        go_wp2
        go_ret
        exact ⟨⟨_, List.replicate m 0, rfl, by simp; omega, by rw [List.length_replicate]; exact row_low HR.out hz4⟩, (HS4.out.ext (Ext.new _ _)).more (by omega)⟩
      · have e0 : (c == 0) = false := by simpa using hn0
        have e1 : (c == 1) = false := by simpa using hn1
        clear hn0 hn1
        go_wp2
        go_ret
        exact ⟨⟨_, xs, rfl, by omega, HO3.out⟩, HS3.out.more (by omega)⟩
end Go.Proofs.Ytopjccbjdcoanaa
