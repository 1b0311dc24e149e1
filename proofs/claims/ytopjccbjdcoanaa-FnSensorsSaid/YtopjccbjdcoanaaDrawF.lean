/- Three series drawn for a vote. A contract that tells their sizes alone. -/
import Derived.Test.YtopjccbjdcoanaaDrawE
import Derived.Deep.Cut
import Derived.Handy
namespace Go.Proofs.Ytopjccbjdcoanaa
set_option linter.unusedVariables false
open Go.RowKit
theorem row_shape0 {w : World} {base e K n : Nat} {v : Value} {xs : List Value} (h : w.ownsRow base e K v n xs) : Shape v n := by
  rcases h.2 with ⟨rfl, _⟩ | ⟨g, c, cur, rfl, _⟩
  · exact .inl rfl
  · exact .inr ⟨g, 0, c, rfl⟩
theorem row_cell0 {w : World} {base e K n g cap j : Nat} {xs : List Value} {u : Value} (h : w.ownsRow base e K (.slice (some ⟨g, 0, none⟩) n cap) n xs) (hu : xs[j]? = some u) : w.cell? ⟨g, j, none⟩ = some u := by
  rcases h.2 with ⟨h', _⟩ | ⟨g', cap', cur, h', hb, hg, hnc, hcm, hcs, htake⟩
  · simp at h'
  · simp only [Value.slice.injEq, Option.some.injEq, Addr.mk.injEq, and_true, true_and] at h'
    obtain ⟨rfl, rfl⟩ := h'
    rw [cell_of_row w g j cur e (0, 0) hg]
    exact take_get htake hu
theorem Own.set1 {lo hi n g c : Nat} {w : World} {t : TypeId} {xs : List Value} (h : Own lo hi w t 1 (.slice (some ⟨g, 0, none⟩) n c) n xs) (j : Nat) (u : Value) : Own lo hi (w.setCell ⟨g, j, none⟩ u) t 1 (.slice (some ⟨g, 0, none⟩) n c) n (xs.set j u) := by
  obtain ⟨h1, hn, h2, ⟨h3, _⟩ | ⟨g', c', cs, h3, h4, h5, h6, h7, h8, h9, h10⟩⟩ := h
  · cases h3
  · simp only [Value.slice.injEq, Option.some.injEq, Addr.mk.injEq, and_true, true_and] at h3
    obtain ⟨rfl, rfl⟩ := h3
    refine ⟨by simpa [World.setCell] using h1, hn, by simpa using h2, .inr ⟨g, c, _, rfl, h4, h5, h6, h7, h8.set_ j u, by simpa using h9, ?_⟩⟩
    rw [← h10, Array.toList_setIfInBounds, List.take_set]
theorem own_slice0 {w : World} {base e K n : Nat} {v : Value} {xs : List Value} (h : w.ownsRow base e K v n xs) : ∃ A c, v = .slice A n c := by
  rcases h.2 with ⟨rfl, rfl⟩ | ⟨g, c, cur, rfl, _⟩
  · exact ⟨none, 0, rfl⟩
  · exact ⟨_, c, rfl⟩
theorem Sl.weak {lo hi lo' hi' k n : Nat} {w : World} {v : Value} {xs : List Value} (h : Sl lo hi w k v n xs) (h1 : lo' ≤ lo) (h2 : hi ≤ hi') (h3 : hi' ≤ w.heap.size) : Sl lo' hi' w k v n xs := by
  obtain ⟨_, e2, A, c, e3, e4, e5, e6⟩ := h
  refine ⟨h3, e2, A, c, e3, e4, e5, fun hn => ?_⟩
  obtain ⟨b, off, e7, e8, e9, e10⟩ := e6 hn
  exact ⟨b, off, e7, by omega, by omega, e10⟩
/-- a row that lies below a bound is kept by what turns above it -/
theorem Own.below {lo hi base t K n : Nat} {w w' : World} {v : Value} {xs : List Value} (h : Own lo hi w t K v n xs) (hB : Below base w w') (hh : hi ≤ base) : Own lo hi w' t K v n xs := by
  obtain ⟨h1, hn, h2, h3 | ⟨g, c, cs, e, h4, h5, h6, h7, h8, h9⟩⟩ := h
  · exact ⟨Nat.le_trans h1 hB.size, hn, h2, .inl h3⟩
  · exact ⟨Nat.le_trans h1 hB.size, hn, h2, .inr ⟨g, c, cs, e, h4, h5, h6, h7, (hB.block g (by omega)).trans h8, h9⟩⟩
set_option maxRecDepth 100000 in
set_option maxHeartbeats 4000000 in
theorem drawVoteOf (bs : List Int) (lo hi : Nat) (v : Value) (w : World) (hv : Sl lo hi w 1 v bs.length (flat encB bs)) (hb : ∀ b ∈ bs, 0 ≤ b ∧ b ≤ 255) :
    Calls Try.prog 44 #[v] w fun e w' => (∃ (va vb vc : Value) (xs ys zs : List Int), e = .returned (.tuple #[va, vb, vc]) ∧ (xs.length ≤ 201 ∧ ys.length ≤ 201 ∧ zs.length ≤ 202) ∧ Sl 0 w'.heap.size w' 1 va xs.length (flat encI xs) ∧ Sl 0 w'.heap.size w' 1 vb ys.length (flat encI ys) ∧ Sl 0 w'.heap.size w' 1 vc zs.length (flat encI zs)) ∧ Ext w w' := by
  have HF := hid (l00From bs lo hi v w hv hb)
  clear hv
  go_enter Try.func44, Try.ntmps44
  go_wp2_with fail
  refine HF.out.mono ?_
  rintro e w0 ⟨rfl, hS0, hE0⟩
  have hg := hS0.lt
  have HS0 := hid hS0
  have HE0 := hid hE0
  clear hS0 hE0 HF
  generalize hG : w.heap.size = G at *
  go_wp2_with fail
  refine (drawSeries G 0 w0 HS0.out (by omega)).mono ?_
  rintro e w1 ⟨⟨va, xs, rfl, hx, hO⟩, hS⟩
  have hz1 := hS.size
  have HA1 := hid (Own.of hO (by omega))
  have HS1 := hid hS
  have hsh1 := row_shape0 hO
  clear hO hS
  go_wp2_with fail
  refine (l00OwnI xs _ _ va w1 HA1.out.sl hsh1 (by omega)).mono ?_
  rintro e w2 ⟨⟨vb, rfl, hO2⟩, hE2⟩
  have hz2 := hE2.size
  have HB2 := hid (Own.of hO2 (by omega))
  have HA2 := hid (HA1.out.ext hE2)
  have HS2 := hid (HS1.out.ext hE2)
  clear hO2 hE2 HA1 HS1
  go_wp2_with fail
  refine (l00OwnI xs _ _ va w2 HA2.out.sl hsh1 (by omega)).mono ?_
  rintro e w3 ⟨⟨vc, rfl, hO3⟩, hE3⟩
  have hz3 := hE3.size
  have HB3 := hid (HB2.out.ext hE3)
  have HA3 := hid (HA2.out.ext hE3)
  have HS3 := hid (HS2.out.ext hE3)
  have HC3 := hid hO3
  clear hO3 hE3 HA2 HB2 HS2 hsh1
  obtain ⟨Aa, ca, rfl⟩ := own_slice0 HA3.out.row
  have hn3 : ∃ n3, n3 = 0 + 200 := ⟨_, rfl⟩
  obtain ⟨n3, hn3⟩ := hn3
  rw [← hn3] at HS3
  have hg0 : G < w0.heap.size := hg
  go_wp2_with fail
  go_loopw [9] (fun i W => ∃ (k : Nat) (ys zs : List Int), k ≤ xs.length ∧ i = .int .i64 k ∧ Hid (ys.length = xs.length) ∧ Hid (zs.length = xs.length) ∧ Hid (Own w0.heap.size w1.heap.size W 2 1 (.slice Aa xs.length ca) xs.length (flat encI xs)) ∧ Hid (Own w1.heap.size w2.heap.size W 2 1 vb xs.length (flat encI ys)) ∧ Hid (W.ownsRow w2.heap.size 2 1 vc xs.length (flat encI zs)) ∧ Hid (SrcTo G (n3 + 8 * k) w0 W)) (fun i _ => xs.length - (intOf i).toNat)
  case atStart => exact ⟨0, xs, xs, Nat.zero_le _, rfl, hid rfl, hid rfl, HA3, HB3, HC3, HS3⟩
  case round =>
    clear HA3 HB3 HC3 HS3
    obtain ⟨k, ys, zs, hk, rfl, HY, HZ, HA, HB, HC, HS⟩ := hrel
    by_cases hlt : k < xs.length
    · obtain ⟨_, _, _, ⟨_, h0⟩ | ⟨gb, cb0, _, rfl, hgb1, hgb2, _⟩⟩ := id HB.out
      · omega
      obtain ⟨_, ⟨_, h0⟩ | ⟨gc, cc0, _, rfl, hgc1, _⟩⟩ := id HC.out
      · omega
      go_wp2_with fail
      refine (srcOne G (n3 + 8 * k) 3 wr HS.out.1 (by omega) ⟨by omega, by omega⟩).mono ?_
      rintro e w4 ⟨⟨b1, rfl⟩, hS⟩
      have HSc := hid (HS.out.tr hS)
      have HAc := hid (HA.out.keep hS.2 (.inr (by omega)))
      have HBc := hid (HB.out.keep hS.2 (.inr (by omega)))
      have HCc := hid (row_keep HC.out hS.2 (by omega))
      clear hS HS HA HB HC
      cases b1
      · have HS := HSc
        have HA := HAc
        have HB := HBc
        have HC := HCc
        go_wp2_with fail
        refine (srcOne G (n3 + 8 * k + 2) 3 w4 HS.out.1 (by omega) ⟨by omega, by omega⟩).mono ?_
        rintro e w5 ⟨⟨b2, rfl⟩, hS⟩
        have HSd := hid (HS.out.tr hS)
        have HAd := hid (HA.out.keep hS.2 (.inr (by omega)))
        have HBd := hid (HB.out.keep hS.2 (.inr (by omega)))
        have HCd := hid (row_keep HC.out hS.2 (by omega))
        clear hS
        cases b2
        · go_wp2
          go_roundw
          case rel => exact ⟨k + 1, ys, zs, by omega, by go_num, hid (by simp [HY.out]), hid (by simp [HZ.out]), HAd, HBd, HCd, hid (HSd.out.more (by omega))⟩
          case measure => simp [intOf]; omega
        · go_wp2_with fail
          refine (srcPick G (n3 + 8 * k + 2 + 2) 20 w5 HSd.out.1 (by omega) ⟨by omega, by omega⟩).mono ?_
          rintro e w6 ⟨⟨r2, rfl, hr20, hr21⟩, hS⟩
          have HSe := hid (HSd.out.tr hS)
          have HAe := hid (HAd.out.keep hS.2 (.inr (by omega)))
          have HBe := hid (HBd.out.keep hS.2 (.inr (by omega)))
          have HCe := hid (row_keep HCd.out hS.2 (by omega))
          clear hS
          have cc := row_cell0 HCe.out (getI zs k (by rw [HZ.out]; exact hlt))
          have fc := HCe.out.frozenAt k
          go_wp2_with fail
          have HAf := hid (HAe.out.keep ((KeepI.refl gc (gc + 1) w6).set_ (g := gc) (m := k) (Nat.le_refl _) (Nat.lt_succ_self _) (.int .i64 (r2 - 1))) (.inl (by omega)))
          have HBf := hid (HBe.out.keep ((KeepI.refl gc (gc + 1) w6).set_ (g := gc) (m := k) (Nat.le_refl _) (Nat.lt_succ_self _) (.int .i64 (r2 - 1))) (.inl (by omega)))
          have HCf := hid (show (w6.setCell ⟨gc, k, none⟩ (.int .i64 (r2 - 1))).ownsRow w2.heap.size 2 1 (.slice (some ⟨gc, 0, none⟩) xs.length cc0) xs.length (flat encI (zs.set k (r2 - 1))) by rw [flatI_map, List.map_set, ← flatI_map]; exact (HCe.out.stored k _).1)
          have HSf := hid (HSe.out.store (i := k) hg (p := gc) (by omega) (.int .i64 (r2 - 1)))
          go_roundw
          case rel => exact ⟨k + 1, ys, (zs.set k (r2 - 1)), by omega, by go_num, hid (by simp [HY.out]), hid (by simp [HZ.out]), HAf, HBf, HCf, hid (HSf.out.more (by omega))⟩
          case measure => simp [intOf]; omega
      · go_wp2_with fail
        refine (srcPick G (n3 + 8 * k + 2) 20 w4 HSc.out.1 (by omega) ⟨by omega, by omega⟩).mono ?_
        rintro e w7 ⟨⟨r1, rfl, hr10, hr11⟩, hS⟩
        have HSe := hid (HSc.out.tr hS)
        have HAe := hid (HAc.out.keep hS.2 (.inr (by omega)))
        have HBe := hid (HBc.out.keep hS.2 (.inr (by omega)))
        have HCe := hid (row_keep HCc.out hS.2 (by omega))
        clear hS
        have cb := row_cell0 HBe.out.row (getI ys k (by rw [HY.out]; exact hlt))
        have fb := HBe.out.row.frozenAt k
        go_upto_region 10 with fail
        have HA := hid (HAe.out.keep ((KeepI.refl gb (gb + 1) w7).set_ (g := gb) (m := k) (Nat.le_refl _) (Nat.lt_succ_self _) (.int .i64 (r1 - 1))) (.inl (by omega)))
        have HB : Hid (Own w1.heap.size w2.heap.size (w7.setCell ⟨gb, k, none⟩ (.int .i64 (r1 - 1))) 2 1 (.slice (some ⟨gb, 0, none⟩) xs.length cb0) xs.length (flat encI (ys.set k (r1 - 1)))) := hid (by rw [flatI_map, List.map_set, ← flatI_map]; exact HBe.out.set1 k _)
        have HC := hid (row_st HCe.out (p := gb) (i := k) (by omega) (.int .i64 (r1 - 1)))
        have HS := hid (HSe.out.store (i := k) hg (p := gb) (by omega) (.int .i64 (r1 - 1)))
        clear HSc HAc HBc HCc HSe HAe HBe HCe cb fb
        generalize w7.setCell ⟨gb, k, none⟩ (.int .i64 (r1 - 1)) = w8 at *
        go_wp2_with fail
        refine (srcOne G (n3 + 8 * k + 4) 3 w8 HS.out.1 (by omega) ⟨by omega, by omega⟩).mono ?_
        rintro e w5 ⟨⟨b2, rfl⟩, hS⟩
        have HSd := hid (HS.out.tr hS)
        have HAd := hid (HA.out.keep hS.2 (.inr (by omega)))
        have HBd := hid (HB.out.keep hS.2 (.inr (by omega)))
        have HCd := hid (row_keep HC.out hS.2 (by omega))
        clear hS
        cases b2
        · go_wp2
          go_roundw
          case rel => exact ⟨k + 1, (ys.set k (r1 - 1)), zs, by omega, by go_num, hid (by simp [HY.out]), hid (by simp [HZ.out]), HAd, HBd, HCd, hid (HSd.out.more (by omega))⟩
          case measure => simp [intOf]; omega
        · go_wp2_with fail
          refine (srcPick G (n3 + 8 * k + 4 + 2) 20 w5 HSd.out.1 (by omega) ⟨by omega, by omega⟩).mono ?_
          rintro e w6 ⟨⟨r2, rfl, hr20, hr21⟩, hS⟩
          have HSe := hid (HSd.out.tr hS)
          have HAe := hid (HAd.out.keep hS.2 (.inr (by omega)))
          have HBe := hid (HBd.out.keep hS.2 (.inr (by omega)))
          have HCe := hid (row_keep HCd.out hS.2 (by omega))
          clear hS
          have cc := row_cell0 HCe.out (getI zs k (by rw [HZ.out]; exact hlt))
          have fc := HCe.out.frozenAt k
          go_wp2_with fail
          have HAf := hid (HAe.out.keep ((KeepI.refl gc (gc + 1) w6).set_ (g := gc) (m := k) (Nat.le_refl _) (Nat.lt_succ_self _) (.int .i64 (r2 - 1))) (.inl (by omega)))
          have HBf := hid (HBe.out.keep ((KeepI.refl gc (gc + 1) w6).set_ (g := gc) (m := k) (Nat.le_refl _) (Nat.lt_succ_self _) (.int .i64 (r2 - 1))) (.inl (by omega)))
          have HCf := hid (show (w6.setCell ⟨gc, k, none⟩ (.int .i64 (r2 - 1))).ownsRow w2.heap.size 2 1 (.slice (some ⟨gc, 0, none⟩) xs.length cc0) xs.length (flat encI (zs.set k (r2 - 1))) by rw [flatI_map, List.map_set, ← flatI_map]; exact (HCe.out.stored k _).1)
          have HSf := hid (HSe.out.store (i := k) hg (p := gc) (by omega) (.int .i64 (r2 - 1)))
          go_roundw
          case rel => exact ⟨k + 1, (ys.set k (r1 - 1)), (zs.set k (r2 - 1)), by omega, by go_num, hid (by simp [HY.out]), hid (by simp [HZ.out]), HAf, HBf, HCf, hid (HSf.out.more (by omega))⟩
          case measure => simp [intOf]; omega
    · obtain rfl : k = xs.length := by omega
      go_wp2_with fail
      refine (srcOne G (n3 + 8 * xs.length) 14 wr HS.out.1 (by omega) ⟨by omega, by omega⟩).mono ?_
      rintro e w4 ⟨⟨b1, rfl⟩, hS⟩
      have HSc := hid (HS.out.tr hS)
      have HAc := hid (HA.out.keep hS.2 (.inr (by omega)))
      have HBc := hid (HB.out.keep hS.2 (.inr (by omega)))
      have HCc := hid (row_keep HC.out hS.2 (by omega))
      have hz4 : w2.heap.size ≤ w4.heap.size := Nat.le_trans HB.out.1 hS.2.size
      clear hS HS HA HB HC
      cases b1
      · go_wp2
        go_ret3
        exact ⟨⟨_, _, _, xs, ys, zs, rfl, ⟨hx, by rw [HY.out]; exact hx, by rw [HZ.out]; omega⟩, Sl.weak HAc.out.sl (Nat.zero_le _) (by omega) (Nat.le_refl _), by rw [HY.out]; exact Sl.weak HBc.out.sl (Nat.zero_le _) hz4 (Nat.le_refl _), by rw [HZ.out]; exact Sl.weak (Sl.of_own HCc.out (by unfold maxLen; omega)) (Nat.zero_le _) (Nat.le_refl _) (Nat.le_refl _)⟩, HSc.out.out HE0.out (by omega)⟩
      · go_wp2_with (at_builtin; refine wp_append1 w4 rfl (.tmp 42) (.tmp 43) _ rfl w2.heap.size 2 1 8 _ Try.underlying27 infoInt rfl (by omega) (by omega) _ _ _ HCc.out rfl [.int .i64 0] rfl (by simp [Value.oneCell']) _ rfl rfl (by omega) hz4 ?_; intro v' w' ho' hb')
        have HAg := hid (HAc.out.below hb' (by omega))
        have HBg := hid (HBc.out.below hb' (Nat.le_refl _))
        have HSg := hid (HSc.out.below hb' (by omega) hz4 (by omega))
        have hzz := hb'.size
        go_ret3
        exact ⟨⟨_, _, _, xs, ys, zs ++ [0], rfl, ⟨hx, by rw [HY.out]; exact hx, by simp [HZ.out]; omega⟩, Sl.weak HAg.out.sl (Nat.zero_le _) (by omega) (Nat.le_refl _), by rw [HY.out]; exact Sl.weak HBg.out.sl (Nat.zero_le _) (by omega) (Nat.le_refl _), by rw [flat_snoc, List.length_append, HZ.out]; exact Sl.weak (Sl.of_own ho' (by unfold maxLen; simp; omega)) (Nat.zero_le _) (Nat.le_refl _) (Nat.le_refl _)⟩, HSg.out.out HE0.out (by omega)⟩
end Go.Proofs.Ytopjccbjdcoanaa
