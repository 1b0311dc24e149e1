/- Contracts of the alarms of one sensor: the program's function. -/
import Derived.Test.YtopjccbjdcoanaaAlm
namespace Go.Proofs.Ytopjccbjdcoanaa
set_option linter.unusedVariables false
open Go.RowKit
theorem map_snoc {α β : Type} {ys : List (α × β)} {xs : List α} {a : α} (h : ys.map Prod.fst = xs ++ [a]) : ∃ zs u, ys = zs ++ [(a, u)] ∧ zs.map Prod.fst = xs := by
  obtain ⟨zs, ws, rfl, h1, h2⟩ := List.map_eq_append_iff.1 h
  match ws, h2 with
  | [(a', u)], h2 =>
    simp at h2
    subst h2
    exact ⟨zs, u, rfl, h1⟩
theorem KeepI.grownBy {g : Nat} {w w' : World} (h : KeepI g (g + 1) w w') : w.grownBy w' (some g) := ⟨h.os, h.tape, h.output, h.size, fun k hk hne => h.block k hk (by have : k ≠ g := fun e => hne (by rw [e]); omega)⟩
theorem GrowN.set1 {t t2 lo : Nat} {w : World} {v u : Value} {ys : List (List Int × Value)} {a b : Int} (h : GrowN nSS t t2 lo w v (ys ++ [([a, b], u)])) :
    ∃ g c go cv, u = .slice (some ⟨g, 0, none⟩) 2 c ∧ v = .slice (some ⟨go, 0, none⟩) (ys.length + 1) cv ∧ lo ≤ g ∧ g < w.heap.size ∧ w.cell? ⟨go, ys.length, none⟩ = some u ∧ (∃ z, w.cell? ⟨g, 1, none⟩ = some z) ∧ w.frozen? ⟨g, 1, none⟩ = false ∧
      ∀ b' : Int, GrowN nSS t t2 lo (w.setCell ⟨g, 1, none⟩ (.int .i64 b')) v (ys ++ [([a, b'], u)]) := by
  obtain ⟨h0, h1, h2, h3⟩ := h
  have hu := h2 ([a, b], u) (by simp)
  have hu' := hu
  have hl : (ys ++ [([a, b], u)]).length = ys.length + 1 := by simp
  obtain ⟨_, hn, hfl, ⟨_, hz⟩ | ⟨g, c, cs, he, hg1, hg2, hc1, hc2, hB, hcs, hxs⟩⟩ := hu'
  · simp [nSS] at hz
  have he' : u = .slice (some ⟨g, 0, none⟩) 2 c := he
  rw [hl] at h1
  have h1' := h1
  obtain ⟨hol, ⟨_, hz⟩ | ⟨go, cap, cur, hve, hb, hgo, hc3, hc4, hc5, hc6⟩⟩ := h1'
  · omega
  have hcs' : cs.size = c * 1 := hcs
  have hxs' : cs.toList.take (2 * 1) = flat encI [a, b] := hxs
  have h2c : 2 ≤ c := hc1
  have hne : go ≠ g := fun e => (List.pairwise_cons.1 h3).1 u (by simp) g (by rw [hve, e]; rfl) (by rw [he']; rfl)
  refine ⟨g, c, go, cap, he', hve, hg1, hg2, ?_, ⟨_, (hB.cell 1).trans (Array.getElem?_eq_getElem (by omega))⟩, hB.frozen 1, fun b' => ?_⟩
  · rw [cell_of_row w go ys.length cur t (0, 0) hgo]
    have e1 : (flat nSS.enc (ys ++ [([a, b], u)]))[ys.length]? = some u := by
      have := flat_app_at encSS_len ys ([a, b], u) 0 (by omega)
      simp only [Nat.mul_one, Nat.add_zero] at this
      exact this
    rw [← hc6, List.getElem?_take] at e1
    split at e1
    · simpa using e1
    · cases e1
  · have K : KeepI g (g + 1) w (w.setCell ⟨g, 1, none⟩ (.int .i64 b')) := (KeepI.refl _ _ _).set_ (Nat.le_refl _) (Nat.lt_succ_self _) _
    have hsz := K.size
    have hap : ∀ q ∈ ys, Apart u q.2 := fun q hq => by
      have := (List.pairwise_cons.1 h3).2
      rw [List.map_append, List.pairwise_append] at this
      exact (this.2.2 q.2 (List.mem_map_of_mem hq) u (by simp)).symm
    refine ⟨by omega, ?_, fun q hq => ?_, ?_⟩
    · have := h1.kept (row := some g) K.grownBy (.inr (by rw [hve]; simp [Value.ownBlock]; exact hne))
      have e : (ys ++ [([a, b'], u)]).length = ys.length + 1 := by simp
      rw [e]
      have e2 : flat nSS.enc (ys ++ [([a, b'], u)]) = flat nSS.enc (ys ++ [([a, b], u)]) := by unfold flat; simp [nSS, encSS]
      rw [e2]; exact this
    · rw [List.mem_append] at hq
      rcases hq with hq | hq
      · exact ((h2 q (List.mem_append_left _ hq)).kept K (fun e => hap q hq g (by rw [he']; rfl) e)).more (Nat.le_refl _) hsz (Nat.le_refl _)
      · simp at hq; subst hq
        refine ⟨Nat.le_refl _, hn, rfl, .inr ⟨g, c, _, he', hg1, by omega, hc1, hc2, hB.set_ 1 _, by simpa using hcs, ?_⟩⟩
        show List.take (2 * 1) (cs.setIfInBounds 1 (.int .i64 b')).toList = flat encI [a, b']
        have e0 : cs.toList[0]? = some (.int .i64 a) := by
          have : (cs.toList.take (2 * 1))[0]? = some (.int .i64 a) := by rw [hxs']; rfl
          simpa using this
        have hcl : 2 ≤ cs.toList.length := by simp; omega
        rw [Array.toList_setIfInBounds]
        match cs.toList, hcl, e0 with
        | x0 :: x1 :: xs, _, e0 =>
          simp at e0
          subst e0
          rfl
    · have e : (ys ++ [([a, b'], u)]).map Prod.snd = (ys ++ [([a, b], u)]).map Prod.snd := by simp
      rw [e]; exact h3
theorem OwnN.low {α : Type} {N : Nest α} {t t2 : TypeId} {lo lo' hi : Nat} {w : World} {v : Value} {xs : List α} (h : OwnN N t t2 lo hi w v xs) (h1 : lo' ≤ lo) : OwnN N t t2 lo' hi w v xs := by
  obtain ⟨h0, hn, ys, e1, e2, e3, e4⟩ := h
  exact ⟨h0, hn, ys, e1, e2.more h1 (Nat.le_refl _) h0, fun p hp => (e3 p hp).more h1 (Nat.le_refl _) h0, e4⟩
def aIn (s : Alm) : Bool := decide (0 ≤ s.since)
theorem aIn_yes {s : Alm} (h : 0 ≤ s.since) : aIn s = true := by unfold aIn; simpa using h
theorem aIn_no {s : Alm} (h : ¬ 0 ≤ s.since) : aIn s = false := by unfold aIn; simpa using h
def aAll (s : Alm) (n : Int) : List (List Int) := s.acc ++ aTail s n
theorem aAll_in {s : Alm} (n : Int) (h : 0 ≤ s.since) : aAll s n = s.acc ++ [[s.since, n]] := by unfold aAll aTail; rw [if_pos h]
theorem aAll_no {s : Alm} (n : Int) (h : ¬ 0 ≤ s.since) : aAll s n = s.acc := by unfold aAll aTail; rw [if_neg h, List.append_nil]
set_option maxRecDepth 100000 in
set_option maxHeartbeats 2000000 in
theorem implAlarms (x : Sensor) (ns : List Int) (lo hi : Nat) (v : Value) (w : World) (hx : sensorB x = true) (hv : Sl lo hi w 1 v ns.length (flat encI ns)) (hs : seriesB ns = true) :
    Calls Try.prog 68 #[.agg #[.string x.id, .int .i64 x.junction, .int .i64 x.limit, .int .i64 x.delay, .int .i64 x.release], v] w fun e w' => (∃ v', e = .returned v' ∧ OwnSS w.heap.size w'.heap.size w' v' (alarms x ns)) ∧ Ext w w' := by
  obtain ⟨hhi, _, A, c, rfl, hnc, hcm, hcell⟩ := hv
  obtain ⟨hx1, hx2, hx3, hx4, hx5, hx6⟩ := sensorB_le hx
  have hlen := series_len hs
  have HB := hid (aTo_bd x ns hx4 hx3)
  have HS := hid hs
  have HX := hid hx
  have HC := hid (fun W (hW : Ext (w.alloc (.cells #[.string x.id, .int .i64 x.junction, .int .i64 x.limit, .int .i64 x.delay, .int .i64 x.release] 40)) W) => (Blk.new w 40 #[.string x.id, .int .i64 x.junction, .int .i64 x.limit, .int .i64 x.delay, .int .i64 x.release]).ext hW)
  clear hs hx
  go_enter Try.func68, Try.ntmps68
  go_wp2
  generalize hBB : w.alloc _ = B at *
  have hEB : Ext w B := by rw [← hBB]; exact Ext.new _ _
  clear hBB
  go_loopw [5, 6, 7, 8, 9, 12] (fun u run inn _ _ i wr => ∃ (k : Nat) (ys : List (List Int × Value)), k ≤ ns.length ∧ i = .int .i64 k ∧ run = .int .i64 (aTo x ns k).run ∧ inn = .bool (aIn (aTo x ns k)) ∧ Hid (ys.map Prod.fst = aAll (aTo x ns k) ns.length) ∧ GrowN nSS 27 2 B.heap.size wr u ys ∧ Ext B wr) (fun _ _ _ _ _ i _ => ns.length - (intOf i).toNat)
  case atStart => exact ⟨0, [], by omega, rfl, rfl, rfl, hid rfl, GrowN.nil (Nat.le_refl _), Below.refl _ _⟩
  case round =>
    obtain ⟨k, ys, hk, rfl, rfl, rfl, HY, hG, hE⟩ := hrel
    obtain ⟨⟨r1, r2⟩, ⟨s1, s2⟩, a1, _⟩ := HB.out k
    have hyl : ys.length ≤ k + 1 := by
      have := congrArg List.length HY.out
      unfold aAll aTail at this
      rw [List.length_append] at this
      split at this <;> simp at this <;> omega
    by_cases hlt : k < ns.length
    · obtain ⟨b', off, rfl, hb1, hb2, hc⟩ := hcell (by omega)
      have hkn : (k : Int) < ns.length := by omega
      have c0 := ((bcell (Ext.tr hEB hE)).1 b' (off + k) (by omega)).trans (cellsI hc k hlt)
      have hBk := HC.out wr hE
      have d2 := hBk.cell 2
      have d3 := hBk.cell 3
      have d4 := hBk.cell 4
      simp at d2 d3 d4
      have hrr := series_at HS.out k hlt
      obtain ⟨rr1, rr2⟩ := hrr
      have HA := hid (aTo_succ x ns k hlt)
      clear hc hcell hBk
      generalize ns[k] = r at *
      generalize hst : aTo x ns k = s at *
      have HST := hid hst
      clear hst
      by_cases hl : x.limit < r
      · by_cases hin : 0 ≤ s.since
        · have HN := hid (HA.out.trans (aStep_high_in (t := (k : Int)) hx3 hl hin))
          have HI := hid (show aIn (aTo x ns (k + 1)) = true from aIn_yes (by rw [HN.out]; exact hin))
          have HYY := hid (show ys.map Prod.fst = aAll (aTo x ns (k + 1)) ns.length by rw [HY.out, HN.out, aAll_in _ hin]; exact (aAll_in (s := ⟨s.run + 1, s.since, s.acc⟩) _ hin).symm)
          rw [aIn_yes hin]
          have hb3 : (r != -1) = true := by rw [bne_iff_ne]; omega
          clear hin
          go_wp2
          go_roundw
          case rel => exact ⟨k + 1, ys, by omega, by go_num, by rw [HN.out], by rw [HI.out], HYY, hG, hE⟩
          case measure => simp [intOf]; omega
        · rw [aIn_no hin]
          by_cases hd : x.delay ≤ s.run + 1
          · have HN := hid (HA.out.trans (aStep_high_on (t := (k : Int)) hl hin hd))
            have HI := hid (show aIn (aTo x ns (k + 1)) = true from aIn_yes (by rw [HN.out]; show (0 : Int) ≤ k; omega))
            have HYY := hid (show aAll (aTo x ns (k + 1)) ns.length = ys.map Prod.fst ++ [[(k : Int), (ns.length : Int)]] by rw [HN.out, HY.out, aAll_no _ hin]; exact aAll_in (s := ⟨s.run + 1, k, s.acc⟩) _ (show (0 : Int) ≤ k by omega))
            obtain ⟨hG2, hu, hav, hau⟩ := pair_grow hG k ns.length
            go_wp2_with (at_builtin; refine wp_grow (N := nSS) (wr.alloc (.cells #[.int .i64 k, .int .i64 ns.length] 2)) (wr.heap.size + 1) (by simp) rfl (.tmp 52) (.tmp 57) _ rfl B.heap.size 27 24 _ Try.underlying24 infoSS rfl (by decide) (by omega) 2 _ _ hG2 rfl ([(k : Int), (ns.length : Int)], .slice (some ⟨wr.heap.size, 0, none⟩) 2 2) rfl (by intro u hu; simp [nSS, encSS] at hu; subst hu; rfl) _ rfl rfl (by omega) hu hav hau ?_; intro v' w' hG3 hb3)
            go_roundw
            case rel => exact ⟨k + 1, _, by omega, by go_num, by rw [HN.out], by rw [HI.out], hid (by rw [HYY.out, List.map_append]; rfl), hG3, (Ext.tr hE (Ext.new _ _)).trans hb3⟩
            case measure => simp [intOf]; omega
          · have HN := hid (HA.out.trans (aStep_high_no (t := (k : Int)) hl hin hd))
            have HI := hid (show aIn (aTo x ns (k + 1)) = false from aIn_no (by rw [HN.out]; show ¬ (0 : Int) ≤ -1; omega))
            have HYY := hid (show ys.map Prod.fst = aAll (aTo x ns (k + 1)) ns.length by rw [HY.out, HN.out, aAll_no _ hin]; exact (aAll_no (s := ⟨s.run + 1, -1, s.acc⟩) _ (show ¬ (0 : Int) ≤ -1 by omega)).symm)
            go_wp2
            go_roundw
            case rel => exact ⟨k + 1, ys, by omega, by go_num, by rw [HN.out], by rw [HI.out], HYY, hG, hE⟩
            case measure => simp [intOf]; omega
      · by_cases hin : 0 ≤ s.since
        · by_cases hr1 : r = -1
          · have HN := hid (HA.out.trans (aStep_low_in (t := (k : Int)) hl hin (.inl hr1)))
            have HI := hid (show aIn (aTo x ns (k + 1)) = true from aIn_yes (by rw [HN.out]; exact hin))
            have HYY := hid (show ys.map Prod.fst = aAll (aTo x ns (k + 1)) ns.length by rw [HY.out, HN.out, aAll_in _ hin]; exact (aAll_in (s := ⟨0, s.since, s.acc⟩) _ hin).symm)
            rw [aIn_yes hin]
            clear hin
            subst hr1
            go_wp2
            go_roundw
            case rel => exact ⟨k + 1, ys, by omega, by go_num, by rw [HN.out], by rw [HI.out], HYY, hG, hE⟩
            case measure => simp [intOf]; omega
          have hb3 : (r != -1) = true := by rw [bne_iff_ne]; exact hr1
          by_cases hr2 : r ≤ x.release
          · have HN := hid (HA.out.trans (aStep_low_off (t := (k : Int)) hl hin hr1 hr2))
            have HI := hid (show aIn (aTo x ns (k + 1)) = false from aIn_no (by rw [HN.out]; show ¬ (0 : Int) ≤ -1; omega))
            obtain ⟨zs, u, rfl, hzs⟩ := map_snoc (HY.out.trans (aAll_in _ hin))
            have HYY := hid (show (zs ++ [([s.since, (k : Int)], u)]).map Prod.fst = aAll (aTo x ns (k + 1)) ns.length by rw [List.map_append, hzs, HN.out]; exact (aAll_no (s := ⟨0, -1, s.acc ++ [[s.since, (k : Int)]]⟩) _ (show ¬ (0 : Int) ≤ -1 by omega)).symm)
            obtain ⟨g, c3, go, cv, rfl, rfl, hg1, hg2, hcu, ⟨z, hcz⟩, hfz, hset⟩ := hG.set1
            have hset := hset k
            rw [List.length_append] at hyl
            simp only [List.length_singleton] at hyl
            have HG2 := hid hset
            rw [aIn_yes hin]
            clear hin hset
            go_wp2
            go_roundw
            case rel => exact ⟨k + 1, _, by omega, by go_num, by rw [HN.out], by rw [HI.out], HYY, HG2.out, ((KeepI.refl g (g + 1) wr).set_ (Nat.le_refl _) (Nat.lt_succ_self _) _).ext hE hg1⟩
            case measure => simp [intOf]; omega
          · have HN := hid (HA.out.trans (aStep_low_in (t := (k : Int)) hl hin (.inr (by omega))))
            have HI := hid (show aIn (aTo x ns (k + 1)) = true from aIn_yes (by rw [HN.out]; exact hin))
            have HYY := hid (show ys.map Prod.fst = aAll (aTo x ns (k + 1)) ns.length by rw [HY.out, HN.out, aAll_in _ hin]; exact (aAll_in (s := ⟨0, s.since, s.acc⟩) _ hin).symm)
            rw [aIn_yes hin]
            clear hin
            go_wp2
            go_roundw
            case rel => exact ⟨k + 1, ys, by omega, by go_num, by rw [HN.out], by rw [HI.out], HYY, hG, hE⟩
            case measure => simp [intOf]; omega
        · have HN := hid (HA.out.trans (aStep_low_no (t := (k : Int)) hx4 hl hin))
          have HI := hid (show aIn (aTo x ns (k + 1)) = false from aIn_no (by rw [HN.out]; show ¬ (0 : Int) ≤ -1; omega))
          have HYY := hid (show ys.map Prod.fst = aAll (aTo x ns (k + 1)) ns.length by rw [HY.out, HN.out, aAll_no _ hin]; exact (aAll_no (s := ⟨0, -1, s.acc⟩) _ (show ¬ (0 : Int) ≤ -1 by omega)).symm)
          rw [aIn_no hin]
          clear hin
          go_wp2
          go_roundw
          case rel => exact ⟨k + 1, ys, by omega, by go_num, by rw [HN.out], by rw [HI.out], HYY, hG, hE⟩
          case measure => simp [intOf]; omega
    · obtain rfl : k = ns.length := by omega
      have hbd := alarms_bd x ns hx4 hx3
      have HD := hid hbd
      clear hbd
      have HQ := hid (show ys.map Prod.fst = alarms x ns from HY.out)
      go_wp2
      go_ret
      refine ⟨⟨_, rfl, (GrowN.own (w := B) hG HQ.out (by have := HD.out; omega) (by have := HD.out; omega)).low hEB.size⟩, Ext.tr hEB hE⟩
end Go.Proofs.Ytopjccbjdcoanaa
