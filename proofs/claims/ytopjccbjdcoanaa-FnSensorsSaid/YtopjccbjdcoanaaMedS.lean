/- The middle of a list of numbers: the note's function. -/
import Derived.Test.YtopjccbjdcoanaaMed
import Derived.Test.YtopjccbjdcoanaaOk
import Derived.Test.YtopjccbjdcoanaaApp
import Derived.Test.YtopjccbjdcoanaaAppN
namespace Go.Proofs.Ytopjccbjdcoanaa
set_option linter.unusedVariables false
open Go.RowKit
theorem one_I (xs : List Int) : ∀ y ∈ flat encI xs, y.oneCell' = true := fun y hy => by
  unfold flat at hy
  obtain ⟨x, _, h⟩ := List.mem_flatMap.1 hy
  simp [encI] at h
  subst h
  rfl
theorem flatI_map (xs : List Int) : flat encI xs = xs.map (Value.int .i64) := by
  induction xs with
  | nil => rfl
  | cons x xs ih => show flat encI (x :: xs) = _; unfold flat at ih ⊢; rw [List.flatMap_cons, ih]; rfl
theorem sl_take {lo hi n c g i o : Nat} {w : World} {xs : List Int} (h : Sl lo hi w 1 (.slice (some ⟨g, o, none⟩) n c) n (flat encI xs)) (hi' : i ≤ n) : Sl lo hi w 1 (.slice (some ⟨g, o, none⟩) i c) i (flat encI (xs.take i)) := by
  obtain ⟨h1, h2, A, c', h3, h4, h5, h6⟩ := h
  simp only [Value.slice.injEq] at h3
  obtain ⟨rfl, _, rfl⟩ := h3
  rw [flatI_map] at h2
  refine ⟨h1, by rw [flatI_map]; simp at h2 ⊢; omega, _, c, rfl, by omega, h5, fun hi0 => ?_⟩
  obtain ⟨b, off, e, h7, h8, h9⟩ := h6 (by omega)
  refine ⟨b, off, e, h7, h8, fun j u hu => h9 j u ?_⟩
  rw [flatI_map, List.map_take, List.getElem?_take] at hu
  split at hu
  · rw [flatI_map]; exact hu
  · cases hu
theorem sl_drop {lo hi n c g i o : Nat} {w : World} {xs : List Int} (h : Sl lo hi w 1 (.slice (some ⟨g, o, none⟩) n c) n (flat encI xs)) (hi' : i ≤ n) : Sl lo hi w 1 (.slice (some ⟨g, o + i, none⟩) (n - i) (c - i)) (n - i) (flat encI (xs.drop i)) := by
  obtain ⟨h1, h2, A, c', h3, h4, h5, h6⟩ := h
  simp only [Value.slice.injEq] at h3
  obtain ⟨rfl, _, rfl⟩ := h3
  rw [flatI_map] at h2
  refine ⟨h1, by rw [flatI_map]; simp at h2 ⊢; omega, _, c - i, rfl, by omega, by omega, fun hi0 => ?_⟩
  obtain ⟨b, off, e, h7, h8, h9⟩ := h6 (by omega)
  simp only [Option.some.injEq, Addr.mk.injEq, and_true] at e
  obtain ⟨rfl, rfl⟩ := e
  refine ⟨g, o + i, rfl, h7, h8, fun j u hu => ?_⟩
  rw [flatI_map, List.map_drop, List.getElem?_drop] at hu
  have := h9 (i + j) u (by rw [flatI_map]; exact hu)
  rw [Nat.add_assoc]; exact this
set_option maxRecDepth 100000 in
theorem l00OwnI (xs : List Int) (lo hi : Nat) (v : Value) (w : World) (hv : Sl lo hi w 1 v xs.length (flat encI xs)) (hsh : Shape v xs.length) (hn : xs.length ≤ 1048576) :
    Calls Try.prog 75 #[v] w fun e w' => (∃ v', e = .returned v' ∧ w'.ownsRow w.heap.size 2 1 v' xs.length (flat encI xs)) ∧ Ext w w' := by
  go_enter Try.func75, Try.ntmps75
  go_wp2_with (at_builtin; refine wp_appendN (w.alloc _) rfl (.tmp 3) (.tmp 4) _ rfl w.heap.size 2 1 8 _ Try.underlying27 infoInt rfl (by omega) (by omega) _ 0 [] (own_empty w _ _ _ (Nat.le_refl _)) rfl _ _ _ _ _ (hv.ext (Ext.new _ _)) hsh rfl (one_I xs) (by omega) (by simp) ?_; intro v' w' ho' hb')
  go_ret
  exact ⟨⟨_, rfl, by simpa using ho'⟩, (Ext.new w _).trans hb'⟩
theorem sl_cell {lo hi n c g o : Nat} {w : World} {xs : List Int} (h : Sl lo hi w 1 (.slice (some ⟨g, o, none⟩) n c) n (flat encI xs)) (j : Nat) (hj : j < xs.length) : w.cell? ⟨g, o + j, none⟩ = some (.int .i64 xs[j]) ∧ g < w.heap.size := by
  obtain ⟨h1, h2, A, c', h3, h4, h5, h6⟩ := h
  simp only [Value.slice.injEq] at h3
  obtain ⟨rfl, _, rfl⟩ := h3
  rw [flatI_map] at h2
  simp at h2
  obtain ⟨b, off, e, h7, h8, h9⟩ := h6 (by omega)
  simp only [Option.some.injEq, Addr.mk.injEq, and_true] at e
  obtain ⟨rfl, rfl⟩ := e
  exact ⟨cellsI h9 j hj, by omega⟩
theorem row_form {w : World} {base e K n : Nat} {v : Value} {xs : List Value} (h : w.ownsRow base e K v n xs) (hn : 0 < n) : ∃ g cap, v = .slice (some ⟨g, 0, none⟩) n cap ∧ w.ownsRow base e K (.slice (some ⟨g, 0, none⟩) n cap) n xs := by
  rcases h.2 with ⟨_, h0⟩ | ⟨g, cap, cur, rfl, _⟩
  · subst h0; omega
  · exact ⟨g, cap, rfl, h⟩
theorem row_low {w : World} {base b' e K n : Nat} {v : Value} {xs : List Value} (h : w.ownsRow base e K v n xs) (hb : b' ≤ base) : w.ownsRow b' e K v n xs := by
  refine ⟨h.1, ?_⟩
  rcases h.2 with h0 | ⟨g, cap, cur, e1, hbg, r⟩
  · exact .inl h0
  · exact .inr ⟨g, cap, cur, e1, Nat.le_trans hb hbg, r⟩
theorem put_row {w : World} {base b' e i c : Nat} {A : Option Addr} {L : List Int} {r : Int} (h : w.ownsRow base e 1 (.slice A ((L.take i).length + 1 + (L.length - i)) c) ((L.take i).length + 1 + (L.length - i)) (flat encI (L.take i) ++ [.int .i64 r] ++ flat encI (L.drop i))) (hi : i ≤ L.length) (hb : b' ≤ base) : w.ownsRow b' e 1 (.slice A (L.take i ++ r :: L.drop i).length c) (L.take i ++ r :: L.drop i).length (flat encI (L.take i ++ r :: L.drop i)) := by
  have e1 : (L.take i ++ r :: L.drop i).length = (L.take i).length + 1 + (L.length - i) := by simp; omega
  have e2 : flat encI (L.take i ++ r :: L.drop i) = flat encI (L.take i) ++ [.int .i64 r] ++ flat encI (L.drop i) := by simp [flatI_map]
  rw [e1, e2]; exact row_low h hb
theorem sl_zero {hi m c : Nat} {w : World} {xs : List Int} (g o : Nat) (hm : m = 0) (hx : xs = []) (hc : c ≤ maxLen) (hh : hi ≤ w.heap.size) : Sl 0 hi w 1 (.slice (some ⟨g, o, none⟩) m c) m (flat encI xs) := by
  subst hm; subst hx
  exact ⟨hh, rfl, _, c, rfl, Nat.zero_le _, hc, fun h => absurd h (by omega)⟩
set_option maxRecDepth 100000 in
set_option maxHeartbeats 2000000 in
theorem l24Middle (ns : List Int) (lo hi : Nat) (v : Value) (w : World) (hv : Sl lo hi w 1 v ns.length (flat encI ns)) (hn : ns.length ≤ 1048576) :
    Calls Try.prog 79 #[v] w fun e w' => e = .returned (.int .i64 (mid ns)) ∧ Ext w w' := by
  obtain ⟨hhi, _, A, c, rfl, hnc, hcm, hcell⟩ := hv
  go_enter Try.func79, Try.ntmps79
  go_wp2
  go_loopw [3, 4] (fun u i wr => ∃ (k : Nat) (L : List Int) (g cap : Nat), k ≤ ns.length ∧ i = .int .i64 k ∧ u = .slice (some ⟨g, 0, none⟩) L.length cap ∧ Hid (Med ns k L) ∧ wr.ownsRow w.heap.size 2 1 (.slice (some ⟨g, 0, none⟩) L.length cap) L.length (flat encI L) ∧ Ext w wr) (fun _ i _ => ns.length - (intOf i).toNat)
  case atStart => exact ⟨0, [], w.heap.size, 0, by omega, rfl, rfl, hid (Med.zero ns), own_empty w _ _ _ (Nat.le_refl _), Ext.new _ _⟩
  case round =>
    obtain ⟨k, L, g, cap, hk, rfl, rfl, HM, hown, hE⟩ := hrel
    have hL := HM.out.len
    have HS := hid (Sl.of_own hown (by unfold maxLen; omega))
    have HO := hid hown
    clear hown
    by_cases hlt : k < ns.length
    · obtain ⟨b, off, rfl, hb1, hb2, hc⟩ := hcell (by omega)
      have hki : (k : Int) < ns.length := by omega
      have hbw : b < w.heap.size := by omega
      have hz := hE.size
      have c0 := ((bcell hE).1 b (off + k) hbw).trans (cellsI hc k hlt)
      clear hc hcell
      by_cases hr : ns[k] = -1
      · have HN := hid (HM.out.skip hlt hr)
        rw [hr] at c0
        clear hr
        go_wp2
        go_roundw
        case rel => exact ⟨k + 1, L, g, cap, by omega, by go_num, rfl, HN, HO.out, hE⟩
        case measure => simp [intOf]; omega
      · have hrb : (ns[k] == -1) = false := by simpa using hr
        have HR := hid hr
        have HC := hid c0
        have HE0 := hid hE
        clear hr
        go_wp2
        go_loopw [5] (fun a wi => ∃ i : Nat, i ≤ L.length ∧ a = .int .i64 i ∧ Hid (∀ j (h : j < L.length), i ≤ j → ns[k] < L[j]) ∧ Ext wr wi) (fun a _ => (intOf a).toNat)
        case atStart => exact ⟨L.length, Nat.le_refl _, rfl, hid (fun j h hj => absurd hj (by omega)), Below.refl _ _⟩
        case round =>
          obtain ⟨i, hiL, rfl, HI, hE2⟩ := hrel
          have ⟨hcap, hcapm⟩ : L.length ≤ cap ∧ cap ≤ maxLen := by
            obtain ⟨_, _, A9, c9, h9, h10, h11, _⟩ := HS.out
            simp only [Value.slice.injEq] at h9
            obtain ⟨_, _, rfl⟩ := h9
            exact ⟨h10, h11⟩
          have y1 : ∀ d : Later wr, d.w.cell? ⟨b, off + k, none⟩ = some (.int .i64 ns[k]) := fun d => ((bcell (Ext.tr hE2 d.h)).1 b (off + k) (by omega)).trans HC.out
          by_cases hi0 : 0 < i
          · have hi0' : (0 : Int) < i := by omega
            have hiL' : (i : Int) ≤ L.length := by omega
            have y0 : ∀ d : Later wr, d.w.cell? ⟨g, i - 1, none⟩ = some (.int .i64 (L[i - 1]'(by omega))) := fun d => by
              have hx := sl_cell HS.out (i - 1) (by omega)
              have := ((bcell (Ext.tr hE2 d.h)).1 g (0 + (i - 1)) hx.2).trans hx.1
              rwa [Nat.zero_add] at this
            by_cases hgt : ns[k] < L[i - 1]'(by omega)
            · have HG := hid hgt
              go_wp2
              refine wp_region_later wr (by kernel_rfl) (by kernel_rfl) (Below.refl _ _) ?_
              repeat (go_big_quiet_step (fail))
              refine wpQuiet_nil ?_
              rintro _ ⟨d, rfl⟩
              go_wp2
              go_roundw
              case rel => exact ⟨i - 1, by omega, congrArg _ (by omega), hid (fun j h hj => by
                by_cases e : j = i - 1
                · subst e; exact HG.out
                · exact HI.out j h (by omega)), Ext.tr hE2 d.h⟩
              case measure => simp [intOf]; omega
            · have H2 : ∀ h : 0 < i, L[i - 1]'(by omega) ≤ ns[k] := fun _ => by omega
              go_wp2
              refine wp_region_later wr (by kernel_rfl) (by kernel_rfl) (Below.refl _ _) ?_
              repeat (go_big_quiet_step (fail))
              refine wpQuiet_nil ?_
              rintro _ ⟨d, rfl⟩
              have HCAP := hid hcapm
              have hN := hid (HM.out.put hlt HR.out hiL HI.out H2)
              have hlen : (L.take i).length = i := by rw [List.length_take]; omega
              have hlen2 : (L.drop i).length = L.length - i := List.length_drop ..
              have HSW := hid (HS.out.ext (Ext.tr hE2 d.h))
              have HW := hid (Ext.tr hE2 d.h)
              have HL1 := hid hlen
              have HL2 := hid hlen2
              have HOWN := hid (l00OwnI (L.take i) _ _ (.slice (some ⟨g, 0, none⟩) i cap) d.w (by rw [hlen]; exact sl_take HSW.out hiL) (by rw [hlen]; exact .inr ⟨_, _, _, rfl⟩) (by omega))
              clear hlen hlen2
              by_cases hic : i < cap
              · go_wp2_with (first | (go_at_call 75; refine HOWN.out.mono ?_; rintro e w4 ⟨⟨v4, rfl, ho4⟩, hE4⟩; have y5 := ((bcell (Ext.tr HW.out hE4)).1 b (off + k) (by omega)).trans HC.out) | (at_builtin; refine wp_append1 w4 rfl (.tmp 41) (.tmp 46) _ rfl d.w.heap.size 2 1 8 _ Try.underlying27 infoInt rfl (by omega) (by omega) _ _ _ ho4 rfl [.int .i64 ns[k]] rfl (by simp [Value.oneCell']) _ rfl rfl (by rw [HL1.out]; omega) hE4.size ?_; intro v5 w5 ho5 hb5; have hE5 := hE4.trans hb5) | (at_builtin; refine wp_appendN w5 rfl (.tmp 48) (.tmp 51) _ rfl d.w.heap.size 2 1 8 _ Try.underlying27 infoInt rfl (by omega) (by omega) _ _ _ ho5 rfl _ _ (L.length - i) _ (flat encI (L.drop i)) (by have := sl_drop (HSW.out.ext hE5) hiL; rwa [Nat.zero_add] at this) (.inr ⟨_, _, _, rfl⟩) rfl (one_I _) (by rw [HL1.out]; omega) hE5.size ?_; intro v6 w6 ho6 hb6))
                obtain ⟨g6, cap6, rfl, ho7⟩ := row_form ho6 (by omega)
                have hE6 := hE5.trans hb6
                go_roundw
                case rel => exact ⟨k + 1, L.take i ++ ns[k] :: L.drop i, g6, cap6, by omega, by go_num, by rw [List.length_append, List.length_cons, HL2.out]; congr 1; omega, hN, put_row ho7 hiL (Nat.le_trans HE0.out.size HW.out.size), Ext.tr hE (Ext.tr HW.out hE6)⟩
                case measure => simp [intOf]; omega
              · have HIQ := hid (show L.length - i = 0 by omega)
                go_wp2_with (first | (go_at_call 75; refine HOWN.out.mono ?_; rintro e w4 ⟨⟨v4, rfl, ho4⟩, hE4⟩; have y5 := ((bcell (Ext.tr HW.out hE4)).1 b (off + k) (by omega)).trans HC.out) | (at_builtin; refine wp_append1 w4 rfl (.tmp 41) (.tmp 46) _ rfl d.w.heap.size 2 1 8 _ Try.underlying27 infoInt rfl (by omega) (by omega) _ _ _ ho4 rfl [.int .i64 ns[k]] rfl (by simp [Value.oneCell']) _ rfl rfl (by rw [HL1.out]; omega) hE4.size ?_; intro v5 w5 ho5 hb5; have hE5 := hE4.trans hb5) | (at_builtin; refine wp_appendN w5 rfl (.tmp 48) (.tmp 51) _ rfl d.w.heap.size 2 1 8 _ Try.underlying27 infoInt rfl (by omega) (by omega) _ _ _ ho5 rfl _ _ (L.length - i) _ (flat encI (L.drop i)) (sl_zero g _ HIQ.out (List.drop_eq_nil_of_le (by omega)) (by have := HCAP.out; omega) (Nat.le_refl _)) (.inr ⟨_, _, _, rfl⟩) rfl (one_I _) (by rw [HL1.out]; omega) hE5.size ?_; intro v6 w6 ho6 hb6))
                obtain ⟨g6, cap6, rfl, ho7⟩ := row_form ho6 (by omega)
                have hE6 := hE5.trans hb6
                go_roundw
                case rel => exact ⟨k + 1, L.take i ++ ns[k] :: L.drop i, g6, cap6, by omega, by go_num, by rw [List.length_append, List.length_cons, HL2.out]; congr 1; omega, hN, put_row ho7 hiL (Nat.le_trans HE0.out.size HW.out.size), Ext.tr hE (Ext.tr HW.out hE6)⟩
                case measure => simp [intOf]; omega
          · have H2 : ∀ h : 0 < i, L[i - 1]'(by omega) ≤ ns[k] := fun h => absurd h hi0
            have hi0' : ¬ (0 : Int) < i := by omega
            go_wp2
            refine wp_region_later wr (by kernel_rfl) (by kernel_rfl) (Below.refl _ _) ?_
            repeat (go_big_quiet_step (fail))
            refine wpQuiet_nil ?_
            rintro _ ⟨d, rfl⟩
            have HCAP := hid hcapm
            have hN := hid (HM.out.put hlt HR.out hiL HI.out H2)
            have hlen : (L.take i).length = i := by rw [List.length_take]; omega
            have hlen2 : (L.drop i).length = L.length - i := List.length_drop ..
            have HSW := hid (HS.out.ext (Ext.tr hE2 d.h))
            have HW := hid (Ext.tr hE2 d.h)
            have HL1 := hid hlen
            have HL2 := hid hlen2
            have HOWN := hid (l00OwnI (L.take i) _ _ (.slice (some ⟨g, 0, none⟩) i cap) d.w (by rw [hlen]; exact sl_take HSW.out hiL) (by rw [hlen]; exact .inr ⟨_, _, _, rfl⟩) (by omega))
            clear hlen hlen2
            by_cases hic : i < cap
            · go_wp2_with (first | (go_at_call 75; refine HOWN.out.mono ?_; rintro e w4 ⟨⟨v4, rfl, ho4⟩, hE4⟩; have y5 := ((bcell (Ext.tr HW.out hE4)).1 b (off + k) (by omega)).trans HC.out) | (at_builtin; refine wp_append1 w4 rfl (.tmp 41) (.tmp 46) _ rfl d.w.heap.size 2 1 8 _ Try.underlying27 infoInt rfl (by omega) (by omega) _ _ _ ho4 rfl [.int .i64 ns[k]] rfl (by simp [Value.oneCell']) _ rfl rfl (by rw [HL1.out]; omega) hE4.size ?_; intro v5 w5 ho5 hb5; have hE5 := hE4.trans hb5) | (at_builtin; refine wp_appendN w5 rfl (.tmp 48) (.tmp 51) _ rfl d.w.heap.size 2 1 8 _ Try.underlying27 infoInt rfl (by omega) (by omega) _ _ _ ho5 rfl _ _ (L.length - i) _ (flat encI (L.drop i)) (by have := sl_drop (HSW.out.ext hE5) hiL; rwa [Nat.zero_add] at this) (.inr ⟨_, _, _, rfl⟩) rfl (one_I _) (by rw [HL1.out]; omega) hE5.size ?_; intro v6 w6 ho6 hb6))
              obtain ⟨g6, cap6, rfl, ho7⟩ := row_form ho6 (by omega)
              have hE6 := hE5.trans hb6
              go_roundw
              case rel => exact ⟨k + 1, L.take i ++ ns[k] :: L.drop i, g6, cap6, by omega, by go_num, by rw [List.length_append, List.length_cons, HL2.out]; congr 1; omega, hN, put_row ho7 hiL (Nat.le_trans HE0.out.size HW.out.size), Ext.tr hE (Ext.tr HW.out hE6)⟩
              case measure => simp [intOf]; omega
            · have HIQ := hid (show L.length - i = 0 by omega)
              go_wp2_with (first | (go_at_call 75; refine HOWN.out.mono ?_; rintro e w4 ⟨⟨v4, rfl, ho4⟩, hE4⟩; have y5 := ((bcell (Ext.tr HW.out hE4)).1 b (off + k) (by omega)).trans HC.out) | (at_builtin; refine wp_append1 w4 rfl (.tmp 41) (.tmp 46) _ rfl d.w.heap.size 2 1 8 _ Try.underlying27 infoInt rfl (by omega) (by omega) _ _ _ ho4 rfl [.int .i64 ns[k]] rfl (by simp [Value.oneCell']) _ rfl rfl (by rw [HL1.out]; omega) hE4.size ?_; intro v5 w5 ho5 hb5; have hE5 := hE4.trans hb5) | (at_builtin; refine wp_appendN w5 rfl (.tmp 48) (.tmp 51) _ rfl d.w.heap.size 2 1 8 _ Try.underlying27 infoInt rfl (by omega) (by omega) _ _ _ ho5 rfl _ _ (L.length - i) _ (flat encI (L.drop i)) (sl_zero g _ HIQ.out (List.drop_eq_nil_of_le (by omega)) (by have := HCAP.out; omega) (Nat.le_refl _)) (.inr ⟨_, _, _, rfl⟩) rfl (one_I _) (by rw [HL1.out]; omega) hE5.size ?_; intro v6 w6 ho6 hb6))
              obtain ⟨g6, cap6, rfl, ho7⟩ := row_form ho6 (by omega)
              have hE6 := hE5.trans hb6
              go_roundw
              case rel => exact ⟨k + 1, L.take i ++ ns[k] :: L.drop i, g6, cap6, by omega, by go_num, by rw [List.length_append, List.length_cons, HL2.out]; congr 1; omega, hN, put_row ho7 hiL (Nat.le_trans HE0.out.size HW.out.size), Ext.tr hE (Ext.tr HW.out hE6)⟩
              case measure => simp [intOf]; omega
    · obtain rfl : k = ns.length := by omega
      have HE := hid HM.out.end_
      by_cases h0 : L.length = 0
      · have HQ := hid (mid_nil (show srt ns = [] by rw [← HE.out]; exact List.eq_nil_of_length_eq_zero h0))
        go_wp2
        go_ret
        exact ⟨by rw [HQ.out]; rfl, hE⟩
      · have hm : (L.length - 1) / 2 < L.length := by omega
        have HQ := hid (show mid ns = L[(L.length - 1) / 2] by
          have := mid_at (ns := ns) (by rw [← HE.out]; intro e; rw [e] at h0; exact h0 rfl) (by rw [← HE.out]; exact hm)
          rw [this]; simp only [← HE.out])
        have c1 := (sl_cell HS.out _ hm).1
        rw [Nat.zero_add] at c1
        have hq : ((L.length : Int) - 1) / 2 = (((L.length - 1) / 2 : Nat) : Int) := by omega
        have h0b : ((L.length : Int) == 0) = false := by rw [beq_eq_false_iff_ne]; omega
        generalize (L.length - 1) / 2 = m at *
        go_wp2
        go_ret
        exact ⟨by rw [HQ.out]; rfl, hE⟩
end Go.Proofs.Ytopjccbjdcoanaa
