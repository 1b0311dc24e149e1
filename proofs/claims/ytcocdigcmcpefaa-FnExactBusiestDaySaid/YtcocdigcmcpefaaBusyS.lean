/- The reference's busiest day. -/
import Derived.Test.YtcocdigcmcpefaaBusyP
namespace Go.Proofs.Ytcocdigcmcpefaa
set_option linter.unusedVariables false
open Go.RowKit
set_option maxRecDepth 100000 in
set_option maxHeartbeats 1000000 in
theorem specBusiestDay (xs : List Int) (lo hi : Nat) (v : Value) (w : World) (hv : Sl lo hi w 1 v xs.length (flat encI xs)) (hn : xs.length ≤ 1048576) :
    Calls Try.prog 28 #[v] w fun e w' => e = .returned (.tuple #[.int .i64 (busyR xs).1, .int .i64 (busyR xs).2.1, .int .i64 (busyR xs).2.2]) ∧ Ext w w' := by
  obtain ⟨hhi, _, A, c, rfl, hnc, hcm, hcell⟩ := id hv
  go_enter Try.func28, Try.ntmps28
  cases hd : daysB xs
  · rw [busyR_a hd]
    go_wp2_with (go_at_call 35; refine (cv (l25Days xs lo hi _ _ hv hn) (vb hd)).mono ?_; rintro e w' ⟨rfl, rfl⟩)
    go_ret3; exact ⟨rfl, Below.refl _ _⟩
  · by_cases h0 : xs.length = 0
    · rw [busyR_b hd h0]
      have H0 := hid h0
      clear h0
      go_wp2_with (go_at_call 35; refine (cv (l25Days xs lo hi _ _ hv hn) (vb hd)).mono ?_; rintro e w' ⟨rfl, rfl⟩; have h0 := H0.out)
      go_ret3; exact ⟨rfl, Below.refl _ _⟩
    · have HD := hid hd
      have h0b : ((xs.length : Int) == 0) = false := by rw [beq_eq_false_iff_ne]; omega
      go_wp2_with (go_at_call 35; refine (cv (l25Days xs lo hi _ _ hv hn) (vb hd)).mono ?_; rintro e w' ⟨rfl, rfl⟩)
      clear hd
      obtain ⟨b', off, rfl, hb1, hb2, hc⟩ := hcell (by omega)
      have hbw : b' < w.heap.size := Nat.lt_of_lt_of_le hb2 hhi
      have HX : Hid (∀ W, Ext w W → ∀ k (hk : k < xs.length), W.cell? ⟨b', off + k, none⟩ = some (.int .i64 xs[k])) := fun W hE k hk => (hE.cell (p := ⟨b', off + k, none⟩) hbw).trans (cellsI hc k hk)
      clear hcell hc hv
      go_loopw [5, 6, 7] (fun b m i wr => ∃ (k : Nat) (z y : Int), k ≤ xs.length ∧ i = .int .i64 k ∧ b = .int .i64 z ∧ m = .int .i64 y ∧ Hid (bTo xs k = (z, y)) ∧ Ext w wr) (fun _ _ i _ => xs.length - (intOf i).toNat)
      case atStart => exact ⟨0, 0, 0, Nat.zero_le _, rfl, rfl, rfl, hid rfl, Below.refl _ _⟩
      case round =>
        obtain ⟨k, z, y, hk, rfl, rfl, rfl, HB, hE⟩ := hrel
        by_cases hlt : k < xs.length
        · have hbd := (bTo_ok xs k (by omega)).bd
          rw [HB.out] at hbd
          obtain ⟨wo, rfl⟩ : ∃ wo : World, wo = wr := ⟨_, rfl⟩
          go_wp2
          go_loopw [8, 9] (fun n i wr => ∃ q : Nat, q ≤ xs.length ∧ i = .int .i64 q ∧ n = .int .i64 (cnt (xs.take q) xs[k]) ∧ Ext w wr) (fun _ i _ => xs.length - (intOf i).toNat)
          case atStart => exact ⟨0, Nat.zero_le _, rfl, rfl, hE⟩
          case round =>
            obtain ⟨q, hq, rfl, rfl, hE2⟩ := hrel
            have hcn := cnt_nn (xs.take q) xs[k]
            have hcl : (xs.take q).length ≤ xs.length := by simp; omega
            by_cases hql : q < xs.length
            · have c0 : ∀ n, (wr.drewN n).cell? ⟨b', off + k, none⟩ = some (.int .i64 xs[k]) := fun n => HX.out _ (Ext.tr hE2 (Ext.drewN _ n)) k hlt
              have c1 : ∀ n, (wr.drewN n).cell? ⟨b', off + q, none⟩ = some (.int .i64 xs[q]) := fun n => HX.out _ (Ext.tr hE2 (Ext.drewN _ n)) q hql
              have hs := cnt_take hql xs[k]
              by_cases he : xs[q] = xs[k]
              · rw [if_pos he] at hs
                go_wp2_with fail
                go_quiet (fail)
                go_wp2
                go_roundw
                case rel => exact ⟨q + 1, by omega, by go_num, by rw [hs], Ext.tr hE2 (Ext.drewN _ _)⟩
                case measure => simp [intOf]; omega
              · rw [if_neg he, Int.add_zero] at hs
                go_wp2_with fail
                go_quiet (fail)
                go_wp2
                go_roundw
                case rel => exact ⟨q + 1, by omega, by go_num, by rw [hs], Ext.tr hE2 (Ext.drewN _ _)⟩
                case measure => simp [intOf]; omega
            · obtain rfl : q = xs.length := by omega
              rw [cnt_all]
              have hb := bTo_succ hlt
              rw [HB.out] at hb
              have c0 := HX.out wr hE2 k hlt
              have fin : Hid (Ext w wr) := hid hE2
              by_cases h1 : y < cnt xs xs[k]
              · rw [bStep_yes (.inl h1)] at hb
                have HF := hid hb
                clear hb hcn
                go_wp2
                all_goals first | (exfalso; omega) | skip
                go_roundw
                case rel => exact ⟨k + 1, _, _, by omega, by go_num, rfl, rfl, HF, fin.out⟩
                case measure => simp [intOf]; omega
              · by_cases h2 : cnt xs xs[k] = y
                · by_cases h3 : xs[k] < z
                  · rw [bStep_yes (.inr ⟨h2, h3⟩)] at hb
                    have HF := hid hb
                    clear hb hcn
                    go_wp2
                    all_goals first | (exfalso; omega) | skip
                    go_roundw
                    case rel => exact ⟨k + 1, _, _, by omega, by go_num, rfl, rfl, HF, fin.out⟩
                    case measure => simp [intOf]; omega
                  · rw [bStep_no (by omega)] at hb
                    have HF := hid hb
                    clear hb hcn
                    go_wp2
                    all_goals first | (exfalso; omega) | skip
                    go_roundw
                    case rel => exact ⟨k + 1, _, _, by omega, by go_num, rfl, rfl, HF, fin.out⟩
                    case measure => simp [intOf]; omega
                · rw [bStep_no (by omega)] at hb
                  have HF := hid hb
                  clear hb hcn
                  go_wp2
                  all_goals first | (exfalso; omega) | skip
                  go_roundw
                  case rel => exact ⟨k + 1, _, _, by omega, by go_num, rfl, rfl, HF, fin.out⟩
                  case measure => simp [intOf]; omega
        · obtain rfl : k = xs.length := by omega
          go_wp2
          go_ret3
          exact ⟨by rw [busyR_c HD.out (by omega), HB.out]; rfl, hE⟩
end Go.Proofs.Ytcocdigcmcpefaa
