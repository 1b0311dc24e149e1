/- The note's spread of checks over days. -/
import Derived.Test.YtcocdigcmcpefaaLpd
import Derived.Test.YtcocdigcmcpefaaD25
import Derived.Test.YtcocdigcmcpefaaRowK
namespace Go.Proofs.Ytcocdigcmcpefaa
set_option linter.unusedVariables false
open Go.RowKit
def dueOf (c : Check) : Int := c.last + c.every
def duesOf (xs : List Check) : List Int := xs.map dueOf
theorem dues_len (xs : List Check) : (duesOf xs).length = xs.length := by simp [duesOf]
theorem dues_at {xs : List Check} {k : Nat} (h : k < xs.length) : at0 (duesOf xs) k = xs[k].last + xs[k].every := by
  unfold at0 duesOf; rw [List.getD_eq_getElem?_getD, List.getElem?_map, List.getElem?_eq_getElem h]; rfl
theorem rep_snoc (k : Nat) : List.replicate k (-1 : Int) ++ [-1] = List.replicate (k + 1) (-1) := by rw [List.replicate_succ']
theorem at0_neg {os : List Int} {k : Nat} (h : k < os.length) : at0 os k = os[k] := (at0_of h).symm
theorem flatI_mp (xs : List Int) : flat encI xs = xs.map (Value.int .i64) := by
  induction xs with
  | nil => rfl
  | cons x xs ih => show flat encI (x :: xs) = _; unfold flat at ih ⊢; rw [List.flatMap_cons, ih]; rfl
set_option maxRecDepth 100000 in
set_option maxHeartbeats 1000000 in
theorem l25Spread (xs : List Check) (frm : Int) (n lo hi : Nat) (v : Value) (w : World) (hv : Sl lo hi w 3 v xs.length (flat Check.enc xs)) (hx : checksOkB xs = true) (hx16 : xs.length ≤ 16) (hf : 0 ≤ frm ∧ frm ≤ 100000) (hn : 1 ≤ n ∧ n ≤ 16) :
    Calls Try.prog 47 #[v, .int .i64 frm, .int .i64 n] w fun e w' => (∃ v', e = .returned (.tuple #[v', .bool (spreadB (duesOf xs) frm n)])) ∧ Ext w w' := by
  obtain ⟨hf0, hf1⟩ := hf
  obtain ⟨hn0, hn1⟩ := hn
  obtain ⟨hhi, _, A, c, rfl, hnc, hcm, hcell⟩ := id hv
  have HD := hid (dues_len xs)
  go_enter Try.func47, Try.ntmps47
  go_wp2
  go_loopw [8, 9] (fun u i wr => ∃ (k : Nat), k ≤ xs.length ∧ i = .int .i64 k ∧ Hid (wr.ownsRow w.heap.size 2 1 u k (flat encI (List.replicate k (-1)))) ∧ Hid (Ext w wr)) (fun _ i _ => xs.length - (intOf i).toNat)
  case atStart => exact ⟨0, Nat.zero_le _, rfl, hid (own_empty _ _ _ _ (Nat.le_refl _)), hid (Ext.new _ _)⟩
  case round =>
    obtain ⟨k, hk, rfl, HO, HE⟩ := hrel
    by_cases hlt : k < xs.length
    · have hz := HE.out.size
      go_wp2_with (at_builtin; refine wp_append1 wr rfl (.tmp 22) (.tmp 23) _ rfl w.heap.size 2 1 8 _ Try.underlying29 infoInt rfl (by omega) (by omega) _ _ _ HO.out rfl [.int .i64 (-1)] rfl (by simp [Value.oneCell']) _ rfl rfl (by omega) hz ?_; intro v' w' ho' hb')
      go_roundw
      case rel => exact ⟨k + 1, by omega, by go_num, hid (by rw [← rep_snoc, flat_snoc]; exact ho'), hid (HE.out.trans hb')⟩
      case measure => simp [intOf]; omega
    · obtain rfl : k = xs.length := by omega
      have HS0 := hid (Sel.zero (os := List.replicate xs.length (-1)) (ds := duesOf xs) (frm := frm) (n := n) (by rw [HD.out]; simp) (fun o ho => by have := (List.mem_replicate.1 ho).2; omega))
      go_wp2
      go_loopw [10, 11] (fun l d W => ∃ (q k : Nat) (os : List Int), k ≤ xs.length ∧ q ≤ 17 ∧ l = .int .i64 ((xs.length : Int) - k) ∧ d = .int .i64 (frm + q) ∧ (k < xs.length → k = q * n) ∧ Hid (Sel os (duesOf xs) frm n k) ∧ Hid (W.ownsRow w.heap.size 2 1 u8 xs.length (flat encI os)) ∧ Hid (Ext w W)) (fun l _ _ => (intOf l).toNat)
      case atStart => exact ⟨0, 0, _, by omega, by omega, by go_num, by go_num, fun _ => by omega, HS0, HO, HE⟩
      case round =>
        obtain ⟨q, k, os, hk, hq, rfl, rfl, hkq, HS, HO2, HE2⟩ := hrel
        clear HO HE HS0
        by_cases hkl : k < xs.length
        · have e0 := hkq hkl
          have hq2 : q ≤ k := by rw [e0]; exact Nat.le_mul_of_pos_right _ (by omega)
          clear hkq
          have HK0 := hid e0
          clear e0
          obtain ⟨g8, cap8, _, rfl, hg8, _, _, hn8⟩ := row_open HO2.out 0 (by omega)
          go_wp2
          go_loopw [10, 12] (fun l j W => ∃ (m k : Nat) (os : List Int), m ≤ n ∧ k ≤ xs.length ∧ l = .int .i64 ((xs.length : Int) - k) ∧ j = .int .i64 m ∧ Hid (k = q * n + m) ∧ Hid (Sel os (duesOf xs) frm n k) ∧ Hid (W.ownsRow w.heap.size 2 1 (.slice (some ⟨g8, 0, none⟩) xs.length cap8) xs.length (flat encI os)) ∧ Hid (Ext w W)) (fun _ j _ => n - (intOf j).toNat)
          case atStart => exact ⟨0, k, os, by omega, hk, rfl, rfl, hid (by have := HK0.out; omega), HS, HO2, HE2⟩
          case round =>
            have HKL0 := hid hkl
            clear HS HO2 HE2 hkl hk
            obtain ⟨m, k, os, hm, hk, rfl, rfl, HK, HS, HO2, HE2⟩ := hrel
            by_cases hmn : m < n
            · by_cases hkl : k < xs.length
              · have HM := hid hmn
                go_wp2
                go_loopw [13, 14] (fun b i W => ∃ (p : Nat) (z : Int), p ≤ xs.length ∧ i = .int .i64 p ∧ b = .int .i64 z ∧ (-1 ≤ z ∧ z < xs.length) ∧ Hid (Best os (duesOf xs) p z) ∧ Hid (Ext wr W)) (fun _ i _ => xs.length - (intOf i).toNat)
                case atStart => exact ⟨0, -1, Nat.zero_le _, rfl, rfl, by omega, hid (Best.zero _ _), hid (Below.refl _ _)⟩
                case round =>
                  obtain ⟨p, z, hp, rfl, rfl, ⟨hz0, hz1⟩, HB, HEi⟩ := hrel
                  by_cases hpl : p < xs.length
                  · obtain ⟨b, off, rfl, hb1, hb2, hc⟩ := hcell (by omega)
                    have hbw : b < w.heap.size := by omega
                    have hol : os.length = xs.length := HS.out.1.trans HD.out
                    have hpo : p < os.length := by omega
                    have HP : Hid (∀ n (j : Nat) (hj : j < xs.length), Check.At (wr.drewN n) b (off + j * 3) xs[j]) := hid (fun n j hj => Check.at_of hc (Ext.tr HE2.out (Ext.tr HEi.out (Ext.drewN _ n))) hbw j hj)
                    have co : ∀ n, (wr.drewN n).cell? ⟨g8, p, none⟩ = some (.int .i64 os[p]) := fun n => row_cell (ownD (ownE HO2.out HEi.out) n) (getI os p hpo)
                    have hbp := checksOkB_p hx p hpl
                    have hdp := dues_at hpl
                    clear hc hcell
                    by_cases ho : os[p] < 0
                    · by_cases hzn : z < 0
                      · have HB1 := hid (HB.out.take hpo ho (fun b e => by omega))
                        go_wp2_with fail
                        go_quiet (fail)
                        go_wp2
                        go_roundw
                        case rel => exact ⟨p + 1, p, by omega, by go_num, rfl, by omega, HB1, hid (Ext.tr HEi.out (Ext.drewN _ _))⟩
                        case measure => simp [intOf]; omega
                      · obtain ⟨y, rfl⟩ := Int.eq_ofNat_of_zero_le (by omega : 0 ≤ z)
                        have hyl : y < xs.length := by omega
                        have hby := checksOkB_p hx y hyl
                        have hdy := dues_at hyl
                        have HP1 := hid (fun n => (HP.out n p hpl).2.1)
                        have HP2 := hid (fun n => (HP.out n p hpl).2.2)
                        have HY1 := hid (fun n => (HP.out n y hyl).2.1)
                        have HY2 := hid (fun n => (HP.out n y hyl).2.2)
                        by_cases hlt : xs[p].last + xs[p].every < xs[y].last + xs[y].every
                        · have HB1 := hid (HB.out.take hpo ho (fun b e => by obtain rfl : y = b := by omega
                                                                             omega))
                          clear hdp hdy
                          go_wp2_with fail
                          go_quiet ((go_at_call 36; first | with_reducible exact Calls.quiet_of (l25Due b (off + p * 3) xs[p].every xs[p].last _ hbp.1 hbp.2 (HP1.out _) (HP2.out _)) | with_reducible exact Calls.quiet_of (l25Due b (off + y * 3) xs[y].every xs[y].last _ hby.1 hby.2 (HY1.out _) (HY2.out _))))
                          go_wp2
                          go_roundw
                          case rel => exact ⟨p + 1, p, by omega, by go_num, rfl, by omega, HB1, hid (Ext.tr HEi.out (Ext.drewN _ _))⟩
                          case measure => simp [intOf]; omega
                        · have HB1 := hid (HB.out.leave hpo (by omega))
                          clear hdp hdy
                          go_wp2_with fail
                          go_quiet ((go_at_call 36; first | with_reducible exact Calls.quiet_of (l25Due b (off + p * 3) xs[p].every xs[p].last _ hbp.1 hbp.2 (HP1.out _) (HP2.out _)) | with_reducible exact Calls.quiet_of (l25Due b (off + y * 3) xs[y].every xs[y].last _ hby.1 hby.2 (HY1.out _) (HY2.out _))))
                          go_wp2
                          go_roundw
                          case rel => exact ⟨p + 1, y, by omega, by go_num, rfl, by omega, HB1, hid (Ext.tr HEi.out (Ext.drewN _ _))⟩
                          case measure => simp [intOf]; omega
                    · have HB1 := hid (HB.out.skip hpo ho)
                      have hd : decide (os[p] < 0) = false := by simpa using ho
                      clear ho
                      go_wp2_with fail
                      go_quiet (fail)
                      go_wp2
                      go_roundw
                      case rel => exact ⟨p + 1, z, by omega, by go_num, rfl, by omega, HB1, hid (Ext.tr HEi.out (Ext.drewN _ _))⟩
                      case measure => simp [intOf]; omega
                  · obtain rfl : p = xs.length := by omega
                    have hol : os.length = xs.length := HS.out.1.trans HD.out
                    obtain ⟨y, hzy, hyo, hyn, hye⟩ := HS.out.best (by rw [HD.out]; exact hkl) (by rw [hol]; exact HB.out)
                    subst hzy
                    have hyl : y < xs.length := by omega
                    have hby := checksOkB_p hx y hyl
                    have hdy := dues_at hyl
                    obtain ⟨b, off, rfl, hb1, hb2, hc⟩ := hcell (by omega)
                    have hbw : b < w.heap.size := by omega
                    have HY := Check.at_of hc (Ext.tr HE2.out HEi.out) hbw y hyl
                    have HY1 := HY.2.1
                    have HY2 := HY.2.2
                    have HQ := hid (show k / n = q by rw [HK.out, Nat.mul_comm, Nat.mul_add_div (by omega), Nat.div_eq_of_lt HM.out, Nat.add_zero])
                    clear hc hcell HY
                    by_cases hlate : xs[y].last + xs[y].every < frm + q
                    · have HN := hid (spreadB_no (D := duesOf xs) (frm := frm) (n := n) (k := k) (by rw [HD.out]; exact hkl) (by rw [HQ.out, ← hye, hdy]; exact hlate))
                      clear hye hdy
                      go_wp2_with (go_at_call 36; refine (l25Due b (off + y * 3) xs[y].every xs[y].last _ hby.1 hby.2 HY1 HY2).mono ?_; rintro e w2 ⟨rfl, nn, rfl⟩)
                      go_ret2
                      exact ⟨⟨_, by rw [HN.out]; rfl⟩, Ext.tr (Ext.tr HE2.out HEi.out) (Ext.drewN _ _)⟩
                    · have HN := hid (HS.out.next (by rw [HD.out]; exact hkl) hyo hyn hye (x := frm + q) (by omega) (by rw [HQ.out, hdy]; omega))
                      have HO3 := hid (ownE HO2.out HEi.out)
                      have hE3 := Ext.tr HE2.out HEi.out
                      clear hye hdy HO2 HE2
                      go_wp2_with (go_at_call 36; refine (l25Due b (off + y * 3) xs[y].every xs[y].last _ hby.1 hby.2 HY1 HY2).mono ?_; rintro e w2 ⟨rfl, nn, rfl⟩; have HO4 := hid (ownD HO3.out nn); have co := row_cell HO4.out (getI os y hyo); have fo := HO4.out.frozenAt y)
                      go_roundw
                      case rel => exact ⟨m + 1, k + 1, _, by omega, by omega, by go_num, by go_num, hid (by have := HK.out; omega), HN, hid (by rw [flatI_mp, List.map_set, ← flatI_mp]; exact (HO4.out.stored y _).1), hid (Below.setCell (Ext.tr hE3 (Ext.drewN _ nn)) (p := ⟨g8, y, none⟩) hg8 _)⟩
                      case measure => simp [intOf]; omega
              · obtain rfl : k = xs.length := by omega
                go_wp2
                go_roundw
                case rel => exact ⟨q + 1, xs.length, os, Nat.le_refl _, by have := HKL0.out; omega, rfl, by go_num, fun h => by omega, HS, HO2, HE2⟩
                case measure => have := HKL0.out; simp [intOf]; omega
            · obtain rfl : m = n := by omega
              have e1 := HK.out
              have e2 := HK0.out
              go_wp2
              go_roundw
              case rel => exact ⟨q + 1, k, os, hk, by have := HKL0.out; omega, rfl, by go_num, fun h => by rw [e1, Nat.add_mul, Nat.one_mul], HS, HO2, HE2⟩
              case measure => simp [intOf]; omega
        · obtain rfl : k = xs.length := by omega
          have HZ := hid (Sel.end_ (by rw [HD.out]; exact HS.out))
          go_wp2
          go_ret2
          exact ⟨⟨_, by rw [HZ.out]; rfl⟩, HE2.out⟩
end Go.Proofs.Ytcocdigcmcpefaa
