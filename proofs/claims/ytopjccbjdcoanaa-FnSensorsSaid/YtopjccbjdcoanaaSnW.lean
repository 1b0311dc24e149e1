/- The walk of the law FnSensors: it returns true; nothing that was there has turned. -/
import Derived.Test.YtopjccbjdcoanaaSensA
import Derived.Test.YtopjccbjdcoanaaSnM2
import Derived.Test.YtopjccbjdcoanaaSnM1
import Derived.Deep.RegionLaw
namespace Go.Proofs.Ytopjccbjdcoanaa
set_option linter.unusedVariables false
open Go.RowKit
set_option maxRecDepth 100000 in
set_option maxHeartbeats 8000000 in
theorem lawSensors (w : World) (code more : List Int) (v0 v1 : Value) (hv0 : Sl 0 w.heap.size w 1 v0 code.length (flat encB code)) (hb0 : ∀ b ∈ code, 0 ≤ b ∧ b ≤ 255) (hv1 : Sl 0 w.heap.size w 1 v1 more.length (flat encB more)) (hb1 : ∀ b ∈ more, 0 ≤ b ∧ b ≤ 255) :
    Calls Try.prog 3 #[v0, v1] w fun e w' => e = .returned (.bool true) ∧ Ext w w' := by
  have HV0 := hid hv0
  have HV1 := hid hv1
  have HB0 := hid hb0
  have HB1 := hid hb1
  clear hv0 hv1 hb0 hb1
  cases h0 : decide (1048576 < code.length)
  case true =>
    go_enter Try.func3, Try.ntmps3
    go_wp2_with (go_at_call 10; refine (cv (b10Long code _ _ _ _ HV0.out) (vb h0)).mono ?_; rintro e w' ⟨rfl, rfl⟩)
    go_ret
    exact ⟨rfl, Below.refl _ _⟩
  cases h1 : decide (1048576 < more.length)
  case true =>
    go_enter Try.func3, Try.ntmps3
    go_wp2_with fail
    refine (cv (b10Long code _ _ _ _ HV0.out) (vb h0)).mono ?_
    rintro e w' ⟨rfl, rfl⟩
    go_wp2_with fail
    refine (cv (b10Long more _ _ _ _ HV1.out) (vb h1)).mono ?_
    rintro e w' ⟨rfl, rfl⟩
    go_wp2
    go_ret
    exact ⟨rfl, Below.refl _ _⟩
  go_enter Try.func3, Try.ntmps3
  go_wp2_with fail
  refine (cv (b10Long code _ _ _ _ HV0.out) (vb h0)).mono ?_
  rintro e w' ⟨rfl, rfl⟩
  go_wp2_with fail
  refine (cv (b10Long more _ _ _ _ HV1.out) (vb h1)).mono ?_
  rintro e w' ⟨rfl, rfl⟩
  go_wp2_with fail
  refine (drawFewest code _ _ v0 w HV0.out HB0.out).mono ?_
  rintro e w1 ⟨⟨vt, ts, lim, bud, rfl, htl, htr, hO⟩, hE1⟩
  have HE1 := hid hE1
  have HT1 := hid hO
  have htot := tot_le htr
  obtain ⟨At, ct, rfl, _, _⟩ := SlSS.slice hO
  clear hO hE1
  go_wp2_with fail
  refine (implFewestSensors ts lim bud _ _ _ w1 HT1.out (by omega)).mono ?_
  rintro e w2 ⟨⟨vs, rfl, hO2⟩, hE2⟩
  have HT2 := hid (SlN.ext HT1.out hE2)
  have HO2 := hid hO2.sl
  have HE2 := hid (Ext.tr HE1.out hE2)
  have hz2 := hE2.size
  clear hO2 hE2 HT1 HE1
  go_upto_if 48 with fail
  refine sensA ts lim bud At ct _ _ _ _ vs w2 (by omega) HT2 hz2 HO2 _ _ _ _ _ _ _ _ _ _ _ _ _ _ _ _ _ _ _ _ _ _ _ _ _ _ _ _ _ _ _ _ _ _ _ _ _ _ _ _ _ _ _ _ _ _ _ _ _ _ _ _ _ _ _ _ _ _ _ _ _ _ _ _ _ _ _ _ _ _ _ _ _ _ _ _ _ _ _ _ _ _ _ _ _ _ _ _ _ _ _ _ _ _ _ _ _ _ _ _ _ _ _ _ _ _ _ _ _ _ _ _ _ _ _ _ _ _ _ _ _ _ _ _ _ _ _ _ _ _ _ _ _ _ _ _ _ _ _ _ _ _ _ _ _ _ _ _ _ _ _ _ _ _ _ _ _ _ _ _ _ _ _ _ _ _ _ _ _ _ _ _ _ _ _ _ _ _ _ _ _ _ _ _ _ _ _ _ _ _ _ _ _ _ _ _ _ _ _ _ _ _ _ _ ?_
  intro y4 y10 y11 y12 y13 y14 y15 y16 y17 y18 y19 y48 y49 y50 y51 y52 y53 y54 y55 y56 y57 y58 y59 y60 y61 y62 y63 y64 y65 y66 y67 y68 y69 y70 y71 y72 y73 y74 y75 y76 y77 y78 y79 y80 y81 y82 y83 y84 y85 y86 y87 y88 y89 y90 y91 y92 y93 y94 y95 y96 y97 y98 y99 y100 y101 y102 y103 y104 y105 y106 y107 y108 y109 y110 y111 y112 y113 y114 y115 y116 y117 y118 y119 wc hEc
  have HEc := hid (Ext.tr HE2.out hEc)
  clear hEc HT2 HO2 HE2 hz2 htot htr htl
  go_wp2_with fail
  refine (drawFirst more _ _ v1 wc (HV1.out.ext HEc.out) HB1.out).mono ?_
  rintro e w3 ⟨⟨vl, vse, xs, ss, rfl, hxl, hxi, hsl, hsr, hL, hS⟩, hE3⟩
  have HE3 := hid (Ext.tr HEc.out hE3)
  have HL3 := hid hL
  have HS3 := hid hS
  have HXI := hid (show ∀ x ∈ xs, x.id.size ≤ maxLen from fun x hx => by have := hxi x hx; unfold maxLen; omega)
  have HTOT := hid (tot_le hsr)
  obtain ⟨_, _, Al, cl, rfl, _, _, _⟩ := id hL
  obtain ⟨Ase, cse, rfl, _, _⟩ := SlSS.slice hS
  have HSR := hid hsr
  clear hL hS hE3 hxi hsr HEc
  go_wp2_with fail
  refine (implFirstAlarm xs ss _ _ _ _ _ _ w3 HL3.out HXI.out (by omega) HS3.out (by have := HTOT.out; omega)).mono ?_
  rintro e w4 ⟨rfl, hE4⟩
  have HL4 := hid (HL3.out.ext hE4)
  have HS4 := hid (SlN.ext HS3.out hE4)
  have HE4 := hid (Ext.tr HE3.out hE4)
  clear hE4 HL3 HS3 HE3
  by_cases hc : (firR xs ss).2.2 = 0
  case neg =>
    have hcb : ((firR xs ss).2.2 != 0) = true := by simpa using hc
    obtain ⟨hm1, hm2⟩ := firR_miss hc
    have hb1 : ((firR xs ss).1 == 0) = true := by rw [hm1]; rfl
    have hb2 : ((firR xs ss).2.1 == 0) = true := by rw [hm2]; rfl
    clear hc hm1 hm2
    go_wp2
    go_ret
    exact ⟨rfl, HE4.out⟩
  have hcb : ((firR xs ss).2.2 != 0) = false := by simpa using hc
  obtain ⟨hsb, hsx, hbad, kk, hk1, hk2, hk3, hk4, hk5⟩ := firR_hit hc
  have hkn : decide ((firR xs ss).1 < 0) = false := by rw [hk1]; simp
  have hkg : decide ((xs.length : Int) ≤ (firR xs ss).1) = false := by rw [hk1]; simp; omega
  have hlb : ((ss.length : Int) != (xs.length : Int)) = false := by rw [hsx]; simp
  have HSX := hid hsx
  have HK1 := hid hk1
  have HK3 := hid hk3
  have HK4 := hid hk4
  have HK5 := hid hk5
  have HBAD := hid hbad
  clear hc hsx hbad hk1 hk3 hk4 hk5
  generalize hmin : (firR xs ss).2.1 = mi at *
  clear hmin
  generalize hkk : (firR xs ss).1 = ki at *
  clear hkk
  obtain ⟨_, _, Al', cl', hle, _, _, hlc⟩ := id HL4.out
  simp only [Value.slice.injEq, true_and] at hle
  obtain ⟨rfl, rfl⟩ := hle
  obtain ⟨ys, hys, ⟨hhi, _, A0, c0', he, hnc, hcm, hcell⟩, hin⟩ := SlSS.opn HS4.out
  simp only [Value.slice.injEq, true_and] at he
  obtain ⟨rfl, rfl⟩ := he
  have HY := hid hys
  have HN := hid hin
  have HLC := hid hlc
  have hl4 := HL4.out.1
  clear hys hin hlc
  go_wp2
  clear hcb hkn hkg hlb
  go_loopw [25] (fun i W => ∃ k : Nat, k ≤ xs.length ∧ i = .int .i64 k ∧ Hid (Ext w4 W)) (fun i _ => xs.length - (intOf i).toNat)
  case atStart => exact ⟨0, Nat.zero_le _, rfl, hid (Below.refl _ _)⟩
  case round =>
    obtain ⟨k, hk, rfl, HEk⟩ := hrel
    by_cases hlt : k < xs.length
    · have hlts : k < ss.length := by have := HSX.out; omega
      obtain ⟨b, off, rfl, _, hb2', hcl⟩ := hcell (by omega)
      have hbw : b < w4.heap.size := by omega
      obtain ⟨Ai, ci, d0, hsi⟩ := SS.at_ HY.out HN.out hcl HEk.out hbw k hlts
      obtain ⟨bl, ol, rfl, _, hbl, hlcc⟩ := HLC.out (by omega)
      have hblw : bl < w4.heap.size := by omega
      have HX := hid (Sensor.at_of hlcc HEk.out hblw k hlt)
      have x0 : wr.cell? ⟨bl, ol + k * 5, none⟩ = some (.string xs[k].id) := HX.out.1
      have x1 : wr.cell? ⟨bl, ol + k * 5 + 1, none⟩ = some (.int .i64 xs[k].junction) := HX.out.2.1
      have x2 : wr.cell? ⟨bl, ol + k * 5 + 2, none⟩ = some (.int .i64 xs[k].limit) := HX.out.2.2.1
      have x3 : wr.cell? ⟨bl, ol + k * 5 + 3, none⟩ = some (.int .i64 xs[k].delay) := HX.out.2.2.2.1
      have x4 : wr.cell? ⟨bl, ol + k * 5 + 4, none⟩ = some (.int .i64 xs[k].release) := HX.out.2.2.2.2
      have hsk := sensors_at hsb k hlt
      have hbk := badS_at HBAD.out k hlts
      have HAL := hid (specAlarmsOf xs[k] ss[k] _ _ _ (wr.drewN 1) (HXI.out _ (List.getElem_mem _)) (hsi.ext (Ext.drewN wr 1)) (by have := HSR.out ss[k] (List.getElem_mem _); omega))
      rw [almR_c hsk hbk] at HAL
      obtain ⟨hx1, hx2, hx3, hx4, hx5, hx6⟩ := sensorB_le hsk
      have HGD := hid (alarms_good xs[k] ss[k] (by omega) (by omega))
      have hAb := (alarms_bd xs[k] ss[k] (by omega) (by omega)).1
      have hns := series_len hbk
      have hfa := fAl_at hlt hlts
      have h5 := HK5.out k hlt
      rw [hfa] at h5
      have HKE := hid (show (k : Int) = ki → alarms xs[k] ss[k] ≠ [] ∧ fst_ (alarms xs[k] ss[k]) = mi from fun e => by
        have e2 : k = kk := by have := HK1.out; omega
        subst e2
        rw [← hfa]; exact ⟨HK3.out, HK4.out⟩)
      have hkw : wr.heap.size = (wr.drewN 1).heap.size := rfl
      have hzk := HEk.out.size
      have hblr : bl < wr.heap.size := by omega
      have hbr : b < wr.heap.size := by omega
      clear hcl hlcc hsi hfa hsk hbk hx1 hx2 hx3 hx4 hx5 hx6 hb2' hbl
      generalize alarms xs[k] ss[k] = A at *
      go_wp2_with fail
      go_region_law (first | (go_simp; go_at_call 17; refine HAL.out.mono ?_; rintro e w5 ⟨⟨v5, rfl, hO5⟩, hE5⟩))
      all_goals
        have HE5 := hid (Ext.tr (Ext.tr HEk.out (Ext.drewN wr 1)) hE5)
        have HO5 := hid hO5.sl
        obtain ⟨A5, c5, rfl, _, _⟩ := SlSS.slice hO5.sl
        clear hO5 hE5 HAL x0 x1 x2 x3 x4 d0
        by_cases hA0 : A.length = 0
        · have hAe : A = [] := List.length_eq_zero_iff.1 hA0
          have hki : ((k : Int) == ki) = false := by
            rw [beq_eq_false_iff_ne]; intro e; exact (HKE.out e).1 hAe
          clear hA0 h5 HKE
          subst hAe
          simp only [List.length_nil]
          go_wp2
          go_roundw
          case rel => exact ⟨k + 1, by omega, by go_num, HE5⟩
          case measure => simp [intOf]; omega
        · have hlA : ((A.length : Int) == 0) = false := by simpa using hA0
          have hlA3 : 0 < A.length := Nat.pos_of_ne_zero hA0
          have hlA2 : (0 : Int) < A.length := Int.natCast_pos.2 hlA3
          obtain ⟨s, e', ha, _, _⟩ := AlGood.at_ HGD.out 0 hlA3
          have hfs : fst_ A = s := by
            unfold fst_
            cases A with
            | nil => exact absurd rfl hA0
            | cons a l => simp only [List.getElem_cons_zero] at ha; rw [ha]; rfl
          have hne : A ≠ [] := fun h => hA0 (by rw [h]; rfl)
          have hms := h5 hne
          rw [hfs] at hms
          have HKI := hid (fun e => (HKE.out e).2.symm.trans hfs)
          obtain ⟨zs, hzs, ⟨_, _, A6, c6, he6, _, _, hcell6⟩, hin6⟩ := SlSS.opn HO5.out
          simp only [Value.slice.injEq, true_and] at he6
          obtain ⟨rfl, rfl⟩ := he6
          obtain ⟨b6, o6, rfl, _, hb6, hcl6⟩ := hcell6 hlA3
          have hb6w : b6 < w5.heap.size := hb6
          obtain ⟨A7, c7, d7, hs7⟩ := SS.at_ hzs hin6 hcl6 (Below.refl _ _) hb6w 0 hlA3
          rw [ha] at d7 hs7
          obtain ⟨_, _, A8, c8, he8, _, _, hc8⟩ := hs7
          simp only [Value.slice.injEq, true_and] at he8
          obtain ⟨rfl, rfl⟩ := he8
          obtain ⟨b8, o8, rfl, _, _, hc9⟩ := hc8 (by simp)
          have i0 : w5.cell? ⟨b8, o8, none⟩ = some (.int .i64 s) := cellsI (xs := [(s : Int), (e' : Int)]) hc9 0 (by simp)
          simp only [List.length_cons, List.length_nil, Nat.add_zero] at d7
          have hsm' : ¬ (s : Int) < mi := Int.not_lt.2 hms
          have hsm : decide ((s : Int) < mi) = false := decide_eq_false hsm'
          clear hcell6 hin6 hcl6 hc8 hc9 ha hfs hne h5 hA0 hzs hms
          by_cases hke : (k : Int) = ki
          · have hki : ((k : Int) == ki) = true := by simp [hke]
            have hmi : ((s : Int) != mi) = false := by simp [HKI.out hke]
            clear hke
            go_wp2
            go_roundw
            case rel => exact ⟨k + 1, by omega, by go_num, HE5⟩
            case measure => simp [intOf]; omega
          · have hki : ((k : Int) == ki) = false := by simpa using hke
            clear hke
            go_wp2
            go_roundw
            case rel => exact ⟨k + 1, by omega, by go_num, HE5⟩
            case measure => simp [intOf]; omega
    · obtain rfl : k = xs.length := by omega
      go_wp2
      go_ret
      exact ⟨rfl, Ext.tr HE4.out HEk.out⟩
end Go.Proofs.Ytopjccbjdcoanaa
