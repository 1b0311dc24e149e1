/- The walk of the law FnMonitors: it returns true; nothing that was there has turned. -/
import Derived.Test.YtopjccbjdcoanaaMonA
import Derived.Test.YtopjccbjdcoanaaVoteI
import Derived.Test.YtopjccbjdcoanaaMedianI
import Derived.Deep.Cut
import Derived.Deep.CutRange
namespace Go.Proofs.Ytopjccbjdcoanaa
set_option linter.unusedVariables false
open Go.RowKit
set_option maxRecDepth 100000 in
set_option maxHeartbeats 8000000 in
theorem lawMonitors (w : World) (code more : List Int) (v0 v1 : Value) (hv0 : Sl 0 w.heap.size w 1 v0 code.length (flat encB code)) (hb0 : ∀ b ∈ code, 0 ≤ b ∧ b ≤ 255) (hv1 : Sl 0 w.heap.size w 1 v1 more.length (flat encB more)) (hb1 : ∀ b ∈ more, 0 ≤ b ∧ b ≤ 255) :
    Calls Try.prog 9 #[v0, v1] w fun e w' => e = .returned (.bool true) ∧ Ext w w' := by
  have HV0 := hid hv0
  have HV1 := hid hv1
  have HB0 := hid hb0
  have HB1 := hid hb1
  clear hv0 hv1 hb0 hb1
  cases h0 : decide (1048576 < code.length)
  case true =>
    go_enter Try.func9, Try.ntmps9
    go_wp2_with (go_at_call 10; refine (cv (b10Long code _ _ _ _ HV0.out) (vb h0)).mono ?_; rintro e w' ⟨rfl, rfl⟩)
    go_ret
    exact ⟨rfl, Below.refl _ _⟩
  cases h1 : decide (1048576 < more.length)
  case true =>
    go_enter Try.func9, Try.ntmps9
    go_wp2_with fail
    refine (cv (b10Long code _ _ _ _ HV0.out) (vb h0)).mono ?_
    rintro e w' ⟨rfl, rfl⟩
    go_wp2_with fail
    refine (cv (b10Long more _ _ _ _ HV1.out) (vb h1)).mono ?_
    rintro e w' ⟨rfl, rfl⟩
    go_wp2
    go_ret
    exact ⟨rfl, Below.refl _ _⟩
  go_enter Try.func9, Try.ntmps9
  go_wp2_with fail
  refine (cv (b10Long code _ _ _ _ HV0.out) (vb h0)).mono ?_
  rintro e w' ⟨rfl, rfl⟩
  go_wp2_with fail
  refine (cv (b10Long more _ _ _ _ HV1.out) (vb h1)).mono ?_
  rintro e w' ⟨rfl, rfl⟩
  go_wp2_with fail
  refine (drawAlarmsOf code _ _ v0 w HV0.out HB0.out).mono ?_
  rintro e w1 ⟨⟨vs, xs, x, rfl, hxi, hxl, hO⟩, hE1⟩
  have HE1 := hid hE1
  have HX := hid (Sl.of_own hO (by unfold maxLen; omega))
  obtain ⟨As, cs, rfl⟩ := own_slice0 hO
  clear hO hE1
  unfold sAgg
  go_wp2_with fail
  generalize hwb : w1.alloc _ = wb
  have HL := hid (show Blk wb w1.heap.size 40 #[.string x.id, .int .i64 x.junction, .int .i64 x.limit, .int .i64 x.delay, .int .i64 x.release] by rw [← hwb]; exact Blk.new _ _ _)
  have HEb := hid (show Ext w1 wb by rw [← hwb]; exact Ext.new _ _)
  have HXb := hid (HX.out.ext HEb.out)
  clear hwb
  generalize hLe : w1.heap.size = L at *
  refine (implAlarmsOf x xs _ _ _ wb (by unfold maxLen; omega) HXb.out (by omega)).mono ?_
  rintro e w2 ⟨⟨va, rfl, hOA⟩, hE2⟩
  have HXc := hid (HXb.out.ext hE2)
  have HLc := hid (HL.out.ext hE2)
  have HE2 := hid (Ext.tr (Ext.tr HE1.out HEb.out) hE2)
  have HOA := hid hOA
  clear hOA hE2 HX HXb HL HEb HE1
  go_upto_if 51 with fail
  have hL2 := HLc.out.lt
  refine monA x xs As cs L _ _ _ _ va w2 hxi hxl HXc (by omega) HLc HOA _ _ _ _ _ _ _ _ _ _ _ _ _ _ _ _ _ _ _ _ _ _ _ _ _ _ _ _ _ _ _ _ _ _ _ _ _ _ _ _ _ _ _ _ _ _ _ _ _ _ _ _ _ _ _ _ _ _ _ _ _ _ _ _ _ _ _ _ _ _ _ _ _ _ _ _ _ _ _ _ _ _ _ _ _ _ _ _ _ _ _ _ _ _ _ _ _ _ _ _ _ _ _ _ _ _ _ _ _ _ _ _ _ _ _ _ _ _ _ _ _ _ _ _ _ _ _ _ _ _ _ _ _ _ _ _ _ _ _ _ _ _ _ _ _ _ _ _ _ _ _ _ _ _ _ _ _ _ _ _ _ _ _ _ _ _ _ _ _ _ _ _ _ _ _ _ _ _ _ _ _ _ _ _ _ _ _ _ _ _ _ _ _ _ _ _ _ _ _ _ _ _ _ _ _ _ _ _ _ _ _ _ _ _ _ _ _ _ _ _ _ _ _ _ _ _ _ _ _ _ _ _ _ _ _ _ _ _ _ _ _ _ _ _ _ _ _ _ _ _ _ _ _ _ _ _ _ _ _ ?_
  intro y4 y9 y10 y11 y12 y13 y14 y15 y16 y17 y18 y51 y52 y53 y54 y55 y56 y57 y58 y59 y60 y61 y62 y63 y64 y65 y66 y67 y68 y69 y70 y71 y72 y73 y74 y75 y76 y77 y78 y79 y80 y81 y82 y83 y84 y85 y86 y87 y88 y89 y90 y91 y92 y93 y94 y95 y96 y97 y98 y99 y100 y101 y102 y103 y104 y105 y106 y107 y108 y109 y110 y111 y112 y113 y114 y115 y116 y117 y118 y119 y120 y121 y122 y123 y124 y125 y126 y127 y128 y129 y130 y131 y132 y133 y134 y135 y136 y137 y138 y139 y140 y141 y142 y143 y144 y145 y146 y147 y148 y149 y150 y151 y152 y153 y154 y155 y156 y157 y158 y159 y160 y161 y162 y163 y164 y165 y166 y167 y168 y169 y170 y171 y172 y173 y174 y175 y176 y177 y178 y179 y180 y181 y182 y183 y184 y185 y186 y187 y188 wc hEc
  have HEc := hid (Ext.tr HE2.out hEc)
  clear hEc HLc HXc HOA HE2 hxi hxl hLe
  go_wp2_with fail
  refine (drawMedianOf more _ _ v1 wc (HV1.out.ext HEc.out) HB1.out).mono ?_
  rintro e w3 ⟨⟨vl, ns, wd, rfl, hnl, hO⟩, hE3⟩
  have HNS := hid (Sl.of_own hO (by unfold maxLen; omega))
  have HE3 := hid (Ext.tr HEc.out hE3)
  obtain ⟨An, cn, rfl⟩ := own_slice0 hO
  clear hO hE3
  go_wp2_with fail
  refine (implMedianOf ns wd _ _ _ w3 HNS.out (by omega)).mono ?_
  rintro e w4 ⟨⟨vm, rfl, hO⟩, hE4⟩
  have HM := hid hO
  have HNS4 := hid (HNS.out.ext hE4)
  have HE4 := hid (Ext.tr HE3.out hE4)
  clear hO hE4 HNS HE3 HEc
  go_upto_if 201 with fail
  go_cut [] from 19 (fun W => Hid (Ext w W))
  case first =>
    by_cases hc : (medR ns wd).2 = 0
    case neg =>
      have hcb : ((medR ns wd).2 == 0) = false := by simpa using hc
      clear hc
      go_wp2
      go_meet
      exact HE4
    have hcb : ((medR ns wd).2 == 0) = true := by simpa using hc
    have hmb : medB ns wd = true := by
      cases h2 : medB ns wd
      · rw [medR_no h2] at hc; cases hc
      · rfl
    have hm1 := medR_one hmb
    have hmy := medR_yes hmb
    have HM2 := hid (show Own w3.heap.size w4.heap.size w4 2 1 vm ns.length (flat encI (meds ns (wd / 2).toNat ns.length)) by have h := HM.out; rw [hmy, meds_len] at h; exact h)
    have HMM := hid (fun (k : Nat) (hk : k < (meds ns (wd / 2).toNat ns.length).length) => med_mem (ns := ns) (h := (wd / 2).toNat) k hk)
    have hml := meds_len ns (wd / 2).toNat ns.length
    generalize meds ns (wd / 2).toNat ns.length = ms at *
    have HC1 := hid (implMedianOf ns 1 _ _ _ w4 HNS4.out (by omega))
    rw [hm1] at HC1
    obtain ⟨Am, cm, rfl⟩ := own_slice0 HM2.out.row
    clear hc hmb hm1 hmy HM
    go_wp2_with fail
    refine HC1.out.mono ?_
    rintro e w5 ⟨⟨vs1, rfl, hO5⟩, hE5⟩
    have HS5 := hid hO5.sl
    have HN5 := hid (HNS4.out.ext hE5)
    have HM5 := hid (HM2.out.sl.ext hE5)
    have HE5 := hid (Ext.tr HE4.out hE5)
    clear hcb
    rename ((medR ns wd).2 == 0) = true => hq
    clear hq
    clear hO5 hE5 HC1 HNS4 HM2 HE4
    go_wp2_with fail
    refine (b10Nums ns _ _ _ _ _ _ w5 HS5.out HN5.out (by omega)).mono ?_
    rintro e w6 ⟨rfl, hE6⟩
    have HN6 := hid (HN5.out.ext hE6)
    have HM6 := hid (HM5.out.ext hE6)
    have HE6 := hid (Ext.tr HE5.out hE6)
    clear hE6 HN5 HM5 HE5 HS5
    go_wp2
    go_loopw [25] (fun q W => ∃ k : Nat, q = .int .i64 k ∧ k ≤ ns.length ∧ W = w6) (fun q _ => ns.length - (intOf q).toNat)
    case atStart => exact ⟨0, rfl, Nat.zero_le _, rfl⟩
    case round =>
      obtain ⟨k, rfl, hk, rfl⟩ := hrel
      by_cases hlt : k < ns.length
      · have hkm : k < ms.length := by omega
        obtain ⟨_, _, A', c', he, _, _, hc⟩ := HM6.out
        simp only [Value.slice.injEq, true_and] at he
        obtain ⟨rfl, rfl⟩ := he
        obtain ⟨bm, om, rfl, _, _, hcc⟩ := hc (by omega)
        have c0 := cellsI hcc k hkm
        have hmem := HMM.out k hkm
        clear hc hcc
        go_wp2_with (go_at_call 43; refine (b10Has ns _ hmem _ _ _ _ HN6.out (by omega)).mono ?_; rintro e w7 ⟨rfl, rfl⟩)
        go_roundw
        case rel => exact ⟨k + 1, by go_num, by omega, trivial⟩
        case measure => simp [intOf]; omega
      · obtain rfl : k = ns.length := by omega
        go_wp2
        go_meet
        exact HE6
  case rest =>
    have HEd := hid hcut.out
    clear hcut HM HNS4 HE4 hnl
    go_wp2_with fail
    refine (drawVoteOf more _ _ v1 wc (HV1.out.ext HEd.out) HB1.out).mono ?_
    rintro e w5 ⟨⟨va', vb', vc', la, lb, lc, rfl, ⟨ha, hb, hc⟩, hsa, hsb, hsc⟩, hE5⟩
    have HE5 := hid (Ext.tr HEd.out hE5)
    have HSA := hid hsa
    have HSB := hid hsb
    have HSC := hid hsc
    clear hsa hsb hsc hE5 HEd
    go_wp2_with fail
    refine (implVoteOf la lb lc _ _ _ _ _ _ _ _ _ w5 HSA.out (by omega) HSB.out (by omega) HSC.out (by omega)).mono ?_
    rintro e w6 ⟨⟨vv, rfl, hO6⟩, hE6⟩
    have HC2 := hid (implVoteOf lc la lb _ _ _ _ _ _ _ _ _ w6 (HSC.out.ext hE6) (by omega) (HSA.out.ext hE6) (by omega) (HSB.out.ext hE6) (by omega))
    rw [vote_rot la lb lc] at HC2
    have HE6 := hid (Ext.tr HE5.out hE6)
    have HO6 := hid hO6
    clear hO6 hE6 HE5
    go_wp2_with fail
    refine HC2.out.mono ?_
    rintro e w7 ⟨⟨vv2, rfl, hO7⟩, hE7⟩
    have HV6 := hid (HO6.out.sl.ext hE7)
    have HV7 := hid hO7.sl
    have hvl := hO7.2.1
    have HE7 := hid (Ext.tr HE6.out hE7)
    clear hO7 hE7 HO6 HE6 HC2
    have hvl2 : (voteR la lb lc).1.length ≤ 1048576 := by
      unfold voteR
      split
      · rw [votes_len]; omega
      · simp
    go_wp2_with (go_at_call 42; refine (b10Nums _ _ _ _ _ _ _ w7 HV6.out HV7.out hvl2).mono ?_; rintro e w8 ⟨rfl, hE8⟩)
    go_ret
    exact ⟨rfl, Ext.tr HE7.out hE8⟩
end Go.Proofs.Ytopjccbjdcoanaa
