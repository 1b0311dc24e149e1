/- The first part of the walk of the law FnSensors: what it asks of the fewest sensors holds. -/
import Derived.Test.YtopjccbjdcoanaaDetT
import Derived.Test.YtopjccbjdcoanaaXSS
import Derived.Test.YtopjccbjdcoanaaAppR
import Derived.Test.YtopjccbjdcoanaaMonP
import Derived.Deep.Cut
import Derived.Deep.CutRange
namespace Go.Proofs.Ytopjccbjdcoanaa
set_option linter.unusedVariables false
open Go.RowKit
def findIfS (n : Nat) : Code → Option Code
  | .cond (.tmp m) a b => cond (Nat.beq m n) (some (.cond (.tmp m) a b)) (match findIfS n a with
    | some c => some c
    | none => findIfS n b)
  | .seq a b => match findIfS n a with
    | some c => some c
    | none => findIfS n b
  | .block _ c => findIfS n c
  | .scope c => findIfS n c
  | .loop c => findIfS n c
  | _ => none
noncomputable def if48 : Code := ((Try.f3.body.bind (findIfS 48)).getD .skip)
def okT (lim : Int) (less t : List Int) : Bool := decide (0 ≤ det t less ∧ det t less ≤ lim)
theorem right_all (ts : List (List Int)) (lim : Int) (less : List Int) : rightB ts lim less = ts.all (okT lim less) := rfl
theorem all_take {ts : List (List Int)} {p : List Int → Bool} {q : Nat} (h : q < ts.length) : (ts.take (q + 1)).all p = ((ts.take q).all p && p ts[q]) := by
  rw [List.take_succ_eq_append_getElem h, List.all_append]; simp
set_option maxRecDepth 1000000 in
set_option maxHeartbeats 8000000 in
theorem sensA (ts : List (List Int)) (lim bud : Int) (At : Option Addr) (ct lo hi lo2 hi2 : Nat) (vs : Value) (w2 : World) (htl : ts.length ≤ 16) (HT : Hid (SlSS lo hi w2 (.slice At ts.length ct) ts)) (hhi2 : hi ≤ w2.heap.size)
    (HO : Hid (Sl lo2 hi2 w2 1 vs (fewR ts lim bud).1.length (flat encI (fewR ts lim bud).1))) (Q : Exit → Act → World → Prop) (c0 c1 c2 c3 c4 c7 c10 c11 c12 c13 c14 c15 c16 c17 c18 c19 c20 c21 c22 c23 c24 c25 c26 c27 c28 c29 c30 c31 c32 c33 c34 c35 c36 c37 c38 c39 c40 c41 c42 c43 c44 c45 c46 c47 c49 c50 c51 c52 c53 c54 c55 c56 c57 c58 c59 c60 c61 c62 c63 c64 c65 c66 c67 c68 c69 c70 c71 c72 c73 c74 c75 c76 c77 c78 c79 c80 c81 c82 c83 c84 c85 c86 c87 c88 c89 c90 c91 c92 c93 c94 c95 c96 c97 c98 c99 c100 c101 c102 c103 c104 c105 c106 c107 c108 c109 c110 c111 c112 c113 c114 c115 c116 c117 c118 c119 c120 c121 c122 c123 c124 c125 c126 c127 c128 c129 c130 c131 c132 c133 c134 c135 c136 c137 c138 c139 c140 c141 c142 c143 c144 c145 c146 c147 c148 c149 c150 c151 c152 c153 c154 c155 c156 c157 c158 c159 c160 c161 c162 c163 c164 c165 c166 c167 c168 c169 c170 c171 c172 c173 c174 c175 c176 c177 c178 c179 c180 c181 c182 c183 c184 c185 c186 c187 c188 c189 c190 c191 c192 c193 c194 c195 c196 c197 c198 c199 c200 c201 c202 c203 c204 c205 c206 c207 : Value)
    (hK : ∀ (y4 y10 y11 y12 y13 y14 y15 y16 y17 y18 y19 y48 y49 y50 y51 y52 y53 y54 y55 y56 y57 y58 y59 y60 y61 y62 y63 y64 y65 y66 y67 y68 y69 y70 y71 y72 y73 y74 y75 y76 y77 y78 y79 y80 y81 y82 y83 y84 y85 y86 y87 y88 y89 y90 y91 y92 y93 y94 y95 y96 y97 y98 y99 y100 y101 y102 y103 y104 y105 y106 y107 y108 y109 y110 y111 y112 y113 y114 y115 y116 y117 y118 y119 : Value) (W : World), Ext w2 W → Q .normal ⟨#[c0, c1, c2, c3, y4, .slice At ts.length ct, .int .i64 lim, c7, vs, .int .i64 (fewR ts lim bud).2, y10, y11, y12, y13, y14, y15, y16, y17, y18, y19, c20, c21, c22, c23, c24, c25, c26, c27, c28, c29, c30, c31, c32, c33, c34, c35, c36, c37, c38, c39, c40, c41, c42, c43, c44, c45, c46, c47, y48, y49, y50, y51, y52, y53, y54, y55, y56, y57, y58, y59, y60, y61, y62, y63, y64, y65, y66, y67, y68, y69, y70, y71, y72, y73, y74, y75, y76, y77, y78, y79, y80, y81, y82, y83, y84, y85, y86, y87, y88, y89, y90, y91, y92, y93, y94, y95, y96, y97, y98, y99, y100, y101, y102, y103, y104, y105, y106, y107, y108, y109, y110, y111, y112, y113, y114, y115, y116, y117, y118, y119, c120, c121, c122, c123, c124, c125, c126, c127, c128, c129, c130, c131, c132, c133, c134, c135, c136, c137, c138, c139, c140, c141, c142, c143, c144, c145, c146, c147, c148, c149, c150, c151, c152, c153, c154, c155, c156, c157, c158, c159, c160, c161, c162, c163, c164, c165, c166, c167, c168, c169, c170, c171, c172, c173, c174, c175, c176, c177, c178, c179, c180, c181, c182, c183, c184, c185, c186, c187, c188, c189, c190, c191, c192, c193, c194, c195, c196, c197, c198, c199, c200, c201, c202, c203, c204, c205, c206, c207], []⟩ W) :
    Code.wp Try.prog if48 Q ⟨#[c0, c1, c2, c3, c4, .slice At ts.length ct, .int .i64 lim, c7, vs, .int .i64 (fewR ts lim bud).2, c10, c11, c12, c13, c14, c15, c16, c17, c18, c19, c20, c21, c22, c23, c24, c25, c26, c27, c28, c29, c30, c31, c32, c33, c34, c35, c36, c37, c38, c39, c40, c41, c42, c43, c44, c45, c46, c47, .bool ((fewR ts lim bud).2 == 0), c49, c50, c51, c52, c53, c54, c55, c56, c57, c58, c59, c60, c61, c62, c63, c64, c65, c66, c67, c68, c69, c70, c71, c72, c73, c74, c75, c76, c77, c78, c79, c80, c81, c82, c83, c84, c85, c86, c87, c88, c89, c90, c91, c92, c93, c94, c95, c96, c97, c98, c99, c100, c101, c102, c103, c104, c105, c106, c107, c108, c109, c110, c111, c112, c113, c114, c115, c116, c117, c118, c119, c120, c121, c122, c123, c124, c125, c126, c127, c128, c129, c130, c131, c132, c133, c134, c135, c136, c137, c138, c139, c140, c141, c142, c143, c144, c145, c146, c147, c148, c149, c150, c151, c152, c153, c154, c155, c156, c157, c158, c159, c160, c161, c162, c163, c164, c165, c166, c167, c168, c169, c170, c171, c172, c173, c174, c175, c176, c177, c178, c179, c180, c181, c182, c183, c184, c185, c186, c187, c188, c189, c190, c191, c192, c193, c194, c195, c196, c197, c198, c199, c200, c201, c202, c203, c204, c205, c206, c207], []⟩ w2 := by
  have HK := hid hK
  clear hK
  conv => arg 2; whnf
  by_cases hc : (fewR ts lim bud).2 = 0
  case neg =>
    have hcb : ((fewR ts lim bud).2 == 0) = false := by simpa using hc
    clear hc
    go_wp2
    exact HK.out _ _ _ _ _ _ _ _ _ _ _ _ _ _ _ _ _ _ _ _ _ _ _ _ _ _ _ _ _ _ _ _ _ _ _ _ _ _ _ _ _ _ _ _ _ _ _ _ _ _ _ _ _ _ _ _ _ _ _ _ _ _ _ _ _ _ _ _ _ _ _ _ _ _ _ _ _ _ _ _ _ _ _ _ (Below.refl _ _)
  have hcb : ((fewR ts lim bud).2 == 0) = true := by simpa using hc
  obtain ⟨hok, hris, hright, _⟩ := fewR_hit hc
  have HLess := hid (fun k hk => fewR_less hc k hk)
  have hrows : rowsB ts = true := by unfold fewOk at hok; simp only [Bool.and_eq_true] at hok; exact hok.2
  have HRW := hid (fun k (hk : k < ts.length) => rows_at hrows k hk)
  have hh16 := head_le hrows
  have HR : Hid (∀ k (hk : k < ts.length), 0 ≤ det ts[k] (fewR ts lim bud).1 ∧ det ts[k] (fewR ts lim bud).1 ≤ lim) := hid (fun k hk => by
    unfold rightB at hright
    rw [List.all_eq_true] at hright
    have := hright ts[k] (List.getElem_mem _)
    simpa using this)
  have HRIS := hid hris
  clear hc hok hris hright hrows
  generalize (fewR ts lim bud).1 = S at *
  have hSl := HRIS.out.len0
  obtain ⟨_, _, As, cs, rfl, _, _, hscell⟩ := id HO.out
  obtain ⟨ys, hys, ⟨hhi, _, A0, c0', he, hnc, hcm, hcell⟩, hin⟩ := SlSS.opn HT.out
  simp only [Value.slice.injEq, true_and] at he
  obtain ⟨rfl, rfl⟩ := he
  have HY := hid hys
  have HN := hid hin
  have HSC := hid hscell
  have HOB := hid HO.out
  have hho := HO.out.1
  clear hys hin HT HO hscell
  go_wp2
  clear hcb
  rename ((fewR ts lim bud).2 == 0) = true => hq
  clear hq
  go_loopw [10] (fun i W => ∃ k : Nat, k ≤ ts.length ∧ i = .int .i64 k ∧ Hid (Ext w2 W)) (fun i _ => ts.length - (intOf i).toNat)
  case atStart => exact ⟨0, Nat.zero_le _, rfl, hid (Below.refl _ _)⟩
  case round =>
    obtain ⟨k, hk, rfl, HEk⟩ := hrel
    by_cases hlt : k < ts.length
    · obtain ⟨b, off, rfl, _, hb2', hcl⟩ := hcell (by omega)
      have hbw : b < w2.heap.size := by omega
      obtain ⟨Ai, ci, d0, hsi⟩ := SS.at_ HY.out HN.out hcl HEk.out hbw k hlt
      obtain ⟨hr1, hr2⟩ := HRW.out k hlt
      have hd := HR.out k hlt
      have HD := hid (implDetect ts[k] S _ _ _ _ _ _ wr hsi (HOB.out.ext HEk.out) hr1 (by omega) (by rw [hr2]; exact HRIS.out) hd.1)
      have hd2 := hd.2
      clear hcl hsi hr1 hr2 hd
      generalize det ts[k] S = dk at *
      have hg : decide (lim < dk) = false := by simp; omega
      have hg' : ¬ lim < dk := by omega
      go_wp2_with (go_at_call 13; refine HD.out.mono ?_; rintro e w3 ⟨rfl, hE3⟩)
      go_roundw
      case rel => exact ⟨k + 1, by omega, by go_num, hid (Ext.tr HEk.out hE3)⟩
      case measure => simp [intOf]; omega
    · obtain rfl : k = ts.length := by omega
      go_wp2
      go_loopw [13] (fun i W => ∃ k : Nat, k ≤ S.length ∧ i = .int .i64 k ∧ Hid (Ext w2 W)) (fun i _ => S.length - (intOf i).toNat)
      case atStart => exact ⟨0, Nat.zero_le _, rfl, HEk⟩
      case round =>
        clear HEk
        obtain ⟨k, hk2, rfl, HEk⟩ := hrel
        by_cases hlt : k < S.length
        · go_wp2
          go_loopw [14, 15] (fun u i W => ∃ q : Nat, q ≤ S.length ∧ i = .int .i64 q ∧ Hid (W.ownsRow wr.heap.size 2 1 u ((S.take q).eraseIdx k).length (flat encI ((S.take q).eraseIdx k))) ∧ Hid (Ext wr W)) (fun _ i _ => S.length - (intOf i).toNat)
          case atStart => exact ⟨0, Nat.zero_le _, rfl, hid (by have h := own_empty wr wr.heap.size 2 1 (Nat.le_refl _); simp only [List.take_zero, List.eraseIdx_nil]; exact h), hid (Ext.new _ _)⟩
          case round =>
            obtain ⟨q, hq, rfl, HOq, HEq⟩ := hrel
            have hz := HEq.out.size
            by_cases hql : q < S.length
            · have her := erase_take hql hlt
              have hll : ((S.take q).eraseIdx k).length ≤ q := by
                have := List.length_eraseIdx_le (l := S.take q) (i := k)
                rw [List.length_take] at this; omega
              by_cases hqk : q = k
              · have hqb : ((q : Int) != k) = false := by simp [hqk]
                rw [if_pos hqk] at her
                have HOn := hid (show wr.ownsRow _ 2 1 u14 ((S.take (q + 1)).eraseIdx k).length (flat encI ((S.take (q + 1)).eraseIdx k)) by rw [her]; exact HOq.out)
                clear hqk her
                go_wp2
                go_roundw
                case rel => exact ⟨q + 1, by omega, by go_num, HOn, HEq⟩
                case measure => simp [intOf]; omega
              · have hqb : ((q : Int) != k) = true := by simp; omega
                rw [if_neg hqk] at her
                obtain ⟨b, off, rfl, _, hb2', hcl⟩ := HSC.out (by omega)
                have hbw : b < w2.heap.size := by omega
                have c0 := ((Ext.tr HEk.out HEq.out).cell (p := ⟨b, off + q, none⟩) hbw).trans (cellsI hcl q hql)
                clear hqk hcl
                go_wp2_with (at_builtin; refine wp_append1 wr rfl (.tmp 87) (.tmp 92) _ rfl _ 2 1 8 _ Try.underlying27 infoInt rfl (by omega) (by omega) _ _ _ HOq.out rfl [.int .i64 S[q]] rfl (by simp [Value.oneCell']) _ rfl rfl (by omega) hz ?_; intro v' w' ho' hb')
                go_roundw
                case rel => exact ⟨q + 1, by omega, by go_num, hid (by rw [her, flat_snoc, List.length_append]; exact ho'), hid (Below.trans HEq.out hb')⟩
                case measure => simp [intOf]; omega
            · obtain rfl : q = S.length := by omega
              rw [List.take_length] at HOq
              have HLS := hid (Sl.of_own HOq.out (by unfold maxLen; have := List.length_eraseIdx_le (l := S) (i := k); omega))
              have hRless := HRIS.out.erase k
              have hright := HLess.out k hlt
              rw [right_all] at hright
              have HRL := hid hright
              clear HOq hright
              generalize hle : S.eraseIdx k = less at *
              have hEE := Ext.tr HEk.out HEq.out
              have HE5 := hid hEE
              obtain ⟨Al, cl, hAl⟩ : ∃ A c, u14 = .slice A less.length c := by
                obtain ⟨_, _, A, c, h, _⟩ := HLS.out
                exact ⟨A, c, h⟩
              subst hAl
              clear hEE hle
              go_wp2
              go_loopw [16, 17] (fun o i W => ∃ (q : Nat) (ob : Bool), q ≤ ts.length ∧ i = .int .i64 q ∧ o = .bool ob ∧ Hid (ob = (ts.take q).all (okT lim less)) ∧ Hid (Ext wr W)) (fun _ i _ => ts.length - (intOf i).toNat)
              case atStart => exact ⟨0, true, Nat.zero_le _, rfl, rfl, hid rfl, hid (Below.refl _ _)⟩
              case round =>
                obtain ⟨q, ob, hq, rfl, rfl, HOb, HE6⟩ := hrel
                have HE7 := hid (Ext.tr HE5.out HE6.out)
                by_cases hqt : q < ts.length
                · have hst := all_take (p := okT lim less) hqt
                  rw [← HOb.out] at hst
                  obtain ⟨b, off, rfl, _, hb2', hcl⟩ := hcell (by omega)
                  have hbw : b < w2.heap.size := by omega
                  obtain ⟨Ai, ci, d0, hsi⟩ := SS.at_ HY.out HN.out hcl HE7.out hbw q hqt
                  obtain ⟨hr1, hr2⟩ := HRW.out q hqt
                  have HD := hid (specDetect ts[q] less _ _ _ _ _ _ wr hsi (HLS.out.ext HE6.out) hr1 (by omega) (by rw [hr2]; exact hRless))
                  unfold okT at hst
                  clear hcl hsi hr1 hr2
                  by_cases hdn : det ts[q] less < 0
                  · have HDR := hid (show detR ts[q] less = (0, 3) from if_pos hdn)
                    rw [HDR.out] at HD
                    have HN2 := hid (show false = (ts.take (q + 1)).all (okT lim less) by
                      refine Eq.trans ?_ hst.symm
                      rw [decide_eq_false (by omega), Bool.and_false])
                    clear hst hdn HDR
                    cases ob
                    all_goals
                      go_wp2_with (go_at_call 14; refine HD.out.mono ?_; rintro e w8 ⟨rfl, hE8⟩)
                      go_roundw
                      case rel => exact ⟨q + 1, false, by omega, by go_num, rfl, HN2, hid (Ext.tr HE6.out hE8)⟩
                      case measure => simp [intOf]; omega
                  · have HDR := hid (show detR ts[q] less = (det ts[q] less, 0) from if_neg hdn)
                    rw [HDR.out] at HD
                    have HN2 := hid (show (ob && decide (det ts[q] less ≤ lim)) = (ts.take (q + 1)).all (okT lim less) by
                      refine Eq.trans ?_ hst.symm
                      congr 1
                      rw [decide_eq_decide]; omega)
                    clear hst hdn HDR
                    generalize det ts[q] less = dq at *
                    by_cases hdl : dq ≤ lim
                    · have hdb : decide (dq ≤ lim) = true := by simpa using hdl
                      rw [hdb] at HN2
                      cases ob
                      all_goals
                        go_wp2_with (go_at_call 14; refine HD.out.mono ?_; rintro e w8 ⟨rfl, hE8⟩)
                        go_roundw
                        case rel => exact ⟨q + 1, _, by omega, by go_num, rfl, HN2, hid (Ext.tr HE6.out hE8)⟩
                        case measure => simp [intOf]; omega
                    · have hdb : decide (dq ≤ lim) = false := by simpa using hdl
                      rw [hdb] at HN2
                      cases ob
                      all_goals
                        go_wp2_with (go_at_call 14; refine HD.out.mono ?_; rintro e w8 ⟨rfl, hE8⟩)
                        go_roundw
                        case rel => exact ⟨q + 1, _, by omega, by go_num, rfl, HN2, hid (Ext.tr HE6.out hE8)⟩
                        case measure => simp [intOf]; omega
                · obtain rfl : q = ts.length := by omega
                  have hof : ob = false := by rw [HOb.out, List.take_length]; exact HRL.out
                  subst hof
                  go_wp2
                  go_roundw
                  case rel => exact ⟨k + 1, by omega, by go_num, HE7⟩
                  case measure => simp [intOf]; omega
        · obtain rfl : k = S.length := by omega
          go_wp2
          exact HK.out _ _ _ _ _ _ _ _ _ _ _ _ _ _ _ _ _ _ _ _ _ _ _ _ _ _ _ _ _ _ _ _ _ _ _ _ _ _ _ _ _ _ _ _ _ _ _ _ _ _ _ _ _ _ _ _ _ _ _ _ _ _ _ _ _ _ _ _ _ _ _ _ _ _ _ _ _ _ _ _ _ _ _ _ HEk.out
end Go.Proofs.Ytopjccbjdcoanaa
