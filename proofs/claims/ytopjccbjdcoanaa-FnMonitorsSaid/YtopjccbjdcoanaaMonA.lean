/- The first part of the walk of the law FnMonitors: what it asks of the alarms holds. -/
import Derived.Test.YtopjccbjdcoanaaMonC
import Derived.Test.YtopjccbjdcoanaaDrawF
import Derived.Deep.Cut
import Derived.Deep.CutRange
namespace Go.Proofs.Ytopjccbjdcoanaa
set_option linter.unusedVariables false
open Go.RowKit
theorem drop_good {x : Sensor} {ns : List Int} {last : Int} {A : List (List Int)} {k : Nat} (h : AlGood x ns last (A.drop k)) (hk : k < A.length) : ∃ s e : Nat, A[k] = [(s : Int), (e : Int)] ∧ last ≤ s ∧ Al1 x ns s e ∧ AlGood x ns e (A.drop (k + 1)) := by
  rw [List.drop_eq_getElem_cons hk] at h
  exact h
theorem inAny_take {t : Int} {A : List (List Int)} {k : Nat} {s e : Int} (hk : k < A.length) (he : A[k] = [s, e]) : inAny t (A.take (k + 1)) = (inAny t (A.take k) || (decide (s ≤ t) && decide (t < e))) := by
  unfold inAny
  rw [List.take_succ_eq_append_getElem hk, List.any_append, he]; simp
/-- the 'if' on a slot, as the code has it -/
def findIf (n : Nat) : Code → Option Code
  | .cond (.tmp m) a b => cond (Nat.beq m n) (some (.cond (.tmp m) a b)) (match findIf n a with
    | some c => some c
    | none => findIf n b)
  | .seq a b => match findIf n a with
    | some c => some c
    | none => findIf n b
  | .block _ c => findIf n c
  | .scope c => findIf n c
  | .loop c => findIf n c
  | _ => none
noncomputable def if51 : Code := ((Try.f9.body.bind (findIf 51)).getD .skip)
set_option maxRecDepth 1000000 in
set_option maxHeartbeats 8000000 in
theorem monA (x : Sensor) (xs : List Int) (As : Option Addr) (cs L lo hi lo2 hi2 : Nat) (va : Value) (w2 : World) (hxi : x.id.size ≤ 10) (hxl : xs.length ≤ 201) (HXc : Hid (Sl lo hi w2 1 (.slice As xs.length cs) xs.length (flat encI xs))) (hhi2 : hi ≤ w2.heap.size)
    (HLc : Hid (Blk w2 L 40 #[.string x.id, .int .i64 x.junction, .int .i64 x.limit, .int .i64 x.delay, .int .i64 x.release])) (HOA : Hid (OwnSS lo2 hi2 w2 va (almR x xs).1)) (Q : Exit → Act → World → Prop) (c0 c1 c2 c3 c4 c9 c10 c11 c12 c13 c14 c15 c16 c17 c18 c19 c20 c21 c22 c23 c24 c25 c26 c27 c28 c29 c30 c31 c32 c33 c34 c35 c36 c37 c38 c39 c40 c41 c42 c43 c44 c45 c46 c47 c48 c49 c50 c52 c53 c54 c55 c56 c57 c58 c59 c60 c61 c62 c63 c64 c65 c66 c67 c68 c69 c70 c71 c72 c73 c74 c75 c76 c77 c78 c79 c80 c81 c82 c83 c84 c85 c86 c87 c88 c89 c90 c91 c92 c93 c94 c95 c96 c97 c98 c99 c100 c101 c102 c103 c104 c105 c106 c107 c108 c109 c110 c111 c112 c113 c114 c115 c116 c117 c118 c119 c120 c121 c122 c123 c124 c125 c126 c127 c128 c129 c130 c131 c132 c133 c134 c135 c136 c137 c138 c139 c140 c141 c142 c143 c144 c145 c146 c147 c148 c149 c150 c151 c152 c153 c154 c155 c156 c157 c158 c159 c160 c161 c162 c163 c164 c165 c166 c167 c168 c169 c170 c171 c172 c173 c174 c175 c176 c177 c178 c179 c180 c181 c182 c183 c184 c185 c186 c187 c188 c189 c190 c191 c192 c193 c194 c195 c196 c197 c198 c199 c200 c201 c202 c203 c204 c205 c206 c207 c208 c209 c210 c211 c212 c213 c214 c215 c216 c217 c218 c219 c220 c221 c222 c223 c224 c225 c226 c227 c228 c229 c230 c231 c232 c233 c234 c235 c236 c237 c238 c239 c240 c241 c242 c243 c244 c245 c246 c247 c248 c249 c250 c251 c252 c253 c254 c255 c256 c257 c258 c259 c260 c261 c262 : Value)
    (hK : ∀ (y4 y9 y10 y11 y12 y13 y14 y15 y16 y17 y18 y51 y52 y53 y54 y55 y56 y57 y58 y59 y60 y61 y62 y63 y64 y65 y66 y67 y68 y69 y70 y71 y72 y73 y74 y75 y76 y77 y78 y79 y80 y81 y82 y83 y84 y85 y86 y87 y88 y89 y90 y91 y92 y93 y94 y95 y96 y97 y98 y99 y100 y101 y102 y103 y104 y105 y106 y107 y108 y109 y110 y111 y112 y113 y114 y115 y116 y117 y118 y119 y120 y121 y122 y123 y124 y125 y126 y127 y128 y129 y130 y131 y132 y133 y134 y135 y136 y137 y138 y139 y140 y141 y142 y143 y144 y145 y146 y147 y148 y149 y150 y151 y152 y153 y154 y155 y156 y157 y158 y159 y160 y161 y162 y163 y164 y165 y166 y167 y168 y169 y170 y171 y172 y173 y174 y175 y176 y177 y178 y179 y180 y181 y182 y183 y184 y185 y186 y187 y188 : Value) (W : World), Ext w2 W → Q .normal ⟨#[c0, c1, c2, c3, y4, .pointer (some ⟨L, 0, none⟩), .slice As xs.length cs, va, .int .i64 (almR x xs).2, y9, y10, y11, y12, y13, y14, y15, y16, y17, y18, c19, c20, c21, c22, c23, c24, c25, c26, c27, c28, c29, c30, c31, c32, c33, c34, c35, c36, c37, c38, c39, c40, c41, c42, c43, c44, c45, c46, c47, c48, c49, c50, y51, y52, y53, y54, y55, y56, y57, y58, y59, y60, y61, y62, y63, y64, y65, y66, y67, y68, y69, y70, y71, y72, y73, y74, y75, y76, y77, y78, y79, y80, y81, y82, y83, y84, y85, y86, y87, y88, y89, y90, y91, y92, y93, y94, y95, y96, y97, y98, y99, y100, y101, y102, y103, y104, y105, y106, y107, y108, y109, y110, y111, y112, y113, y114, y115, y116, y117, y118, y119, y120, y121, y122, y123, y124, y125, y126, y127, y128, y129, y130, y131, y132, y133, y134, y135, y136, y137, y138, y139, y140, y141, y142, y143, y144, y145, y146, y147, y148, y149, y150, y151, y152, y153, y154, y155, y156, y157, y158, y159, y160, y161, y162, y163, y164, y165, y166, y167, y168, y169, y170, y171, y172, y173, y174, y175, y176, y177, y178, y179, y180, y181, y182, y183, y184, y185, y186, y187, y188, c189, c190, c191, c192, c193, c194, c195, c196, c197, c198, c199, c200, c201, c202, c203, c204, c205, c206, c207, c208, c209, c210, c211, c212, c213, c214, c215, c216, c217, c218, c219, c220, c221, c222, c223, c224, c225, c226, c227, c228, c229, c230, c231, c232, c233, c234, c235, c236, c237, c238, c239, c240, c241, c242, c243, c244, c245, c246, c247, c248, c249, c250, c251, c252, c253, c254, c255, c256, c257, c258, c259, c260, c261, c262], []⟩ W) :
    Code.wp Try.prog if51 Q ⟨#[c0, c1, c2, c3, c4, .pointer (some ⟨L, 0, none⟩), .slice As xs.length cs, va, .int .i64 (almR x xs).2, c9, c10, c11, c12, c13, c14, c15, c16, c17, c18, c19, c20, c21, c22, c23, c24, c25, c26, c27, c28, c29, c30, c31, c32, c33, c34, c35, c36, c37, c38, c39, c40, c41, c42, c43, c44, c45, c46, c47, c48, c49, c50, .bool ((almR x xs).2 == 0), c52, c53, c54, c55, c56, c57, c58, c59, c60, c61, c62, c63, c64, c65, c66, c67, c68, c69, c70, c71, c72, c73, c74, c75, c76, c77, c78, c79, c80, c81, c82, c83, c84, c85, c86, c87, c88, c89, c90, c91, c92, c93, c94, c95, c96, c97, c98, c99, c100, c101, c102, c103, c104, c105, c106, c107, c108, c109, c110, c111, c112, c113, c114, c115, c116, c117, c118, c119, c120, c121, c122, c123, c124, c125, c126, c127, c128, c129, c130, c131, c132, c133, c134, c135, c136, c137, c138, c139, c140, c141, c142, c143, c144, c145, c146, c147, c148, c149, c150, c151, c152, c153, c154, c155, c156, c157, c158, c159, c160, c161, c162, c163, c164, c165, c166, c167, c168, c169, c170, c171, c172, c173, c174, c175, c176, c177, c178, c179, c180, c181, c182, c183, c184, c185, c186, c187, c188, c189, c190, c191, c192, c193, c194, c195, c196, c197, c198, c199, c200, c201, c202, c203, c204, c205, c206, c207, c208, c209, c210, c211, c212, c213, c214, c215, c216, c217, c218, c219, c220, c221, c222, c223, c224, c225, c226, c227, c228, c229, c230, c231, c232, c233, c234, c235, c236, c237, c238, c239, c240, c241, c242, c243, c244, c245, c246, c247, c248, c249, c250, c251, c252, c253, c254, c255, c256, c257, c258, c259, c260, c261, c262], []⟩ w2 := by
  have HK := hid hK
  clear hK
  conv => arg 2; whnf
  by_cases hc : (almR x xs).2 = 0
  case neg =>
    have hcb : ((almR x xs).2 == 0) = false := by simpa using hc
    clear hc
    go_wp2
    exact HK.out _ _ _ _ _ _ _ _ _ _ _ _ _ _ _ _ _ _ _ _ _ _ _ _ _ _ _ _ _ _ _ _ _ _ _ _ _ _ _ _ _ _ _ _ _ _ _ _ _ _ _ _ _ _ _ _ _ _ _ _ _ _ _ _ _ _ _ _ _ _ _ _ _ _ _ _ _ _ _ _ _ _ _ _ _ _ _ _ _ _ _ _ _ _ _ _ _ _ _ _ _ _ _ _ _ _ _ _ _ _ _ _ _ _ _ _ _ _ _ _ _ _ _ _ _ _ _ _ _ _ _ _ _ _ _ _ _ _ _ _ _ _ _ _ _ _ _ _ _ _ (Below.refl _ _)
  have hcb : ((almR x xs).2 == 0) = true := by simpa using hc
  obtain ⟨hs1, hs2⟩ : sensorB x = true ∧ seriesB xs = true := by
    cases h2 : sensorB x
    · rw [almR_a h2] at hc; cases hc
    cases h3 : seriesB xs
    · rw [almR_b h2 h3] at hc; cases hc
    exact ⟨rfl, rfl⟩
  have HOB := hid (show OwnSS lo2 hi2 w2 va (alarms x xs) by have h := HOA.out; rw [almR_c hs1 hs2] at h; exact h)
  obtain ⟨hx1, hx2, hx3, hx4, hx5, hx6⟩ := sensorB_le hs1
  have hlim : 0 ≤ x.limit ∧ x.limit ≤ 1000000 := by
    have h := hs1
    unfold sensorB inB at h
    simp only [Bool.and_eq_true, decide_eq_true_eq] at h
    omega
  have hdl : 1 ≤ x.delay ∧ x.delay ≤ 60 := by
    have h := hs1
    unfold sensorB inB at h
    simp only [Bool.and_eq_true, decide_eq_true_eq] at h
    omega
  have hrl : 0 ≤ x.release ∧ x.release ≤ x.limit := by
    have h := hs1
    unfold sensorB inB at h
    simp only [Bool.and_eq_true, decide_eq_true_eq] at h
    omega
  obtain ⟨hli1, hli2⟩ := hlim
  obtain ⟨hde1, hde2⟩ := hdl
  obtain ⟨hre1, hre2⟩ := hrl
  have hns := series_len hs2
  have HG := hid (alarms_good x xs (by omega) (by omega))
  have hAb := (alarms_bd x xs (by omega) (by omega)).1
  clear hc HOA hx1 hx2 hx3 hx4 hx5 hx6
  have HI := hid (fun (k : Nat) (hk : k < xs.length) (W : World) (hW : Ext w2 W) => implInAlarm x xs k _ _ (.slice As xs.length cs) W (by unfold maxLen; omega) (HXc.out.ext hW) (by omega) hs1 hs2 hk)
  obtain ⟨ys, hys, ⟨hhi, _, A0, c0, rfl, hnc, hcm, hcell⟩, hin⟩ := SlSS.opn HOB.out.sl
  have HY := hid hys
  have HN := hid hin
  have hlL := HLc.out.lt
  clear hys hin HOB hs1 hs2
  generalize hA : alarms x xs = A at *
  go_wp2
  clear hcb
  rename ((almR x xs).2 == 0) = true => hq
  clear hq
  go_loopw [9, 10] (fun l i W => ∃ (k : Nat) (last : Int), k ≤ A.length ∧ i = .int .i64 k ∧ l = .int .i64 last ∧ Hid (AlGood x xs last (A.drop k)) ∧ Hid (Ext w2 W)) (fun _ i _ => A.length - (intOf i).toNat)
  case atStart => exact ⟨0, 0, Nat.zero_le _, rfl, rfl, by simpa using HG, hid (Below.refl _ _)⟩
  case round =>
    obtain ⟨k, last, hk, rfl, rfl, HGk, HEk⟩ := hrel
    by_cases hlt : k < A.length
    · obtain ⟨s, e', ha, hls, ⟨hse, hel, hds, hhigh, hlow⟩, hrest⟩ := drop_good HGk.out hlt
      have HRest := hid hrest
      have HHigh := hid hhigh
      have HLow := hid hlow
      obtain ⟨b, off, rfl, hb1', hb2', hcl⟩ := hcell (by omega)
      have hbw : b < w2.heap.size := by omega
      obtain ⟨Ai, ci, d0, hsi⟩ := SS.at_ HY.out HN.out hcl HEk.out hbw k hlt
      rw [ha] at d0 hsi
      obtain ⟨_, _, Ai', ci', hei, _, _, hci⟩ := hsi
      simp only [Value.slice.injEq, true_and] at hei
      obtain ⟨rfl, rfl⟩ := hei
      obtain ⟨bi, oi, rfl, _, hbi, hcc⟩ := hci (by simp)
      have i0 : wr.cell? ⟨bi, oi, none⟩ = some (.int .i64 s) := cellsI (xs := [(s : Int), (e' : Int)]) hcc 0 (by simp)
      have i1 : wr.cell? ⟨bi, oi + 1, none⟩ = some (.int .i64 e') := cellsI (xs := [(s : Int), (e' : Int)]) hcc 1 (by simp)
      have x3 : wr.cell? ⟨L, 3, none⟩ = some (.int .i64 x.delay) := (HLc.out.ext HEk.out).cell 3
      have g1 : decide ((s : Int) < last) = false := by simp; omega
      have g2 : decide ((e' : Int) ≤ s) = false := by simp; omega
      have g3 : decide ((xs.length : Int) < e') = false := by simp; omega
      have g4 : decide ((s : Int) + 1 < x.delay) = false := by simp; omega
      have g2n : ¬ e' ≤ s := by omega
      have g3n : ¬ xs.length < e' := by omega
      have hs200 : (s : Int) ≤ 200 := by omega
      have he200 : (e' : Int) ≤ 200 := by omega
      simp only [List.length_cons, List.length_nil] at d0
      obtain ⟨_, _, Ax, cx, hxe, _, _, hxc⟩ := HXc.out
      simp only [Value.slice.injEq, true_and] at hxe
      obtain ⟨rfl, rfl⟩ := hxe
      obtain ⟨bx, ox, rfl, _, hbx, hxcc⟩ := hxc (by omega)
      have hbxw : bx < w2.heap.size := by omega
      have hkz := HEk.out.size
      have HCX := hid (fun (W : World) (hW : Ext wr W) (j : Nat) (hj : j < xs.length) => ((Ext.tr HEk.out hW).cell (p := ⟨bx, ox + j, none⟩) hbxw).trans (cellsI hxcc j hj))
      have HC0 := hid (fun (W : World) (hW : Ext wr W) => (hW.cell (p := ⟨bi, oi, none⟩) (Nat.lt_of_lt_of_le hbi (Nat.le_trans hhi hkz))).trans i0)
      have HC1 := hid (fun (W : World) (hW : Ext wr W) => (hW.cell (p := ⟨bi, oi + 1, none⟩) (Nat.lt_of_lt_of_le hbi (Nat.le_trans hhi hkz))).trans i1)
      clear hcl hcc hci hrest hhigh hlow ha hxcc
      go_wp2_with fail
      go_quiet (fail)
      go_wp2
      clear d0 i0 i1 x3 g1 g2 g3 g4 g2n g3n
      go_loopw [12] (fun q W => ∃ j : Nat, q = .int .i64 j ∧ (j : Int) ≤ x.delay ∧ Hid (Ext wr W)) (fun q _ => (x.delay - intOf q).toNat)
      case atStart => exact ⟨0, rfl, by omega, hid (Ext.drewN _ _)⟩
      case round =>
        obtain ⟨j, rfl, hj, HEj⟩ := hrel
        have x3 : wr.cell? ⟨L, 3, none⟩ = some (.int .i64 x.delay) := (HLc.out.ext (Ext.tr HEk.out HEj.out)).cell 3
        by_cases hjd : (j : Int) < x.delay
        · obtain ⟨m, hm⟩ : ∃ m : Nat, (s : Int) - j = m := ⟨s - j, by omega⟩
          have hml : m < xs.length := by omega
          have hml' : (m : Int) < xs.length := by omega
          have hh := HHigh.out j hjd
          rw [show s - j = m by omega] at hh
          have x2 : wr.cell? ⟨L, 2, none⟩ = some (.int .i64 x.limit) := (HLc.out.ext (Ext.tr HEk.out HEj.out)).cell 2
          have c0 := HCX.out _ HEj.out m hml
          rw [at0_of hml] at c0
          have i0 := HC0.out _ HEj.out
          have g1 : decide (at0 xs m ≤ x.limit) = false := by simp; omega
          have g1' : ¬ at0 xs m ≤ x.limit := by omega
          clear hh
          go_wp2_with fail
          go_quiet (fail)
          go_wp2
          go_roundw
          case rel => exact ⟨j + 1, by go_num, by omega, hid (Ext.tr HEj.out (Ext.drewN _ _))⟩
          case measure => simp [intOf]; omega
        · have hje : (j : Int) = x.delay := by omega
          have i0 := HC0.out _ HEj.out
          clear HHigh
          go_wp2
          clear i0 x3
          go_loopw [13] (fun q W => ∃ t : Nat, q = .int .i64 t ∧ s ≤ t ∧ t ≤ e' ∧ Hid (Ext wr W)) (fun q _ => (e' - intOf q).toNat)
          case atStart => exact ⟨s, rfl, Nat.le_refl _, by omega, hid (Below.refl _ _)⟩
          case round =>
            obtain ⟨t, rfl, hst, hte, HEt⟩ := hrel
            have hEjt := Ext.tr HEj.out HEt.out
            have HEJ := hid hEjt
            have i1 := HC1.out _ hEjt
            clear hEjt
            by_cases htl : t < e'
            · have htl' : (t : Int) < e' := by omega
              have htx : t < xs.length := by omega
              have htx' : (t : Int) < xs.length := by omega
              have c0 := HCX.out _ HEJ.out t htx
              rw [at0_of htx] at c0
              have x4 : wr.cell? ⟨L, 4, none⟩ = some (.int .i64 x.release) := (HLc.out.ext (Ext.tr HEk.out HEJ.out)).cell 4
              rcases HLow.out t hst htl with hlo | hlo
              · have g1 : (at0 xs t != -1) = false := by simp [hlo]
                clear hlo
                go_wp2_with fail
                go_quiet (fail)
                go_wp2
                go_roundw
                case rel => exact ⟨t + 1, by go_num, by omega, by omega, hid (Ext.tr HEt.out (Ext.drewN _ _))⟩
                case measure => simp [intOf]; omega
              · have g1 : (at0 xs t != -1) = true := by simp; omega
                have g2 : decide (at0 xs t ≤ x.release) = false := by simp; omega
                have g2' : ¬ at0 xs t ≤ x.release := by omega
                clear hlo
                go_wp2_with fail
                go_quiet (fail)
                go_wp2
                go_roundw
                case rel => exact ⟨t + 1, by go_num, by omega, by omega, hid (Ext.tr HEt.out (Ext.drewN _ _))⟩
                case measure => simp [intOf]; omega
            · obtain rfl : t = e' := by omega
              go_wp2
              go_roundw
              case rel => exact ⟨k + 1, t, by omega, by go_num, rfl, HRest, hid (Ext.tr HEk.out HEJ.out)⟩
              case measure => simp [intOf]; omega
    · obtain rfl : k = A.length := by omega
      clear HGk
      go_wp2
      go_loopw [14] (fun q W => ∃ k : Nat, q = .int .i64 k ∧ k ≤ xs.length ∧ Hid (Ext w2 W)) (fun q _ => xs.length - (intOf q).toNat)
      case atStart => exact ⟨0, rfl, Nat.zero_le _, HEk⟩
      case round =>
        clear HEk
        obtain ⟨k, rfl, hk2, HEk⟩ := hrel
        by_cases hlt : k < xs.length
        · have HBk := hid (HLc.out.ext HEk.out)
          have d0 : wr.cell? ⟨L, 0, none⟩ = some (.string x.id) := HBk.out.cell 0
          have d1 : wr.cell? ⟨L, 1, none⟩ = some (.int .i64 x.junction) := HBk.out.cell 1
          have d2 : wr.cell? ⟨L, 2, none⟩ = some (.int .i64 x.limit) := HBk.out.cell 2
          have d3 : wr.cell? ⟨L, 3, none⟩ = some (.int .i64 x.delay) := HBk.out.cell 3
          have d4 : wr.cell? ⟨L, 4, none⟩ = some (.int .i64 x.release) := HBk.out.cell 4
          go_wp2_with fail
          refine (HI.out k hlt wr HEk.out).mono ?_
          rintro e w3 ⟨rfl, hE3⟩
          have HE3 := hid (Ext.tr HEk.out hE3)
          clear hE3 d0 d1 d2 d3 d4
          generalize hin : inAny (k : Int) A = inn
          have HIN := hid hin
          clear hin
          go_wp2
          go_loopw [17, 18] (fun o i W => ∃ (q : Nat) (ob : Bool), q ≤ A.length ∧ i = .int .i64 q ∧ o = .bool ob ∧ Hid (ob = inAny k (A.take q)) ∧ W = w3) (fun _ i _ => A.length - (intOf i).toNat)
          case atStart => exact ⟨0, false, Nat.zero_le _, rfl, rfl, hid rfl, rfl⟩
          case round =>
            obtain ⟨q, ob, hq, rfl, rfl, HOb, rfl⟩ := hrel
            by_cases hqt : q < A.length
            · obtain ⟨s, e', ha, _, ⟨hse, hel, _⟩⟩ := AlGood.at_ HG.out q hqt
              have hst := inAny_take (t := (k : Int)) hqt ha
              rw [← HOb.out] at hst
              obtain ⟨b, off, rfl, hb1', hb2', hcl⟩ := hcell (by omega)
              have hbw : b < w2.heap.size := by omega
              obtain ⟨Ai, ci, d0, hsi⟩ := SS.at_ HY.out HN.out hcl HE3.out hbw q hqt
              rw [ha] at d0 hsi
              obtain ⟨_, _, Ai', ci', hei, _, _, hci⟩ := hsi
              simp only [Value.slice.injEq, true_and] at hei
              obtain ⟨rfl, rfl⟩ := hei
              obtain ⟨bi, oi, rfl, _, hbi, hcc⟩ := hci (by simp)
              have i0 : wr.cell? ⟨bi, oi, none⟩ = some (.int .i64 s) := cellsI (xs := [(s : Int), (e' : Int)]) hcc 0 (by simp)
              have i1 : wr.cell? ⟨bi, oi + 1, none⟩ = some (.int .i64 e') := cellsI (xs := [(s : Int), (e' : Int)]) hcc 1 (by simp)
              simp only [List.length_cons, List.length_nil] at d0
              clear hcl hcc hci ha
              cases ob
              · by_cases hs1 : s ≤ k
                · by_cases hs2 : k < e'
                  · have HN2 := hid (show true = inAny k (A.take (q + 1)) by rw [hst]; simp [hs1, hs2])
                    have hs1' : (s : Int) ≤ k := by omega
                    have hs2' : (k : Int) < e' := by omega
                    clear hst
                    go_wp2
                    go_roundw
                    case rel => exact ⟨q + 1, true, by omega, by go_num, rfl, HN2, trivial⟩
                    case measure => simp [intOf]; omega
                  · have HN2 := hid (show false = inAny k (A.take (q + 1)) by rw [hst]; simp [hs1]; omega)
                    have hs1' : (s : Int) ≤ k := by omega
                    have hs2' : ¬ (k : Int) < e' := by omega
                    clear hst
                    go_wp2
                    go_roundw
                    case rel => exact ⟨q + 1, false, by omega, by go_num, rfl, HN2, trivial⟩
                    case measure => simp [intOf]; omega
                · have HN2 := hid (show false = inAny k (A.take (q + 1)) by rw [hst]; simp; omega)
                  have hs1' : ¬ (s : Int) ≤ k := by omega
                  clear hst
                  go_wp2
                  go_roundw
                  case rel => exact ⟨q + 1, false, by omega, by go_num, rfl, HN2, trivial⟩
                  case measure => simp [intOf]; omega
              · have HN2 := hid (show true = inAny k (A.take (q + 1)) by rw [hst]; simp)
                clear hst
                go_wp2
                go_roundw
                case rel => exact ⟨q + 1, true, by omega, by go_num, rfl, HN2, trivial⟩
                case measure => simp [intOf]; omega
            · obtain rfl : q = A.length := by omega
              have hee : ob = inn := by rw [HOb.out, List.take_length]; exact HIN.out
              subst hee
              cases ob
              all_goals
                go_wp2
                go_roundw
                case rel => exact ⟨k + 1, by go_num, by omega, HE3⟩
                case measure => simp [intOf]; omega
        · obtain rfl : k = xs.length := by omega
          go_wp2
          exact HK.out _ _ _ _ _ _ _ _ _ _ _ _ _ _ _ _ _ _ _ _ _ _ _ _ _ _ _ _ _ _ _ _ _ _ _ _ _ _ _ _ _ _ _ _ _ _ _ _ _ _ _ _ _ _ _ _ _ _ _ _ _ _ _ _ _ _ _ _ _ _ _ _ _ _ _ _ _ _ _ _ _ _ _ _ _ _ _ _ _ _ _ _ _ _ _ _ _ _ _ _ _ _ _ _ _ _ _ _ _ _ _ _ _ _ _ _ _ _ _ _ _ _ _ _ _ _ _ _ _ _ _ _ _ _ _ _ _ _ _ _ _ _ _ _ _ _ _ _ _ _ HEk.out
end Go.Proofs.Ytopjccbjdcoanaa
