/- The draw of the law on plans. A contract that tells sizes alone. -/
import Derived.Test.YtibmcailjodpkaaDrawR
namespace Go.Proofs.Ytibmcailjodpkaa
set_option linter.unusedVariables false
open Go.RowKit
theorem results_tmp4 {fn : Func} {t u v x : Tmp} (h : fn.results = #[.tmp t, .tmp u, .tmp v, .tmp x]) (tmps : Array Value) (P : Program) (w : World) :
    (results fn tmps).run P w = .ok (.tuple #[tmps.getD t undef, tmps.getD u undef, tmps.getD v undef, tmps.getD x undef]) w := by
  simp [results, h]
theorem SrcTo.outP {g n : Nat} {w w0 w' : World} (h : SrcTo g n w0 w') (hE : Ext w w0) (hg : w.heap.size ≤ g) : Ext w w' := h.2.ext hE hg
theorem Sl.weakP {lo hi lo' hi' k n : Nat} {w : World} {v : Value} {xs : List Value} (h : Sl lo hi w k v n xs) (h1 : lo' ≤ lo) (h2 : hi ≤ hi') (h3 : hi' ≤ w.heap.size) : Sl lo' hi' w k v n xs := by
  obtain ⟨_, e2, A, c, e3, e4, e5, e6⟩ := h
  refine ⟨h3, e2, A, c, e3, e4, e5, fun hn => ?_⟩
  obtain ⟨b, off, e7, e8, e9, e10⟩ := e6 hn
  exact ⟨b, off, e7, by omega, by omega, e10⟩
set_option maxRecDepth 100000 in
set_option maxHeartbeats 1000000 in
theorem drawPlanDrills (bs : List Int) (lo hi : Nat) (v : Value) (w : World) (hv : Sl lo hi w 1 v bs.length (flat encB bs)) (hb : ∀ b ∈ bs, 0 ≤ b ∧ b ≤ 255) :
    Calls Try.prog 41 #[v] w fun e w' => (∃ (vd vc : Value) (xs : List Drill) (cs : List ByteArray) (f iv : Int), e = .returned (.tuple #[vd, vc, .int .i64 f, .int .i64 iv]) ∧ (xs.length ≤ 33 ∧ cs.length ≤ 9) ∧ Crews10 xs ∧ Names20 cs ∧ Sl 0 w'.heap.size w' 5 vd xs.length (flat Drill.enc xs) ∧ Sl 0 w'.heap.size w' 1 vc cs.length (flat encT cs)) ∧ Ext w w' := by
  have HF := hid (l00From bs lo hi v w hv hb)
  clear hv
  go_enter Try.func41, Try.ntmps41
  go_wp2_with fail
  refine HF.out.mono ?_
  rintro e w0 ⟨rfl, hS0, hE0⟩
  have hg := hS0.lt
  have HS0 := hid hS0
  have HE0 := hid hE0
  clear hS0 hE0 HF
  generalize hG : w.heap.size = G at *
  go_wp2_with fail
  refine (drawDrills G 0 w0 HS0.out (by omega)).mono ?_
  rintro e w1 ⟨⟨vd, xs, rfl, hx, hc10, hO⟩, hS⟩
  have HS1 := hid hS
  have HO1 := hid hO
  have HC := hid hc10
  clear hS hO HS0 hc10
  go_wp2_with fail
  refine (drawCrews G (0 + 200) w1 HS1.out.1 (by omega)).mono ?_
  rintro e w2 ⟨⟨vc, cs, rfl, hc, hn20, hO⟩, hS⟩
  have HS2 := hid (HS1.out.tr hS)
  have HO2 := hid (row_keep HO1.out hS.2 (by omega))
  have HV2 := hid hO
  have HN := hid hn20
  clear hS hO HO1 hn20
  have hz12 := HS1.out.size
  go_wp2_with fail
  refine (drawDay G (0 + 200 + 100) w2 HS2.out.1 (by omega)).mono ?_
  rintro e w3 ⟨⟨f, rfl⟩, hS⟩
  have HS3 := hid (HS2.out.tr hS)
  have HO3 := hid (row_keep HO2.out hS.2 (by omega))
  have HV3 := hid (row_keep HV2.out hS.2 (by omega))
  clear hS HO2 HV2 HS2 HS1
  go_wp2_with fail
  refine (drawInterval G (0 + 200 + 100 + 4) w3 HS3.out.1 (by omega)).mono ?_
  rintro e w4 ⟨⟨iv, rfl⟩, hS⟩
  have HS4 := hid (HS3.out.tr hS)
  have HO4 := hid (row_keep HO3.out hS.2 (by omega))
  have HV4 := hid (row_keep HV3.out hS.2 (by omega))
  clear hS HO3 HV3 HS3
  go_wp2
  (try simp only [Exit.inBlock, Exit.then])
  refine bodyPost_ret (results_tmp4 rfl _ _ _) rfl ?_
  exact ⟨⟨_, _, xs, cs, f, iv, rfl, ⟨hx, hc⟩, HC.out, HN.out, Sl.weakP (Sl.of_own HO4.out (by unfold maxLen; omega)) (Nat.zero_le _) (Nat.le_refl _) (Nat.le_refl _), Sl.weakP (Sl.of_own HV4.out (by unfold maxLen; omega)) (Nat.zero_le _) (Nat.le_refl _) (Nat.le_refl _)⟩, HS4.out.outP HE0.out (by omega)⟩
end Go.Proofs.Ytibmcailjodpkaa
