/- Contracts of ShortestHours in both packages: the public functions. -/
import Derived.Test.YtlilmopcikogpaaH20
namespace Go.Proofs.Ytlilmopcikogpaa
set_option linter.unusedVariables false
open Go.RowKit
set_option maxRecDepth 100000 in
set_option maxHeartbeats 4000000 in
theorem specShortestHours (xs : List Refuge) (ss ps : List Int) (use : Int) (lo hi lo2 hi2 lo3 hi3 : Nat) (v v2 v3 : Value) (w : World) (hv : Sl lo hi w 4 v xs.length (flat Refuge.enc xs)) (hs : ∀ x ∈ xs, x.id.size ≤ maxLen) (hn : xs.length ≤ 1048576) (hv2 : Sl lo2 hi2 w 1 v2 ss.length (flat encI ss)) (hn2 : ss.length ≤ 1048576) (hv3 : Sl lo3 hi3 w 1 v3 ps.length (flat encI ps)) (hn3 : ps.length ≤ 1048576) :
    Calls Try.prog 29 #[v, v2, v3, .int .i64 use] w fun e w' => e = .returned (.tuple #[.int .i64 (shortH xs ss ps use).1, .int .i64 (shortH xs ss ps use).2]) ∧ Ext w w' := by
  have hv20 := hv2
  obtain ⟨hhi, _, A, c, rfl, hnc, hcm, hcell⟩ := hv
  obtain ⟨hhi2, _, A2, c2, rfl, hnc2, hcm2, hcell2⟩ := hv2
  obtain ⟨hhi3, _, A3, c3, rfl, hnc3, hcm3, hcell3⟩ := hv3
  have hmk := run_made 37 2 _ 1 8 Try.underlying37 infoInt xs.length (by omega) (by unfold maxLen; omega)
  simp only [Nat.mul_one] at hmk
  have HMK := hid hmk
  clear hmk
  go_enter Try.func29, Try.ntmps29
  go_wp2
  go_loop [10] (fun i => ∃ k : Nat, k ≤ xs.length ∧ i = .int .i64 k ∧ Hid (∀ j (h : j < xs.length), j < k → (!refugeP xs[j]) = false)) (fun i => xs.length - (intOf i).toNat)
  case atStart => exact ⟨0, by omega, rfl, hid (fun j h hj => absurd hj (by omega))⟩
  case round =>
    obtain ⟨k, hk, rfl, hall⟩ := hrel
    by_cases hlt : k < xs.length
    · obtain ⟨b, off, rfl, hb1, hb2, hc⟩ := hcell (by omega)
      have hbw : b < w.heap.size := by omega
      have hki : (k : Int) < xs.length := by omega
      have hat := Refuge.at_of hc (Below.refl _ w) hbw k hlt
      have hsk := hs _ (List.getElem_mem hlt)
      cases hp : refugeP xs[k]
      · have HQ := hid (shortH_no ss ps use (show refsB xs = false by unfold refsB; rw [List.any_eq_true.2 ⟨_, List.getElem_mem hlt, by rw [hp]; rfl⟩]; simp))
        go_wp2_with (go_at_call 61; refine (cv (refugePS _ _ xs[k] _ hsk hat) (vb hp)).mono ?_; rintro e w' ⟨rfl, rfl⟩)
        go_ret2
        exact ⟨by rw [HQ.out]; rfl, Below.refl _ _⟩
      · go_wp2_with (go_at_call 61; refine (cv (refugePS _ _ xs[k] _ hsk hat) (vb hp)).mono ?_; rintro e w' ⟨rfl, rfl⟩)
        go_round
        case rel => exact ⟨k + 1, by omega, by go_num, hid (fun j h hj => by rcases Nat.lt_succ_iff_lt_or_eq.1 hj with h1 | rfl; exact hall.out j h h1; rw [hp]; rfl)⟩
        case measure => simp [intOf]; omega
    · obtain rfl : k = xs.length := by omega
      have hany := any_no (xs := xs) (p := fun x => !refugeP x) fun j h => hall.out j h h
      by_cases h8 : 8 < xs.length
      · have HQ := hid (shortH_no ss ps use (show refsB xs = false by unfold refsB; simp; omega))
        have h8' : (8 : Int) < xs.length := by omega
        clear hany
        go_wp2
        go_ret2
        exact ⟨by rw [HQ.out]; rfl, Below.refl _ _⟩
      have h8' : ¬ (8 : Int) < xs.length := by omega
      have hR : refsB xs = true := by unfold refsB; rw [hany]; simp; omega
      clear hany
      have HS := hid hs
      by_cases q1 : (ss.length : Int) = ps.length
      rotate_left
      · have HQ := hid (shortH_range hR (show sizesB xs ss ps use = false by unfold sizesB; simp [q1]))
        have q1' : ((ss.length : Int) != ps.length) = true := by simpa using q1
        go_wp2
        go_ret2
        exact ⟨by rw [HQ.out]; rfl, Below.refl _ _⟩
      have q1' : ((ss.length : Int) != ps.length) = false := by simpa using q1
      have hsl : ss.length = ps.length := by omega
      have HSL := hid hsl
      by_cases q2 : 8 < ss.length
      · have HQ := hid (shortH_range hR (show sizesB xs ss ps use = false by unfold sizesB; simp; omega))
        have q2' : (8 : Int) < ss.length := by omega
        clear q1 hsl
        go_wp2
        go_ret2
        exact ⟨by rw [HQ.out]; rfl, Below.refl _ _⟩
      have q2' : ¬ (8 : Int) < ss.length := by omega
      cases q3 : allIn ss 1 200
      · have HQ := hid (shortH_range hR (show sizesB xs ss ps use = false by unfold sizesB; simp [q3]))
        clear q1 hsl
        go_wp2_with (go_at_call 62; refine (cv (l20Sizes ss _ _ _ _ hv20 hn2) (vb q3)).mono ?_; rintro e w' ⟨rfl, rfl⟩)
        go_ret2
        exact ⟨by rw [HQ.out]; rfl, Below.refl _ _⟩
      cases q4 : inB use 1 10000
      · have HQ := hid (shortH_range hR (show sizesB xs ss ps use = false by unfold sizesB; simp [q4]))
        clear q1 hsl
        go_wp2_with (first | (go_at_call 62; refine (cv (l20Sizes ss _ _ _ _ hv20 hn2) (vb q3)).mono ?_; rintro e w' ⟨rfl, rfl⟩) | (go_at_call 63; refine (cv (l20Use _ _) (vb q4)).mono ?_; rintro e w' ⟨rfl, rfl⟩))
        go_ret2
        exact ⟨by rw [HQ.out]; rfl, Below.refl _ _⟩
      obtain ⟨u1, u2⟩ : 1 ≤ use ∧ use ≤ 10000 := by unfold inB at q4; simp at q4; exact q4
      have hmk := HMK.out
      clear q1 hsl
      go_wp2_with (first | (go_at_call 62; refine (cv (l20Sizes ss _ _ _ _ hv20 hn2) (vb q3)).mono ?_; rintro e w' ⟨rfl, rfl⟩) | (go_at_call 63; refine (cv (l20Use _ _) (vb q4)).mono ?_; rintro e w' ⟨rfl, rfl⟩))
      clear hmk
      go_loopw [12] (fun i wr => ∃ k : Nat, k ≤ ps.length ∧ i = .int .i64 k ∧ Hid (∀ j (h : j < ps.length), j < k → inB ps[j] (-1) ((xs.length : Int) - 1) = true) ∧ wr.rowIs w.heap.size 2 xs.length (fun a => .int .i64 (persTo ss ps a k)) ∧ Ext w wr) (fun i _ => ps.length - (intOf i).toNat)
      case atStart => exact ⟨0, by omega, rfl, hid (fun j h hj => absurd hj (by omega)), World.rowIs_made _ _ _ _, Ext.new _ _⟩
      case round =>
        obtain ⟨k, hk, rfl, hpl, hRow, hE⟩ := hrel
        by_cases hlt : k < ps.length
        · obtain ⟨b2, o2, rfl, hb21, hb22, hc2⟩ := hcell2 (by have := HSL.out; omega)
          obtain ⟨b3, o3, rfl, hb31, hb32, hc3⟩ := hcell3 (by omega)
          have hb2w : b2 < w.heap.size := by omega
          have hb3w : b3 < w.heap.size := by omega
          have hks : k < ss.length := by have := HSL.out; omega
          have hksi : (k : Int) < ss.length := by omega
          have hkpi : (k : Int) < ps.length := by omega
          have hcc := (bcell hE).1
          have d2 := cellsI hc2 k hks
          have d3 := cellsI hc3 k hlt
          clear hc2 hc3
          cases hp : inB ps[k] (-1) ((xs.length : Int) - 1)
          · have HQ := hid (shortH_range hR (show sizesB xs ss ps use = false by unfold sizesB; rw [allIn_no k hlt hp]; simp))
            go_wp2_with (go_at_call 53; refine (cv (l00In _ _ _ _) (vb hp)).mono ?_; rintro e w' ⟨rfl, rfl⟩)
            go_ret2
            exact ⟨by rw [HQ.out]; rfl, hE⟩
          · have HPL : Hid (∀ j (h : j < ps.length), j < k + 1 → inB ps[j] (-1) ((xs.length : Int) - 1) = true) := hid (fun j h hj => by rcases Nat.lt_succ_iff_lt_or_eq.1 hj with h1 | rfl; exact hpl.out j h h1; exact hp)
            by_cases hneg : ps[k] < 0
            · have hneg' : ¬ 0 ≤ ps[k] := by omega
              have HN := hid hneg
              have HR := hid hRow
              clear hRow hneg
              go_wp2_with (go_at_call 53; refine (cv (l00In _ _ _ _) (vb hp)).mono ?_; rintro e w' ⟨rfl, rfl⟩)
              go_roundw
              case rel => exact ⟨k + 1, by omega, by go_num, HPL, pers_same hlt HN.out HR.out, hE⟩
              case measure => simp [intOf]; omega
            · have hge : 0 ≤ ps[k] := by omega
              obtain ⟨a, hae⟩ := Int.eq_ofNat_of_zero_le hge
              have han : a < xs.length := by unfold inB at hp; simp at hp; omega
              have hani : (a : Int) < xs.length := by omega
              have HAE := hid hae
              obtain ⟨g0, g1⟩ := persTo_bd (a := a) q3 HSL.out k hk
              obtain ⟨s0, s1⟩ := allIn_at q3 k hks
              have HR := hid hRow
              have e2 : wr.cell? ⟨w.heap.size, a, none⟩ = some (.int .i64 (persTo ss ps a k)) := hRow.cell han
              have e3 : wr.frozen? ⟨w.heap.size, a, none⟩ = false := hRow.frozen a
              rw [hae] at d3 hp
              have hps : ps.length ≤ 8 := by have := HSL.out; omega
              clear hRow hneg hge hae
              go_wp2_with (go_at_call 53; refine (cv (l00In _ _ _ _) (vb hp)).mono ?_; rintro e w' ⟨rfl, rfl⟩)
              go_still_tail 13, (by kernel_rfl)
              change wpList _ _ _ _ _ wr.drew
              go_wp2
              go_roundw
              case rel => exact ⟨k + 1, by omega, by go_num, HPL, pers_next hlt hks HAE.out (HR.out.of_block rfl), store_ext (Ext.tr hE (Ext.drewN _ 1)) (Nat.le_refl _) _⟩
              case measure => simp [intOf]; omega
        · obtain rfl : k = ps.length := by omega
          have hpsB : sizesB xs ss ps use = true := by
            unfold sizesB; rw [allIn_yes (fun k hk => hpl.out k hk hk), q3, q4]; simp only [Bool.and_true, Bool.and_eq_true, decide_eq_true_eq]
            have := HSL.out; omega
          obtain ⟨hx8, hxb⟩ := refs_bd hR
          have HXB := hid hxb
          have HPB := hid hpsB
          clear hxb hpsB hpl
          have hk2 := HSL.out
          have HK2 := hid hk2
          clear hk2
          go_wp2
          go_loopw [13, 14] (fun m i wr => ∃ k : Nat, k ≤ xs.length ∧ i = .int .i64 k ∧ m = .int .i64 (leastTo xs ss ps use k) ∧ Hid (∀ j, j < k → fitAt xs ss ps j = true) ∧ wr.rowIs w.heap.size 2 xs.length (fun a => .int .i64 (pers ss ps a)) ∧ Ext w wr) (fun _ i _ => xs.length - (intOf i).toNat)
          case atStart => exact ⟨0, by omega, rfl, rfl, hid (fun j hj => absurd hj (by omega)), hRow, hE⟩
          case round =>
            obtain ⟨k, hk, rfl, rfl, hfit, hRq, hEq⟩ := hrel
            by_cases hlt : k < xs.length
            · obtain ⟨b, off, rfl, hb1, hb2, hc⟩ := hcell (by omega)
              have hbw : b < w.heap.size := by omega
              have hki : (k : Int) < xs.length := by omega
              obtain ⟨⟨p0, p1⟩, ⟨a0, a1⟩⟩ := HXB.out k hlt
              have hat := Refuge.at_of hc hEq hbw k hlt
              obtain ⟨t0, t1, t2, t3⟩ := hat
              have r0 : wr.heap.size ≤ wr.heap.size := Nat.le_refl _
              have e2 := hRq.cell hlt
              cases hf : fitAt xs ss ps k
              · have HQ := hid (shortH_full (ss := ss) (ps := ps) (use := use) hR k hlt hf)
                have hgt : decide (xs[k].places < pers ss ps k) = true := by unfold fitAt at hf; rw [dif_pos hlt] at hf; simp at hf ⊢; exact hf
                go_wp2
                go_quiet (fail)
                go_wp2
                go_ret2
                exact ⟨by rw [HQ.out]; rfl, Ext.tr hEq (Ext.drewN _ _)⟩
              · have hle := fit_bd hlt hf
                have hgt : decide (xs[k].places < pers ss ps k) = false := by simp; exact hle
                obtain ⟨g0, _⟩ := persTo_bd (a := k) q3 HK2.out ps.length (Nat.le_refl _)
                have g0' : 0 ≤ pers ss ps k := g0
                have HL := hid (leastTo_succ (ss := ss) (ps := ps) (use := use) hlt)
                have HRQ := hid hRq
                have HC := hid hc
                clear g0 hRq hc
                go_wp2
                go_quiet (fail)
                generalize hW : World.drewN _ _ = wu
                have hEu : Ext w wu := by rw [← hW]; exact Ext.tr hEq (Ext.drewN _ _)
                have hRu : wu.rowIs w.heap.size 2 xs.length (fun a => .int .i64 (pers ss ps a)) := by rw [← hW]; exact HRQ.out.of_block rfl
                have hatu := Refuge.at_of HC.out hEu hbw k hlt
                have e4 := hRu.cell hlt
                have HRU := hid hRu
                have HATU := hid (fun n => Refuge.at_of HC.out (Ext.tr hEu (Ext.drewN _ n)) hbw k hlt)
                clear hW hRu hatu e2 t0 t1 t2 t3
                go_wp2
                go_quiet ((first | (go_at_call 65; exact Calls.quiet_of_same (qs (l20Hours _ _ xs[k] _ _ _ ⟨a0, a1⟩ ⟨g0', by omega⟩ ⟨u1, u2⟩ (HATU.out _)))) | (go_at_call 64; exact Calls.quiet_of_same (qs (l00Min _ _ _)))))
                go_wp2
                go_roundw
                case rel => exact ⟨k + 1, by omega, by go_num, by rw [HL.out], hid (fun j hj => by rcases Nat.lt_succ_iff_lt_or_eq.1 hj with h1 | rfl; exact hfit.out j h1; exact hf), HRU.out.of_block rfl, Ext.tr hEu (Ext.drewN _ _)⟩
                case measure => simp [intOf]; omega
            · obtain rfl : k = xs.length := by omega
              have HQ := hid (shortH_ok hR HPB.out (fun k hk => hfit.out k hk))
              go_wp2
              go_ret2
              exact ⟨by rw [HQ.out]; rfl, hEq⟩
set_option maxRecDepth 100000 in
set_option maxHeartbeats 4000000 in
theorem implShortestHours (xs : List Refuge) (ss ps : List Int) (use : Int) (lo hi lo2 hi2 lo3 hi3 : Nat) (v v2 v3 : Value) (w : World) (hv : Sl lo hi w 4 v xs.length (flat Refuge.enc xs)) (hs : ∀ x ∈ xs, x.id.size ≤ maxLen) (hn : xs.length ≤ 1048576) (hv2 : Sl lo2 hi2 w 1 v2 ss.length (flat encI ss)) (hn2 : ss.length ≤ 1048576) (hv3 : Sl lo3 hi3 w 1 v3 ps.length (flat encI ps)) (hn3 : ps.length ≤ 1048576) :
    Calls Try.prog 31 #[v, v2, v3, .int .i64 use] w fun e w' => e = .returned (.tuple #[.int .i64 (shortH xs ss ps use).1, .int .i64 (shortH xs ss ps use).2]) ∧ Ext w w' := by
  have hv10 := hv
  have hv20 := hv2
  have hv30 := hv3
  obtain ⟨hhi, _, A, c, rfl, hnc, hcm, hcell⟩ := hv
  obtain ⟨hhi2, _, A2, c2, rfl, hnc2, hcm2, hcell2⟩ := hv2
  obtain ⟨hhi3, _, A3, c3, rfl, hnc3, hcm3, hcell3⟩ := hv3
  have hmk := run_made 37 2 _ 1 8 Try.underlying37 infoInt xs.length (by omega) (by unfold maxLen; omega)
  simp only [Nat.mul_one] at hmk
  have HMK := hid hmk
  have HS := hid hs
  clear hmk hs
  by_cases h8 : 8 < xs.length
  · have HQ := hid (shortH_no ss ps use (show refsB xs = false by unfold refsB; simp; omega))
    have h8' : (8 : Int) < xs.length := by omega
    go_enter Try.func31, Try.ntmps31
    go_wp2
    go_ret2
    exact ⟨by rw [HQ.out]; rfl, Below.refl _ _⟩
  have h8' : ¬ (8 : Int) < xs.length := by omega
  cases hany : xs.any fun x => !refugeP x
  rotate_left
  · have HQ := hid (shortH_no ss ps use (show refsB xs = false by unfold refsB; rw [hany]; simp))
    go_enter Try.func31, Try.ntmps31
    go_wp2_with fail
    refine (cv (anyRef xs _ _ _ _ hv10 hn HS.out) (vb hany)).mono ?_
    rintro e w1 ⟨rfl, hE1⟩
    go_wp2
    go_ret2
    exact ⟨by rw [HQ.out]; rfl, hE1⟩
  have hR : refsB xs = true := by unfold refsB; rw [hany]; simp; omega
  go_enter Try.func31, Try.ntmps31
  go_wp2_with fail
  refine (cv (anyRef xs _ _ _ _ hv10 hn HS.out) (vb hany)).mono ?_
  rintro e w1 ⟨rfl, hE1⟩
  by_cases q1 : (ss.length : Int) = ps.length
  rotate_left
  · have HQ := hid (shortH_range hR (show sizesB xs ss ps use = false by unfold sizesB; simp [q1]))
    have q1' : ((ss.length : Int) != ps.length) = true := by simpa using q1
    go_wp2
    go_ret2
    exact ⟨by rw [HQ.out]; rfl, hE1⟩
  have q1' : ((ss.length : Int) != ps.length) = false := by simpa using q1
  have hsl : ss.length = ps.length := by omega
  have HSL := hid hsl
  by_cases q2 : 8 < ss.length
  · have HQ := hid (shortH_range hR (show sizesB xs ss ps use = false by unfold sizesB; simp; omega))
    have q2' : (8 : Int) < ss.length := by omega
    clear q1 hsl
    go_wp2
    go_ret2
    exact ⟨by rw [HQ.out]; rfl, hE1⟩
  have q2' : ¬ (8 : Int) < ss.length := by omega
  clear q1 hsl
  cases q3 : allIn ss 1 200
  · have HQ := hid (shortH_range hR (show sizesB xs ss ps use = false by unfold sizesB; simp [q3]))
    go_wp2_with fail
    refine (cv (allWithin ss 1 200 _ _ _ _ (hv20.ext hE1) hn2) (vb q3)).mono ?_
    rintro e w2 ⟨rfl, hE2⟩
    go_wp2
    go_ret2
    exact ⟨by rw [HQ.out]; rfl, Ext.tr hE1 hE2⟩
  go_wp2_with fail
  refine (cv (allWithin ss 1 200 _ _ _ _ (hv20.ext hE1) hn2) (vb q3)).mono ?_
  rintro e w2 ⟨rfl, hE2⟩
  replace hE2 := Ext.tr hE1 hE2
  cases q5 : allIn ps (-1) ((xs.length : Int) - 1)
  · have HQ := hid (shortH_range hR (show sizesB xs ss ps use = false by unfold sizesB; simp [q5]))
    go_wp2_with fail
    refine (cv (allWithin ps (-1) ((xs.length : Int) - 1) _ _ _ _ (hv30.ext hE2) hn3) (vb q5)).mono ?_
    rintro e w3 ⟨rfl, hE3⟩
    go_wp2
    go_ret2
    exact ⟨by rw [HQ.out]; rfl, Ext.tr hE2 hE3⟩
  go_wp2_with fail
  refine (cv (allWithin ps (-1) ((xs.length : Int) - 1) _ _ _ _ (hv30.ext hE2) hn3) (vb q5)).mono ?_
  rintro e w3 ⟨rfl, hE3⟩
  replace hE3 := Ext.tr hE2 hE3
  clear hE1 hE2
  cases q4 : inB use 1 10000
  · have HQ := hid (shortH_range hR (show sizesB xs ss ps use = false by unfold sizesB; simp [q4]))
    go_wp2_with (go_at_call 70; refine (cv (within _ _ _ _) (vb q4)).mono ?_; rintro e w' ⟨rfl, rfl⟩)
    go_ret2
    exact ⟨by rw [HQ.out]; rfl, hE3⟩
  have hpsB : sizesB xs ss ps use = true := by
    unfold sizesB; rw [q3, q4, q5]; simp only [Bool.and_true, Bool.and_eq_true, decide_eq_true_eq]
    have := HSL.out; omega
  obtain ⟨u1, u2⟩ : 1 ≤ use ∧ use ≤ 10000 := by unfold inB at q4; simp at q4; exact q4
  have hmk := HMK.out
  go_wp2_with (go_at_call 70; refine (cv (within _ _ _ _) (vb q4)).mono ?_; rintro e w' ⟨rfl, rfl⟩)
  clear hmk
  have hz3 := hE3.size
  go_loopw [56] (fun i wr => ∃ k : Nat, k ≤ ps.length ∧ i = .int .i64 k ∧ wr.rowIs w3.heap.size 2 xs.length (fun a => .int .i64 (persTo ss ps a k)) ∧ Ext w wr) (fun i _ => ps.length - (intOf i).toNat)
  case atStart => exact ⟨0, by omega, rfl, World.rowIs_made _ _ _ _, Ext.tr hE3 (Ext.new _ _)⟩
  case round =>
    obtain ⟨k, hk, rfl, hRow, hE⟩ := hrel
    by_cases hlt : k < ps.length
    · obtain ⟨b2, o2, rfl, hb21, hb22, hc2⟩ := hcell2 (by have := HSL.out; omega)
      obtain ⟨b3, o3, rfl, hb31, hb32, hc3⟩ := hcell3 (by omega)
      have hb2w : b2 < w.heap.size := by omega
      have hb3w : b3 < w.heap.size := by omega
      have hks : k < ss.length := by have := HSL.out; omega
      have hksi : (k : Int) < ss.length := by omega
      have hkpi : (k : Int) < ps.length := by omega
      have hcc := (bcell hE).1
      have d2 := cellsI hc2 k hks
      have d3 := cellsI hc3 k hlt
      clear hc2 hc3
      obtain ⟨hp1, hp2⟩ := allIn_at q5 k hlt
      by_cases hneg : ps[k] < 0
      · have hneg' : ¬ 0 ≤ ps[k] := by omega
        have HN := hid hneg
        have HR := hid hRow
        clear hRow hneg hp1 hp2
        go_wp2
        go_roundw
        case rel => exact ⟨k + 1, by omega, by go_num, pers_same hlt HN.out HR.out, hE⟩
        case measure => simp [intOf]; omega
      · have hge : 0 ≤ ps[k] := by omega
        obtain ⟨a, hae⟩ := Int.eq_ofNat_of_zero_le hge
        have han : a < xs.length := by omega
        have hani : (a : Int) < xs.length := by omega
        have HAE := hid hae
        obtain ⟨g0, g1⟩ := persTo_bd (a := a) q3 HSL.out k hk
        obtain ⟨s0, s1⟩ := allIn_at q3 k hks
        have HR := hid hRow
        have e2 : wr.cell? ⟨w3.heap.size, a, none⟩ = some (.int .i64 (persTo ss ps a k)) := hRow.cell han
        have e3 : wr.frozen? ⟨w3.heap.size, a, none⟩ = false := hRow.frozen a
        rw [hae] at d3
        have hps : ps.length ≤ 8 := by have := HSL.out; omega
        clear hRow hneg hge hae hp1 hp2
        go_wp2
        go_still_tail 10, (by kernel_rfl)
        change wpList _ _ _ _ _ wr.drew
        go_wp2
        go_roundw
        case rel => exact ⟨k + 1, by omega, by go_num, pers_next hlt hks HAE.out (HR.out.of_block rfl), store_ext (Ext.tr hE (Ext.drewN _ 1)) hz3 _⟩
        case measure => simp [intOf]; omega
    · obtain rfl : k = ps.length := by omega
      obtain ⟨hx8, hxb⟩ := refs_bd hR
      have HXB := hid hxb
      have HPB := hid hpsB
      clear hxb hpsB
      go_wp2
      go_loopw [13, 76] (fun m i wr => ∃ k : Nat, k ≤ xs.length ∧ i = .int .i64 k ∧ m = .int .i64 (leastTo xs ss ps use k) ∧ Hid (∀ j, j < k → fitAt xs ss ps j = true) ∧ wr.rowIs w3.heap.size 2 xs.length (fun a => .int .i64 (pers ss ps a)) ∧ Ext w wr) (fun _ i _ => xs.length - (intOf i).toNat)
      case atStart => exact ⟨0, by omega, rfl, rfl, hid (fun j hj => absurd hj (by omega)), hRow, hE⟩
      case round =>
        obtain ⟨k, hk, rfl, rfl, hfit, hRq, hEq⟩ := hrel
        by_cases hlt : k < xs.length
        · obtain ⟨b, off, rfl, hb1, hb2, hc⟩ := hcell (by omega)
          have hbw : b < w.heap.size := by omega
          have hki : (k : Int) < xs.length := by omega
          obtain ⟨⟨p0, p1⟩, ⟨a0, a1⟩⟩ := HXB.out k hlt
          obtain ⟨c0, c1, c2, c3⟩ := Refuge.at_of hc hEq hbw k hlt
          have hrl := hRq.lt
          have HRQ := hid hRq
          clear hRq hc
          go_wp2
          generalize hA : wr.alloc _ = B
          have hEB : Ext wr B := by rw [← hA]; exact Ext.new _ _
          have hBz : wr.heap.size < B.heap.size := by rw [← hA]; simp
          have x0 : ∀ d : Later B, d.w.cell? ⟨wr.heap.size, 0, none⟩ = some (.string xs[k].id) := fun d => (d.h.cell (p := ⟨wr.heap.size, 0, none⟩) hBz).trans (by rw [← hA]; simp)
          have x1 : ∀ d : Later B, d.w.cell? ⟨wr.heap.size, 1, none⟩ = some (.int .i64 xs[k].junction) := fun d => (d.h.cell (p := ⟨wr.heap.size, 1, none⟩) hBz).trans (by rw [← hA]; simp)
          have x2 : ∀ d : Later B, d.w.cell? ⟨wr.heap.size, 2, none⟩ = some (.int .i64 xs[k].places) := fun d => (d.h.cell (p := ⟨wr.heap.size, 2, none⟩) hBz).trans (by rw [← hA]; simp)
          have x3 : ∀ d : Later B, d.w.cell? ⟨wr.heap.size, 3, none⟩ = some (.int .i64 xs[k].air) := fun d => (d.h.cell (p := ⟨wr.heap.size, 3, none⟩) hBz).trans (by rw [← hA]; simp)
          have hRB : ∀ d : Later B, d.w.rowIs w3.heap.size 2 xs.length (fun a => .int .i64 (pers ss ps a)) := fun d => HRQ.out.of_block ((Ext.tr hEB d.h).block _ hrl)
          have r0 : ∀ d : Later B, d.w.cell? ⟨w3.heap.size, k, none⟩ = some (.int .i64 (pers ss ps k)) := fun d => (hRB d).cell hlt
          have HRB := hid hRB
          clear hA hRB c0 c1 c2 c3
          cases hf : fitAt xs ss ps k
          · have HQ := hid (shortH_full (ss := ss) (ps := ps) (use := use) hR k hlt hf)
            have hgt : decide (xs[k].places < pers ss ps k) = true := by unfold fitAt at hf; rw [dif_pos hlt] at hf; simp at hf ⊢; exact hf
            refine wp_region_later B (by kernel_rfl) (by kernel_rfl) (Below.refl _ _) ?_
            repeat (go_big_quiet_step (fail))
            refine wpQuiet_nil ?_
            rintro _ ⟨d, rfl⟩
            go_wp2
            go_ret2
            exact ⟨by rw [HQ.out]; rfl, Ext.tr hEq (Ext.tr hEB d.h)⟩
          · have hle := fit_bd hlt hf
            have hgt : decide (xs[k].places < pers ss ps k) = false := by simp; exact hle
            obtain ⟨g0, _⟩ := persTo_bd (a := k) q3 HSL.out ps.length (Nat.le_refl _)
            have g0' : 0 ≤ pers ss ps k := g0
            have HL := hid (leastTo_succ (ss := ss) (ps := ps) (use := use) hlt)
            clear g0
            refine wp_region_later B (by kernel_rfl) (by kernel_rfl) (Below.refl _ _) ?_
            repeat (go_big_quiet_step (fail))
            refine wpQuiet_nil ?_
            rintro _ ⟨d, rfl⟩
            go_wp2_with fail
            refine wp_region_later B (by kernel_rfl) (by kernel_rfl) d.h ?_
            repeat (go_big_quiet_step ((go_at_call 71; exact ql (hoursG xs[k] _ _ _ ⟨a0, a1⟩ ⟨g0', by omega⟩ ⟨u1, u2⟩) rfl)))
            refine wpQuiet_nil ?_
            rintro _ ⟨d1, rfl⟩
            go_wp2
            go_roundw
            case rel => exact ⟨k + 1, by omega, by go_num, by rw [HL.out]; congr 1; unfold minI; split <;> first | rfl | omega | (split <;> first | rfl | omega), hid (fun j hj => by rcases Nat.lt_succ_iff_lt_or_eq.1 hj with h1 | rfl; exact hfit.out j h1; exact hf), HRB.out d1, Ext.tr hEq (Ext.tr hEB d1.h)⟩
            case measure => simp [intOf]; omega
        · obtain rfl : k = xs.length := by omega
          have HQ := hid (shortH_ok hR HPB.out (fun k hk => hfit.out k hk))
          go_wp2
          go_ret2
          exact ⟨by rw [HQ.out]; rfl, hEq⟩
end Go.Proofs.Ytlilmopcikogpaa
