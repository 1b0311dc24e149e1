/- Sorting places by the program's order of checks: the library's insertion sort with that order. -/
import Derived.Test.YtcocdigcmcpefaaLpdC
import Derived.BigRegion
namespace Go.Proofs.Ytcocdigcmcpefaa
set_option linter.unusedVariables false
open Go.RowKit
/-- the places 0, 1, .. -/
def ixN (N : Nat) : List Int := (List.range N).map Int.ofNat
theorem ixN_len (N : Nat) : (ixN N).length = N := by unfold ixN; simp
theorem ixN_snoc (N : Nat) : ixN (N + 1) = ixN N ++ [(N : Int)] := by unfold ixN; rw [List.range_succ, List.map_append]; rfl
theorem ixN_mem {N : Nat} {x : Int} (h : x ∈ ixN N) : ∃ m : Nat, x = (m : Int) ∧ m < N := by
  unfold ixN at h
  rw [List.mem_map] at h
  obtain ⟨m, hm, rfl⟩ := h
  exact ⟨m, rfl, by simpa using hm⟩
/-- what lies at the places -/
def keys (D L : List Int) : List Int := L.map fun x => at0 D x.toNat
theorem keys_len (D L : List Int) : (keys D L).length = L.length := by simp [keys]
theorem keys_get {D L : List Int} {p : Nat} (hp : p < L.length) : at0 (keys D L) p = at0 D (at0 L p).toNat := by
  have hp' : p < (keys D L).length := by rw [keys_len]; exact hp
  have h : (keys D L)[p]? = some (at0 D (L[p]).toNat) := by unfold keys; rw [List.getElem?_map, List.getElem?_eq_getElem hp]; rfl
  rw [List.getElem?_eq_getElem hp'] at h
  rw [← at0_of hp', ← at0_of hp]; exact Option.some.inj h
theorem keys_at {D L : List Int} {p m : Nat} (hp : p < L.length) (h : at0 L p = (m : Int)) : at0 (keys D L) p = at0 D m := by
  rw [keys_get hp, h, Int.toNat_natCast]
theorem keys_ix (D : List Int) : keys D (ixN D.length) = D := by
  apply List.ext_getElem?
  intro i
  by_cases h : i < D.length
  · unfold keys ixN
    rw [List.getElem?_map, List.getElem?_map, List.getElem?_range h, List.getElem?_eq_getElem h, at0_of h]
    rfl
  · rw [List.getElem?_eq_none (by rw [keys_len, ixN_len]; omega), List.getElem?_eq_none (by omega)]
theorem keys_swp {D L : List Int} {j : Nat} (hj : j < L.length) : keys D (swp L j) = swp (keys D L) j := by
  unfold swp
  rw [keys_get hj, keys_get (by omega : j - 1 < L.length)]
  unfold keys
  rw [List.map_set, List.map_set]
/-- places in the order of what lies at them, below i -/
def OUp (D : List Int) (i : Nat) (L : List Int) : Prop := L.Perm (ixN D.length) ∧ Upto D i (keys D L)
def OIn (D : List Int) (i j : Nat) (L : List Int) : Prop := L.Perm (ixN D.length) ∧ InsI D i j (keys D L)
theorem OUp.len {D L : List Int} {i : Nat} (h : OUp D i L) : L.length = D.length := by rw [h.1.length_eq, ixN_len]
theorem OIn.len {D L : List Int} {i j : Nat} (h : OIn D i j L) : L.length = D.length := by rw [h.1.length_eq, ixN_len]
theorem perm_at {D L : List Int} (h : L.Perm (ixN D.length)) (p : Nat) (hp : p < D.length) : ∃ m : Nat, at0 L p = (m : Int) ∧ m < D.length := by
  have hl : L.length = D.length := by rw [h.length_eq, ixN_len]
  have : at0 L p ∈ L := by rw [← at0_of (by omega : p < L.length)]; exact List.getElem_mem _
  exact ixN_mem (h.subset this)
theorem OUp.zero (D : List Int) : OUp D 1 (ixN D.length) := ⟨List.Perm.refl _, by rw [keys_ix]; exact Upto.zero D⟩
theorem OUp.ins {D L : List Int} {i : Nat} (h : OUp D i L) (hi : i < D.length) : OIn D i i L := ⟨h.1, h.2.ins (by rw [keys_len, h.len]; exact hi)⟩
theorem OIn.step {D L : List Int} {i j a b : Nat} (h : OIn D i j L) (hj : 0 < j) (hji : j ≤ i) (hi : i < D.length) (ha : at0 L j = (a : Int)) (hb : at0 L (j - 1) = (b : Int)) (hl : at0 D a < at0 D b) : OIn D i (j - 1) (swp L j) := by
  have hL := h.len
  refine ⟨(swp_perm (by omega)).trans h.1, ?_⟩
  rw [keys_swp (by omega)]
  refine h.2.step hj hji (by rw [keys_len]; omega) ?_
  rw [keys_at (by omega) ha, keys_at (by omega) hb]; exact hl
theorem OIn.stop {D L : List Int} {i j : Nat} (h : OIn D i j L) (hji : j ≤ i) (hi : i < D.length) (hs : j = 0 ∨ ∃ a b : Nat, at0 L j = (a : Int) ∧ at0 L (j - 1) = (b : Int) ∧ at0 D b ≤ at0 D a) : OUp D (i + 1) L := by
  have hL := h.len
  refine ⟨h.1, h.2.stop hji ?_⟩
  rcases hs with hs | ⟨a, b, ha, hb, hl⟩
  · exact .inl hs
  · right; rw [keys_at (by omega) ha, keys_at (by omega) hb]; exact hl
theorem OUp.end_ {D L : List Int} (h : OUp D D.length L) : keys D L = ord D := ord_eq (h.2.end_ (by rw [keys_len, h.len]; exact Nat.le_refl _))
theorem flatI_mp2 (xs : List Int) : flat encI xs = xs.map (Value.int .i64) := flatI_mp xs
set_option maxRecDepth 100000 in
set_option maxHeartbeats 1000000 in
theorem insSortC (D : List Int) (p1 : Value) (base g cap : Nat) (w : World) (h0 : 0 < D.length) (hn : D.length ≤ 16) (hbw : base ≤ w.heap.size) (hown : w.ownsRow base 3 1 (.slice (some ⟨g, 0, none⟩) D.length cap) D.length (flat encI (ixN D.length)))
    (hC : ∀ (a b : Nat) (W : World), a < D.length → b < D.length → Below base w W → Calls Try.prog 60 #[.int .i64 a, .int .i64 b, p1] W fun e W' => e = .returned (.int .i64 (cmpZ (at0 D a) (at0 D b))) ∧ Ext W W') :
    Calls Try.prog 77 #[.slice (some ⟨g, 0, none⟩) D.length cap, .int .i64 0, .int .i64 D.length, .func (.func 60) #[] #[p1]] w fun e w' => e = .returned (.tuple #[]) ∧ (∃ L : List Int, OUp D D.length L ∧ w'.ownsRow base 3 1 (.slice (some ⟨g, 0, none⟩) D.length cap) D.length (flat encI L)) ∧ Below base w w' := by
  have hbg : base ≤ g ∧ D.length ≤ cap := by
    obtain ⟨_, _, _, he, hb, _, _, hc⟩ := row_open hown 0 (by omega)
    simp only [Value.slice.injEq, Option.some.injEq, Addr.mk.injEq, and_true, true_and] at he
    obtain ⟨rfl, rfl⟩ := he
    exact ⟨hb, hc⟩
  obtain ⟨hbg, hcap⟩ := hbg
  have HO := hid hown
  have HC := hid hC
  clear hown hC
  go_enter Try.func77, Try.ntmps77
  go_wp2
  go_loopw [8] (fun a wr => ∃ (i : Nat) (L : List Int), 1 ≤ i ∧ i ≤ D.length ∧ a = .int .i64 i ∧ Hid (OUp D i L) ∧ Hid (wr.ownsRow base 3 1 (.slice (some ⟨g, 0, none⟩) D.length cap) D.length (flat encI L)) ∧ Hid (Below base w wr)) (fun a _ => D.length - (intOf a).toNat)
  case atStart => exact ⟨1, _, by omega, by omega, rfl, hid (OUp.zero D), HO, hid (Below.refl _ _)⟩
  case round =>
    obtain ⟨i, L, hi1, hi2, rfl, HU, HR, HB⟩ := hrel
    by_cases hlt : i < D.length
    · go_wp2
      go_loopw [9] (fun b wi => ∃ (j : Nat) (M : List Int), j ≤ i ∧ b = .int .i64 j ∧ Hid (OIn D i j M) ∧ Hid (wi.ownsRow base 3 1 (.slice (some ⟨g, 0, none⟩) D.length cap) D.length (flat encI M)) ∧ Hid (Below base w wi)) (fun b _ => (intOf b).toNat)
      case atStart => exact ⟨i, L, Nat.le_refl _, rfl, hid (HU.out.ins hlt), HR, HB⟩
      case round =>
        obtain ⟨j, M, hji, rfl, HI, HR2, HB2⟩ := hrel
        have hjn : (j : Int) < D.length := by omega
        have hML := HI.out.len
        have hbr : base ≤ wr.heap.size := Nat.le_trans hbw HB2.out.size
        by_cases hj : 0 < j
        · have hj' : (0 : Int) < j := by omega
          obtain ⟨a, ha, han⟩ := perm_at HI.out.1 j (by omega)
          obtain ⟨b, hb, hbn⟩ := perm_at HI.out.1 (j - 1) (by omega)
          have cell : ∀ W, Ext wr W → ∀ p, p < D.length → W.cell? ⟨g, p, none⟩ = some (.int .i64 (at0 M p)) := fun W hW p hp => row_cell (ownE HR2.out hW) (j := p) (show (flat encI M)[p]? = some (.int .i64 (at0 M p)) by
            have hp' : p < M.length := by omega
            rw [flatI_mp, List.getElem?_map, List.getElem?_eq_getElem hp', ← at0_of hp']; rfl)
          have CELL := hid cell
          clear cell
          have cj : ∀ d : Later wr, d.w.cell? ⟨g, j, none⟩ = some (.int .i64 a) := fun d => (CELL.out d.w d.h j (by omega)).trans (by rw [ha])
          have ck : ∀ d : Later wr, d.w.cell? ⟨g, j - 1, none⟩ = some (.int .i64 b) := fun d => (CELL.out d.w d.h (j - 1) (by omega)).trans (by rw [hb])
          have hcm := @cmpZ_lt (at0 D a) (at0 D b)
          have HCC := hid (fun (d : Later wr) => HC.out a b d.w han hbn (HB2.out.trans (d.h.mono hbr)))
          by_cases hl : at0 D a < at0 D b
          · have HLt := hid hl
            have hcl : cmpZ (at0 D a) (at0 D b) < 0 := hcm.2 hl
            clear hl hcm
            go_wp2_with fail
            refine wp_region_later wr (by kernel_rfl) (by kernel_rfl) (Below.refl _ _) ?_
            repeat (go_big_quiet_step ((go_at_call 60; exact ql (HCC.out _) rfl)))
            refine wpQuiet_nil ?_
            rintro _ ⟨d, rfl⟩
            have HQ := hid (ownE HR2.out d.h)
            have HBq := hid (HB2.out.trans (d.h.mono hbr))
            have cj := (CELL.out d.w d.h j (by omega)).trans (by rw [ha])
            have ck := (CELL.out d.w d.h (j - 1) (by omega)).trans (by rw [hb])
            have fj := HQ.out.frozenAt j
            have fk := HQ.out.frozenAt (j - 1)
            have hE := d.h
            clear HCC CELL
            generalize d.w = wq at *
            go_wp2_with fail
            go_region
            have HN := hid (show ((wq.setCell ⟨g, j, none⟩ (.int .i64 b)).setCell ⟨g, j - 1, none⟩ (.int .i64 a)).ownsRow base 3 1 (.slice (some ⟨g, 0, none⟩) D.length cap) D.length (flat encI (swp M j)) by
              have h1 := (HQ.out.stored j (.int .i64 b)).1
              have h2 := (h1.stored (j - 1) (.int .i64 a)).1
              unfold swp; rw [flatI_mp, List.map_set, List.map_set, ← flatI_mp, ha, hb]; exact h2)
            have hBn := (HBq.out.setCell (p := ⟨g, j, none⟩) hbg (.int .i64 b)).setCell (p := ⟨g, j - 1, none⟩) hbg (.int .i64 a)
            generalize (wq.setCell _ _).setCell _ _ = wn at *
            have HN2 := hid (ownD HN.out 1)
            have HBn2 := hid hBn.drew
            change Hid (wn.drew.ownsRow _ _ _ _ _ _) at HN2
            generalize wn.drew = wm at *
            clear cj ck fj fk HQ HR2 HR HO hBn HBq hE
            go_wp2
            go_roundw
            case rel => exact ⟨j - 1, swp M j, by omega, congrArg _ (by omega), hid (HI.out.step hj hji hlt ha hb HLt.out), HN2, HBn2⟩
            case measure => simp [intOf]; omega
          · have hcl : decide (cmpZ (at0 D a) (at0 D b) < 0) = false := by simp only [decide_eq_false_iff_not]; exact fun h => hl (hcm.1 h)
            have hcl' : ¬ cmpZ (at0 D a) (at0 D b) < 0 := fun h => hl (hcm.1 h)
            have HLt := hid (show at0 D b ≤ at0 D a by omega)
            clear hl hcm
            go_wp2_with fail
            refine wp_region_later wr (by kernel_rfl) (by kernel_rfl) (Below.refl _ _) ?_
            repeat (go_big_quiet_step ((go_at_call 60; exact ql (HCC.out _) rfl)))
            refine wpQuiet_nil ?_
            rintro _ ⟨d, rfl⟩
            go_wp2
            go_roundw
            case rel => exact ⟨i + 1, M, by omega, by omega, by go_num, hid (HI.out.stop hji hlt (.inr ⟨a, b, ha, hb, HLt.out⟩)), hid (ownE HR2.out d.h), hid (HB2.out.trans (d.h.mono hbr))⟩
            case measure => simp [intOf]; omega
        · obtain rfl : j = 0 := by omega
          go_wp2_with fail
          refine wp_region_later wr (by kernel_rfl) (by kernel_rfl) (Below.refl _ _) ?_
          repeat (go_big_quiet_step ((fail)))
          refine wpQuiet_nil ?_
          rintro _ ⟨d, rfl⟩
          go_wp2
          go_roundw
          case rel => exact ⟨i + 1, M, by omega, by omega, by go_num, hid (HI.out.stop hji hlt (.inl rfl)), hid (ownE HR2.out d.h), hid (HB2.out.trans (d.h.mono hbr))⟩
          case measure => simp [intOf]; omega
    · obtain rfl : i = D.length := by omega
      go_wp2
      go_end0
      exact ⟨rfl, ⟨L, HU.out, HR.out⟩, HB.out⟩
end Go.Proofs.Ytcocdigcmcpefaa
