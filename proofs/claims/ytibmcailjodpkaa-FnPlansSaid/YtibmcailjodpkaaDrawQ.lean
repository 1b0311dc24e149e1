/- Drawn lists of drills. Contracts that tell sizes alone. -/
import Derived.Test.YtibmcailjodpkaaDrawP
import Derived.Test.YtibmcailjodpkaaAddS
namespace Go.Proofs.Ytibmcailjodpkaa
set_option linter.unusedVariables false
open Go.RowKit
theorem row_shapeQ {w : World} {base e K n : Nat} {v : Value} {xs : List Value} (h : w.ownsRow base e K v n xs) : Shape v n := by
  rcases h.2 with ⟨rfl, _⟩ | ⟨g, c, cur, rfl, _⟩
  · exact .inl rfl
  · exact .inr ⟨g, 0, c, rfl⟩
theorem row_lowQ {w : World} {base base' e K n : Nat} {v : Value} {xs : List Value} (h : w.ownsRow base e K v n xs) (hb : base' ≤ base) : w.ownsRow base' e K v n xs := by
  refine ⟨h.1, ?_⟩
  rcases h.2 with h0 | ⟨g, cap, cur, h1, h2, h3⟩
  · exact .inl h0
  · exact .inr ⟨g, cap, cur, h1, Nat.le_trans hb h2, h3⟩
theorem insD_mem {xs : List Drill} {x y : Drill} (h : y ∈ insD xs x) : y = x ∨ y ∈ xs := by
  unfold insD at h
  rcases List.mem_append.1 h with h | h
  · exact .inr (List.mem_of_mem_take h)
  · rcases List.mem_cons.1 h with h | h
    · exact .inl h
    · exact .inr (List.mem_of_mem_drop h)
theorem addR_ok {xs : List Drill} {x : Drill} (h : (addR xs x).2 = 0) : (addR xs x).1 = insD xs x := by
  cases h1 : drillsB xs
  · rw [addR_a x h1] at h; cases h
  cases h2 : drillB x
  · rw [addR_b h1 h2] at h; cases h
  cases h3 : hasD xs x
  · by_cases h4 : xs.length = 32
    · rw [addR_d h1 h2 h3 h4] at h; cases h
    · rw [addR_e h1 h2 h3 h4]
  · rw [addR_c h1 h2 h3] at h; cases h
def Crews10 (xs : List Drill) : Prop := ∀ x ∈ xs, x.crew.size ≤ 10
set_option maxRecDepth 100000 in
set_option maxHeartbeats 4000000 in
theorem drawDrills (g n : Nat) (w : World) (h : Src g n w) (hn : n ≤ 536870912) :
    Calls Try.prog 72 #[.pointer (some ⟨g, 0, none⟩)] w fun e w' => (∃ (v' : Value) (xs : List Drill), e = .returned v' ∧ xs.length ≤ 33 ∧ Crews10 xs ∧ w'.ownsRow w.heap.size 52 5 v' xs.length (flat Drill.enc xs)) ∧ SrcTo g (n + 200) w w' := by
  have hg := h.lt
  have H := hid h
  clear h
  go_enter Try.func72, Try.ntmps72
  go_wp2_with fail
  refine (srcPick g n 8 _ (H.out.ext (Ext.new _ _)) (by omega) ⟨by omega, by omega⟩).mono ?_
  rintro e w1 ⟨⟨q, rfl, hq0, hq1⟩, hS⟩
  have HS1 := hid ((SrcTo.of H.out (Ext.new w (.cells #[] 52))).tr hS)
  have HO1 := hid (row_keep (own_empty w w.heap.size 52 5 (Nat.le_refl _)) hS.2 (by omega))
  obtain ⟨q, rfl⟩ := Int.eq_ofNat_of_zero_le hq0
  clear hS
  go_wp2
  go_loopw [3, 4] (fun u i W => ∃ (k : Nat) (xs : List Drill), k ≤ q ∧ i = .int .i64 k ∧ Hid (xs.length + k ≤ q) ∧ Hid (Crews10 xs) ∧ Hid (W.ownsRow w.heap.size 52 5 u xs.length (flat Drill.enc xs)) ∧ Hid (SrcTo g (n + 2 + 10 * (q - k)) w W)) (fun _ i _ => (intOf i).toNat)
  case atStart => exact ⟨q, [], Nat.le_refl _, rfl, hid (by simp), hid (fun x hx => by cases hx), HO1, hid (HS1.out.more (by omega))⟩
  case round =>
    clear HO1 HS1
    obtain ⟨k, xs, hk, rfl, HL, HC, HO, HS⟩ := hrel
    obtain ⟨A3, c3, rfl⟩ : ∃ A c, u3 = .slice A xs.length c := by
      rcases HO.out.2 with ⟨rfl, h0⟩ | ⟨g', c, cur, rfl, _⟩
      · exact ⟨none, 0, by rw [h0]⟩
      · exact ⟨_, c, rfl⟩
    have hql := HL.out
    by_cases hlt : 0 < k
    · have hk' : (0 : Int) < k := by omega
      go_wp2_with fail
      refine (drillOne g (n + 2 + 10 * (q - k)) wr HS.out.1 (by omega)).mono ?_
      rintro e w2 ⟨⟨x, rfl, hx⟩, hS⟩
      have HX := hid hx
      have HS2 := hid (HS.out.tr hS)
      have HO2 := hid (row_keep HO.out hS.2 (by omega))
      clear hS hx HO HS
      have hz2 := HS2.out.size
      have HA := hid (specAddDrill xs x _ _ _ w2 (Sl.of_own HO2.out (by unfold maxLen; omega)) (row_shapeQ HO2.out) (fun y hy => by have := HC.out y hy; unfold maxLen; omega) (by omega) (by have := HX.out.1; unfold maxLen; omega))
      unfold dAgg
      go_wp2_with fail
      refine HA.out.mono ?_
      rintro e w3 ⟨⟨v3, rfl, hO3⟩, hE3⟩
      have HS3 := hid (HS2.out.ext hE3)
      have HO3 := hid (ownE HO2.out hE3)
      have HV3 := hid hO3
      clear hO3 hE3 HA HS2 HO2
      by_cases hc : (addR xs x).2 = 0
      · have hcb : ((addR xs x).2 == 0) = true := by simpa using hc
        have hins := addR_ok hc
        have hlen := insD_len xs x
        rw [hins] at HV3
        have HC2 : Hid (Crews10 (insD xs x)) := hid (fun y hy => by
          rcases insD_mem hy with rfl | hy
          · exact HX.out.1
          · exact HC.out y hy)
        clear hc hins
        go_wp2
        go_roundw
        case rel => exact ⟨k - 1, insD xs x, by omega, congrArg _ (by omega), hid (by omega), HC2, hid (row_lowQ HV3.out.row hz2), hid (HS3.out.more (by omega))⟩
        case measure => simp [intOf]; omega
      · have hcb : ((addR xs x).2 == 0) = false := by simpa using hc
        clear hc
        go_wp2
        go_roundw
        case rel => exact ⟨k - 1, xs, by omega, congrArg _ (by omega), hid (by omega), HC, HO3, hid (HS3.out.more (by omega))⟩
        case measure => simp [intOf]; omega
    · obtain rfl : k = 0 := by omega
      go_wp2_with fail
      refine (srcPick g (n + 2 + 10 * (q - 0)) 20 wr HS.out.1 (by omega) ⟨by omega, by omega⟩).mono ?_
      rintro e w2 ⟨⟨c, rfl, hc0, hc1⟩, hS⟩
      have HS2 := hid (HS.out.tr hS)
      have HO2 := hid (row_keep HO.out hS.2 (by omega))
      clear hS HO HS
      have hcc : c = 0 ∨ c = 1 ∨ (¬ c = 0 ∧ ¬ c = 1) := by omega
      rcases hcc with rfl | rfl | ⟨hn0, hn1⟩
      · go_wp2_with fail
        refine (drillOne g (n + 2 + 10 * (q - 0) + 2) w2 HS2.out.1 (by omega)).mono ?_
        rintro e w3 ⟨⟨x, rfl, hx⟩, hS⟩
        have HS3 := hid (HS2.out.tr hS)
        have HO3 := hid (row_keep HO2.out hS.2 (by omega))
        clear hS
        go_wp2_with fail
        refine (bendD g (n + 2 + 10 * (q - 0) + 2 + 10) x hx w3 HS3.out.1 (by omega)).mono ?_
        rintro e w4 ⟨⟨y, rfl, hy⟩, hS⟩
        have HS4 := hid (HS3.out.tr hS)
        have HO4 := hid (row_keep HO3.out hS.2 (by omega))
        have hz4 := HS4.out.size
        have HY := hid hy
        clear hS hx hy
        unfold dAgg
        go_wp2_with (at_builtin; refine wp_append1 w4 rfl (.tmp 30) (.tmp 35) _ rfl w.heap.size 52 5 48 _ Try.underlying25 infoDrill rfl (by omega) (by omega) _ _ _ HO4.out rfl [.int .i64 y.day, .string y.crew, .int .i64 y.persons, .int .i64 y.seconds, .int .i64 y.missing] rfl (by simp [Value.oneCell']) _ rfl rfl (by omega) hz4 ?_; intro v' w' ho' hb')
        go_ret
        exact ⟨⟨_, xs ++ [y], rfl, by simp; omega, fun z hz => by rcases List.mem_append.1 hz with hz | hz; exact HC.out z hz; rw [List.mem_singleton] at hz; subst hz; exact HY.out.1, by rw [flat_snoc, List.length_append]; exact ho'⟩, (HS4.out.below hb' (Nat.le_refl _) hz4 hg).more (by omega)⟩
      · go_wp2_with fail
        refine (amongLit g (n + 2 + 10 * (q - 0) + 2) [32, 33] w w2 HS2.out (by omega) (by simp) _ rfl _ rfl hg).mono ?_
        rintro e w3 ⟨⟨y, rfl, hy⟩, hS, _⟩
        obtain ⟨m, rfl, hm⟩ : ∃ m : Nat, y = (m : Int) ∧ m ≤ 33 := by
          simp only [List.mem_cons, List.not_mem_nil, or_false] at hy
          rcases hy with rfl | rfl
          · exact ⟨32, rfl, by omega⟩
          · exact ⟨33, rfl, by omega⟩
        have HS3 := hid hS
        have hz3 := hS.size
        clear hS hy
        go_wp2
        go_loopw [3, 8] (fun u i W => ∃ (k : Nat) (xs : List Drill), k ≤ m ∧ i = .int .i64 k ∧ Hid (xs.length = k) ∧ Hid (Crews10 xs) ∧ Hid (W.ownsRow w.heap.size 52 5 u k (flat Drill.enc xs)) ∧ Hid (SrcTo g (n + 2 + 10 * (q - 0) + 2 + 2) w W)) (fun _ i _ => m - (intOf i).toNat)
        case atStart => exact ⟨0, [], Nat.zero_le _, rfl, hid rfl, hid (fun x hx => by cases hx), hid (row_lowQ (own_empty w3 w3.heap.size 52 5 (Nat.le_refl _)) hz3), hid (HS3.out.ext (Ext.new _ _))⟩
        case round =>
          clear HO2 HS2 HS3
          obtain ⟨k, ys, hk2, rfl, HL2, HC2, HO2, HS2⟩ := hrel
          by_cases hlt2 : k < m
          · have hz := HS2.out.size
            have hkm : (k : Int) % 7 < 7 := Int.emod_lt_of_pos _ (by omega)
            have hkm0 : 0 ≤ (k : Int) % 7 := Int.emod_nonneg _ (by omega)
            go_wp2_with (at_builtin; refine wp_append1 wr rfl (.tmp 48) (.tmp 54) _ rfl w.heap.size 52 5 48 _ Try.underlying25 infoDrill rfl (by omega) (by omega) _ _ _ HO2.out rfl [.int .i64 k, .string ⟨#[101, 97, 115, 116]⟩, .int .i64 5, .int .i64 (100 + (k : Int) % 7), .int .i64 0] rfl (by simp [Value.oneCell']) _ rfl rfl (by omega) hz ?_; intro v' w' ho' hb')
            go_roundw
            case rel => exact ⟨k + 1, ys ++ [⟨k, ⟨#[101, 97, 115, 116]⟩, 5, 100 + (k : Int) % 7, 0⟩], by omega, by go_num, hid (by simp [HL2.out]), hid (fun z hz => by rcases List.mem_append.1 hz with hz | hz; exact HC2.out z hz; rw [List.mem_singleton] at hz; subst hz; exact (by decide : (⟨#[101, 97, 115, 116]⟩ : ByteArray).size ≤ 10)), hid (by rw [flat_snoc]; exact ho'), hid (HS2.out.below hb' (Nat.le_refl _) hz hg)⟩
            case measure => simp [intOf]; omega
          · obtain rfl : k = m := by omega
            go_wp2
            go_ret
            exact ⟨⟨_, ys, rfl, by rw [HL2.out]; exact hm, HC2.out, by rw [HL2.out]; exact HO2.out⟩, HS2.out.more (by omega)⟩
      · have e0 : (c == 0) = false := by simpa using hn0
        have e1 : (c == 1) = false := by simpa using hn1
        clear hn0 hn1
        go_wp2
        go_ret
        exact ⟨⟨_, xs, rfl, by omega, HC.out, HO2.out⟩, HS2.out.more (by omega)⟩
end Go.Proofs.Ytibmcailjodpkaa
