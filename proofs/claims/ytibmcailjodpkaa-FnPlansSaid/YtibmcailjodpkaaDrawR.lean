/- Drawn names of crews, days, intervals; the draw of the law on plans. Contracts that tell sizes alone. -/
import Derived.Test.YtibmcailjodpkaaDrawQ
import Derived.Test.YtibmcailjodpkaaDecS
import Derived.Test.YtibmcailjodpkaaApp2
import Derived.Test.YtibmcailjodpkaaStrs
import Derived.Handy
namespace Go.Proofs.Ytibmcailjodpkaa
set_option linter.unusedVariables false
open Go.RowKit
theorem decP9 (k : Nat) (h : k ≤ 100) : (decP k).size ≤ 13 := by have := dec_lenP k (by omega); unfold decP; show (Lib.decDigits k).toArray.size ≤ 13; simpa using this
def Names20 (cs : List ByteArray) : Prop := ∀ c ∈ cs, c.size ≤ 20
set_option maxRecDepth 100000 in
set_option maxHeartbeats 4000000 in
theorem drawCrews (g n : Nat) (w : World) (h : Src g n w) (hn : n ≤ 536870912) :
    Calls Try.prog 73 #[.pointer (some ⟨g, 0, none⟩)] w fun e w' => (∃ (v' : Value) (cs : List ByteArray), e = .returned v' ∧ cs.length ≤ 9 ∧ Names20 cs ∧ w'.ownsRow w.heap.size 9 1 v' cs.length (flat encT cs)) ∧ SrcTo g (n + 100) w w' := by
  have hg := h.lt
  have H := hid h
  clear h
  obtain ⟨nm, hnm⟩ : ∃ nm : List ByteArray, nm = [⟨#[100, 111, 119, 110]⟩, ⟨#[101, 97, 115, 116]⟩, ⟨#[110, 111, 114, 116, 104]⟩, ⟨#[115, 111, 117, 116, 104]⟩, ⟨#[119, 101, 115, 116]⟩] := ⟨_, rfl⟩
  have hnl : nm.length = 5 := by rw [hnm]; rfl
  have HNS : Hid (Names20 nm) := hid (by rw [hnm]; intro c hc; simp only [List.mem_cons, List.not_mem_nil, or_false] at hc; rcases hc with rfl | rfl | rfl | rfl | rfl <;> decide)
  have HN0 := hid (fun W : World => (show (W.alloc (.cells (flat encT nm).toArray 9)).ownsRow W.heap.size 9 1 (.slice (some ⟨W.heap.size, 0, none⟩) 5 5) 5 (flat encT nm) from by
    have := World.ownsRow_lit (base := W.heap.size) (size := 1) (e := 9) W (flat encT nm).toArray 5 (Nat.le_refl _) (by unfold maxLen; omega) (by rw [List.size_toArray, flat_length (K := 1) (fun _ => rfl), hnl])
    simpa using this))
  have HF := hid (show (flat encT nm).toArray = #[.string ⟨#[100, 111, 119, 110]⟩, .string ⟨#[101, 97, 115, 116]⟩, .string ⟨#[110, 111, 114, 116, 104]⟩, .string ⟨#[115, 111, 117, 116, 104]⟩, .string ⟨#[119, 101, 115, 116]⟩] by rw [hnm]; rfl)
  clear hnm
  go_enter Try.func73, Try.ntmps73
  go_wp2
  have HOn : Hid (((w.alloc (.cells #[] 9)).alloc (.cells #[.string ⟨#[100, 111, 119, 110]⟩, .string ⟨#[101, 97, 115, 116]⟩, .string ⟨#[110, 111, 114, 116, 104]⟩, .string ⟨#[115, 111, 117, 116, 104]⟩, .string ⟨#[119, 101, 115, 116]⟩] 9)).ownsRow (w.heap.size + 1) 9 1 (.slice (some ⟨w.heap.size + 1, 0, none⟩) 5 5) 5 (flat encT nm)) := hid (by
    have h := HN0.out (w.alloc (.cells #[] 9))
    rw [HF.out] at h
    simpa using h)
  go_loopw [3, 5] (fun u i W => ∃ (k : Nat) (cs : List ByteArray), k ≤ 5 ∧ i = .int .i64 k ∧ Hid (cs.length ≤ k) ∧ Hid (Names20 cs) ∧ Hid (W.ownsRow w.heap.size 9 1 u cs.length (flat encT cs)) ∧ Hid (W.ownsRow (w.heap.size + 1) 9 1 (.slice (some ⟨w.heap.size + 1, 0, none⟩) 5 5) 5 (flat encT nm)) ∧ Hid (Apart u (.slice (some ⟨w.heap.size + 1, 0, none⟩) 5 5)) ∧ Hid (SrcTo g (n + 2 * k) w W)) (fun _ i _ => 5 - (intOf i).toNat)
  case atStart => exact ⟨0, [], Nat.zero_le _, rfl, hid (Nat.le_refl _), hid (fun x hx => by cases hx), hid (ownE (own_empty w w.heap.size 9 1 (Nat.le_refl _)) (Ext.new _ _)), HOn, hid (fun b h1 h2 => by simp [Value.ownBlock] at h1 h2; omega), hid (SrcTo.of H.out (Ext.tr (Ext.new _ _) (Ext.new _ _)))⟩
  case round =>
    clear HOn
    obtain ⟨k, cs, hk, rfl, HL, HC, HO, HN, HA, HS⟩ := hrel
    by_cases hlt : k < 5
    · go_wp2_with fail
      refine (srcOne g (n + 2 * k) 2 wr HS.out.1 (by omega) ⟨by omega, by omega⟩).mono ?_
      rintro e w2 ⟨⟨b, rfl⟩, hS⟩
      have HS2 := hid (HS.out.tr hS)
      have HO2 := hid (row_keep HO.out hS.2 (by omega))
      have HN2 := hid (row_keep HN.out hS.2 (by omega))
      have hz2 := HS2.out.size
      clear hS HO HN HS
      have hql := HL.out
      cases b
      · go_wp2
        go_roundw
        case rel => exact ⟨k + 1, cs, by omega, by go_num, hid (by omega), HC, HO2, HN2, HA, hid (HS2.out.more (by omega))⟩
        case measure => simp [intOf]; omega
      · have hkn : k < nm.length := by omega
        have hki : (k : Int) < 5 := by omega
        have c0 : w2.cell? ⟨w.heap.size + 1, k, none⟩ = some (.string nm[k]) := by
          have h1 := flat_get (K := 1) (enc := encT) (fun _ => rfl) nm k hkn 0 (by omega)
          simp only [Nat.mul_one, Nat.add_zero] at h1
          rcases HN2.out.2 with ⟨h', _⟩ | ⟨g', cap', cur, h', _, hg', _, _, _, htake⟩
          · simp at h'
          · simp only [Value.slice.injEq, Option.some.injEq, Addr.mk.injEq, and_true, true_and] at h'
            obtain ⟨rfl, rfl⟩ := h'
            rw [cell_of_row w2 _ k cur 9 (0, 0) hg']
            exact take_get htake h1
        have HX := hid (HNS.out nm[k] (List.getElem_mem _))
        generalize nm[k] = s at *
        go_wp2_with (at_builtin; refine wp_append2 w2 w2.heap.size rfl rfl (.tmp 18) (.tmp 23) _ rfl w.heap.size 9 1 16 _ Try.underlying39 infoStr rfl (by omega) (by omega) _ _ _ HO2.out rfl [.string s] rfl (by simp [Value.oneCell']) _ rfl rfl (by omega) hz2 _ _ _ _ _ _ HN2.out HA.out ?_; intro v' w' ho' hb' hn' ha')
        go_roundw
        case rel => exact ⟨k + 1, cs ++ [s], by omega, by go_num, hid (by simp; omega), hid (fun z hz => by rcases List.mem_append.1 hz with hz | hz; exact HC.out z hz; rw [List.mem_singleton] at hz; subst hz; exact HX.out), hid (by rw [flat_snoc, List.length_append]; exact ho'), hid hn', hid ha', hid ((HS2.out.below hb' (Nat.le_refl _) hz2 hg).more (by omega))⟩
        case measure => simp [intOf]; omega
    · obtain rfl : k = 5 := by omega
      clear HN HA
      have hql := HL.out
      go_wp2_with fail
      refine (srcPick g (n + 2 * 5) 18 wr HS.out.1 (by omega) ⟨by omega, by omega⟩).mono ?_
      rintro e w2 ⟨⟨c, rfl, hc0, hc1⟩, hS⟩
      have HS2 := hid (HS.out.tr hS)
      have HO2 := hid (row_keep HO.out hS.2 (by omega))
      clear hS HO HS
      have hcc : c = 0 ∨ c = 1 ∨ (¬ c = 0 ∧ ¬ c = 1) := by omega
      rcases hcc with rfl | rfl | ⟨hn0, hn1⟩
      · go_wp2_with fail
        refine (textLit g (n + 2 * 5 + 2) [⟨#[65]⟩, ⟨#[]⟩, ⟨#[100, 111, 119, 110]⟩] w w2 HS2.out (by omega) (by simp) _ rfl _ rfl hg).mono ?_
        rintro e w3 ⟨⟨s, rfl, hs⟩, hS3, hK3⟩
        have HX : Hid (s.size ≤ 20) := hid (by
          simp only [List.mem_cons, List.not_mem_nil, or_false] at hs
          rcases hs with rfl | rfl | rfl <;> decide)
        have HS3 := hid hS3
        have HO3 := hid (row_keep HO2.out hK3 (by omega))
        have hz3 := hS3.size
        clear hS3 hK3 hs
        go_wp2_with (at_builtin; refine wp_append1 w3 rfl (.tmp 29) (.tmp 33) _ rfl w.heap.size 9 1 16 _ Try.underlying39 infoStr rfl (by omega) (by omega) _ _ _ HO3.out rfl [.string s] rfl (by simp [Value.oneCell']) _ rfl rfl (by omega) hz3 ?_; intro v' w' ho' hb')
        go_ret
        exact ⟨⟨_, cs ++ [s], rfl, by simp; omega, fun z hz => by rcases List.mem_append.1 hz with hz | hz; exact HC.out z hz; rw [List.mem_singleton] at hz; subst hz; exact HX.out, by rw [flat_snoc, List.length_append]; exact ho'⟩, (HS3.out.below hb' (Nat.le_refl _) hz3 hg).more (by omega)⟩
      · go_wp2_with fail
        refine (amongLit g (n + 2 * 5 + 2) [8, 9] w w2 HS2.out (by omega) (by simp) _ rfl _ rfl hg).mono ?_
        rintro e w3 ⟨⟨y, rfl, hy⟩, hS, _⟩
        obtain ⟨m, rfl, hm⟩ : ∃ m : Nat, y = (m : Int) ∧ m ≤ 9 := by
          simp only [List.mem_cons, List.not_mem_nil, or_false] at hy
          rcases hy with rfl | rfl
          · exact ⟨8, rfl, by omega⟩
          · exact ⟨9, rfl, by omega⟩
        have HS3 := hid hS
        have hz3 := hS.size
        clear hS hy
        go_wp2
        go_loopw [3, 7] (fun u i W => ∃ (k : Nat) (cs : List ByteArray), k ≤ m ∧ i = .int .i64 k ∧ Hid (cs.length = k) ∧ Hid (Names20 cs) ∧ Hid (W.ownsRow w.heap.size 9 1 u k (flat encT cs)) ∧ Hid (SrcTo g (n + 2 * 5 + 2 + 2) w W)) (fun _ i _ => m - (intOf i).toNat)
        case atStart => exact ⟨0, [], Nat.zero_le _, rfl, hid rfl, hid (fun x hx => by cases hx), hid (row_lowQ (own_empty w3 w3.heap.size 9 1 (Nat.le_refl _)) hz3), hid (HS3.out.ext (Ext.new _ _))⟩
        case round =>
          clear HO2 HS2 HS3
          obtain ⟨k, ys, hk2, rfl, HL2, HC2, HO2, HS2⟩ := hrel
          by_cases hlt2 : k < m
          · go_wp2_with fail
            refine (l01DecP k wr (by omega)).mono ?_
            rintro e w4 ⟨rfl, hE4⟩
            have hds := decP9 k (by omega)
            generalize decP k = d at *
            have HS4 := hid (HS2.out.ext hE4)
            have HO4 := hid (ownE HO2.out hE4)
            have hz4 := HS4.out.size
            clear hE4
            have hsz : ((⟨#[110]⟩ : ByteArray) ++ d).size ≤ 20 := by rw [ByteArray.size_append]; have : (⟨#[110]⟩ : ByteArray).size = 1 := rfl; omega
            go_wp2_with (at_builtin; refine wp_append1 w4 rfl (.tmp 46) (.tmp 50) _ rfl w.heap.size 9 1 16 _ Try.underlying39 infoStr rfl (by omega) (by omega) _ _ _ HO4.out rfl [.string (⟨#[110]⟩ ++ d)] rfl (by simp [Value.oneCell']) _ rfl rfl (by omega) hz4 ?_; intro v' w' ho' hb')
            go_roundw
            case rel => exact ⟨k + 1, ys ++ [⟨#[110]⟩ ++ d], by omega, by go_num, hid (by simp [HL2.out]), hid (fun z hz => by rcases List.mem_append.1 hz with hz | hz; exact HC2.out z hz; rw [List.mem_singleton] at hz; subst hz; exact hsz), hid (by rw [flat_snoc]; exact ho'), hid (HS4.out.below hb' (Nat.le_refl _) hz4 hg)⟩
            case measure => simp [intOf]; omega
          · obtain rfl : k = m := by omega
            go_wp2
            go_ret
            exact ⟨⟨_, ys, rfl, by rw [HL2.out]; exact hm, HC2.out, by rw [HL2.out]; exact HO2.out⟩, HS2.out.more (by omega)⟩
      · have e0 : (c == 0) = false := by simpa using hn0
        have e1 : (c == 1) = false := by simpa using hn1
        clear hn0 hn1
        go_wp2
        go_ret
        exact ⟨⟨_, cs, rfl, by omega, HC.out, HO2.out⟩, HS2.out.more (by omega)⟩
theorem drawDay (g n : Nat) (w : World) (h : Src g n w) (hn : n ≤ 536870912) :
    Calls Try.prog 74 #[.pointer (some ⟨g, 0, none⟩)] w fun e w' => (∃ d : Int, e = .returned (.int .i64 d)) ∧ SrcTo g (n + 4) w w' := by
  have hg := h.lt
  have H := hid h
  clear h
  go_enter Try.func74, Try.ntmps74
  go_wp2_with fail
  refine (srcOne g n 9 w H.out (by omega) ⟨by omega, by omega⟩).mono ?_
  rintro e w1 ⟨⟨b, rfl⟩, hS⟩
  have HS := hid hS
  clear hS
  cases b
  · go_wp2_with fail
    refine (srcPick g (n + 2) 80 w1 HS.out.1 (by omega) ⟨by omega, by omega⟩).mono ?_
    rintro e w2 ⟨⟨r, rfl, _, _⟩, hS⟩
    have HS2 := hid (HS.out.tr hS)
    clear hS
    go_wp2
    go_ret
    exact ⟨⟨r, rfl⟩, HS2.out⟩
  · go_wp2_with fail
    refine (amongLit g (n + 2) [-1, 0, 100000, 100001] w w1 HS.out (by omega) (by simp) _ rfl _ rfl hg).mono ?_
    rintro e w2 ⟨⟨r, rfl, _⟩, hS, _⟩
    have HS2 := hid hS
    clear hS
    go_wp2
    go_ret
    exact ⟨⟨r, rfl⟩, HS2.out⟩
theorem drawInterval (g n : Nat) (w : World) (h : Src g n w) (hn : n ≤ 536870912) :
    Calls Try.prog 75 #[.pointer (some ⟨g, 0, none⟩)] w fun e w' => (∃ d : Int, e = .returned (.int .i64 d)) ∧ SrcTo g (n + 2) w w' := by
  have hg := h.lt
  have H := hid (SrcTo.of h (Below.refl _ _))
  clear h
  go_enter Try.func75, Try.ntmps75
  go_wp2_with fail
  refine (amongLit g n [1, 7, 14, 30, 1000, 1001, 0] w w H.out (by omega) (by simp) _ rfl _ rfl hg).mono ?_
  rintro e w2 ⟨⟨r, rfl, _⟩, hS, _⟩
  have HS2 := hid hS
  clear hS
  go_wp2
  go_ret
  exact ⟨⟨r, rfl⟩, HS2.out⟩
end Go.Proofs.Ytibmcailjodpkaa
