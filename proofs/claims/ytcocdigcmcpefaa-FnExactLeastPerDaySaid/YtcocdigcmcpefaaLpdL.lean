/- LeastPerDay in both packages. -/
import Derived.Test.YtcocdigcmcpefaaLpdP
import Derived.Handy
namespace Go.Proofs.Ytcocdigcmcpefaa
set_option linter.unusedVariables false
open Go.RowKit
def leastO (xs : List Check) (frm : Int) : Option Nat := leastN (spreadB (duesOf xs) frm) 16 1
def leastR (xs : List Check) (frm : Int) : Int × Int :=
  if checksOkB xs then (if inB frm 0 100000 then (if xs.length = 0 then (0, 0) else (match leastO xs frm with | some n => ((n : Int), 0) | none => (0, 3))) else (0, 2)) else (0, 1)
theorem leastR_a {xs : List Check} (frm : Int) (h : checksOkB xs = false) : leastR xs frm = (0, 1) := by unfold leastR; rw [h]; rfl
theorem leastR_b {xs : List Check} {frm : Int} (h : checksOkB xs = true) (h2 : inB frm 0 100000 = false) : leastR xs frm = (0, 2) := by unfold leastR; rw [h, h2]; rfl
theorem leastR_c {xs : List Check} {frm : Int} (h : checksOkB xs = true) (h2 : inB frm 0 100000 = true) (h3 : xs.length = 0) : leastR xs frm = (0, 0) := by unfold leastR; rw [h, h2, if_pos rfl, if_pos rfl, if_pos h3]
theorem leastR_d {xs : List Check} {frm : Int} {n : Nat} (h : checksOkB xs = true) (h2 : inB frm 0 100000 = true) (h3 : ¬ xs.length = 0) (h4 : leastO xs frm = some n) : leastR xs frm = ((n : Int), 0) := by unfold leastR; rw [h, h2, if_pos rfl, if_pos rfl, if_neg h3, h4]
theorem leastR_e {xs : List Check} {frm : Int} (h : checksOkB xs = true) (h2 : inB frm 0 100000 = true) (h3 : ¬ xs.length = 0) (h4 : leastO xs frm = none) : leastR xs frm = (0, 3) := by unfold leastR; rw [h, h2, if_pos rfl, if_pos rfl, if_neg h3, h4]
theorem checks16 {xs : List Check} (h : checksOkB xs = true) : xs.length ≤ 16 := by unfold checksOkB at h; simp at h; exact h.1
set_option maxRecDepth 100000 in
set_option maxHeartbeats 1000000 in
theorem specLeastPerDay (xs : List Check) (frm : Int) (lo hi : Nat) (v : Value) (w : World) (hv : Sl lo hi w 3 v xs.length (flat Check.enc xs)) (hs : ∀ x ∈ xs, x.id.size ≤ maxLen) (hn : xs.length ≤ 1048576) :
    Calls Try.prog 26 #[v, .int .i64 frm] w fun e w' => e = .returned (.tuple #[.int .i64 (leastR xs frm).1, .int .i64 (leastR xs frm).2]) ∧ Ext w w' := by
  have HC := hid (fun (W : World) (hW : Ext w W) => checksSpec xs lo hi v W (hv.ext hW) hs hn)
  cases h1 : checksOkB xs
  · have HQ := hid (leastR_a frm h1)
    go_enter Try.func26, Try.ntmps26
    go_wp2_with (go_at_call 31; refine (cv (HC.out _ (Below.refl _ _)) (vb h1)).mono ?_; rintro e w1 ⟨rfl, hE⟩)
    go_ret2
    exact ⟨by rw [HQ.out]; rfl, hE⟩
  cases h2 : inB frm 0 100000
  · have HQ := hid (leastR_b h1 h2)
    go_enter Try.func26, Try.ntmps26
    go_wp2_with (first | (go_at_call 31; refine (cv (HC.out _ (Below.refl _ _)) (vb h1)).mono ?_; rintro e w1 ⟨rfl, hE⟩) | (go_at_call 40; refine (cv (l25Day _ _) (vb h2)).mono ?_; rintro e w' ⟨rfl, rfl⟩))
    go_ret2
    exact ⟨by rw [HQ.out]; rfl, hE⟩
  have hx16 := checks16 h1
  obtain ⟨_, _, A, c, rfl, _, _, _⟩ := id hv
  by_cases h3 : xs.length = 0
  · have HQ := hid (leastR_c h1 h2 h3)
    obtain rfl : xs = [] := List.length_eq_zero_iff.1 h3
    clear hv h3
    simp only [List.length_nil] at HC
    go_enter Try.func26, Try.ntmps26
    go_wp2_with (first | (go_at_call 31; refine (cv (HC.out _ (Below.refl _ _)) (vb h1)).mono ?_; rintro e w1 ⟨rfl, hE⟩) | (go_at_call 40; refine (cv (l25Day _ _) (vb h2)).mono ?_; rintro e w' ⟨rfl, rfl⟩))
    go_ret2
    exact ⟨by rw [HQ.out]; rfl, hE⟩
  have h3' : ((xs.length : Int) == 0) = false := by rw [beq_eq_false_iff_ne]; omega
  have H3 := hid h3
  clear h3
  have hf : 0 ≤ frm ∧ frm ≤ 100000 := by unfold inB at h2; simpa using h2
  have HS := hid (fun (n : Nat) (hn : 1 ≤ n ∧ n ≤ 16) (W : World) (hW : Ext w W) => l25Spread xs frm n lo hi _ W (hv.ext hW) h1 hx16 hf hn)
  clear hv
  go_enter Try.func26, Try.ntmps26
  go_wp2_with (first | (go_at_call 31; refine (cv (HC.out _ (Below.refl _ _)) (vb h1)).mono ?_; rintro e w1 ⟨rfl, hE⟩) | (go_at_call 40; refine (cv (l25Day _ _) (vb h2)).mono ?_; rintro e w' ⟨rfl, rfl⟩))
  go_loopw [6] (fun i W => ∃ k : Nat, k ≤ 16 ∧ i = .int .i64 (k + 1 : Nat) ∧ Hid (leastO xs frm = leastN (spreadB (duesOf xs) frm) (16 - k) (k + 1)) ∧ Hid (Ext w W)) (fun i _ => 17 - (intOf i).toNat)
  case atStart => exact ⟨0, by omega, rfl, hid rfl, hid hE⟩
  case round =>
    obtain ⟨k, hk, rfl, HL, HE⟩ := hrel
    by_cases hlt : k < 16
    · have e1 : 16 - k = (16 - (k + 1)) + 1 := by omega
      cases hp : spreadB (duesOf xs) frm (k + 1)
      · have HL2 := hid (HL.out.trans (by rw [e1, leastN_no _ _ _ hp]))
        clear e1
        go_wp2_with (go_at_call 47; refine (HS.out (k + 1) ⟨by omega, by omega⟩ _ HE.out).mono ?_; rintro e w2 ⟨⟨v2, he⟩, hE2⟩; rw [hp] at he; subst he)
        go_roundw
        case rel => exact ⟨k + 1, by omega, by go_num, HL2, hid (Ext.tr HE.out hE2)⟩
        case measure => simp [intOf]; omega
      · have HQ := hid (leastR_d h1 h2 H3.out (HL.out.trans (by rw [e1, leastN_yes _ _ _ hp])))
        clear e1
        go_wp2_with (go_at_call 47; refine (HS.out (k + 1) ⟨by omega, by omega⟩ _ HE.out).mono ?_; rintro e w2 ⟨⟨v2, he⟩, hE2⟩; rw [hp] at he; subst he)
        go_ret2
        exact ⟨by rw [HQ.out]; rfl, Ext.tr HE.out hE2⟩
    · obtain rfl : k = 16 := by omega
      have HQ := hid (leastR_e h1 h2 H3.out HL.out)
      go_wp2
      go_ret2
      exact ⟨by rw [HQ.out]; rfl, HE.out⟩
def optI (o : Option Nat) : Int := match o with | some n => (n : Int) | none => 0
set_option maxRecDepth 100000 in
theorem leastI (p : Nat → Bool) (p1 p2 : Value) (w : World) (hC : ∀ (n : Nat) (W : World), 1 ≤ n ∧ n ≤ 16 → Ext w W → Calls Try.prog 50 #[.int .i64 n, p1, p2] W fun e W' => e = .returned (.bool (p n)) ∧ Ext W W') :
    Calls Try.prog 49 #[.int .i64 1, .int .i64 16, .func (.func 50) #[] #[p1, p2]] w fun e w' => e = .returned (.tuple #[.int .i64 (optI (leastN p 16 1)), .bool (leastN p 16 1).isSome]) ∧ Ext w w' := by
  have HC := hid hC
  clear hC
  go_enter Try.func49, Try.ntmps49
  go_wp2
  go_loopw [8] (fun i W => ∃ k : Nat, k ≤ 16 ∧ i = .int .i64 (k + 1 : Nat) ∧ Hid (leastN p 16 1 = leastN p (16 - k) (k + 1)) ∧ Hid (Ext w W)) (fun i _ => 17 - (intOf i).toNat)
  case atStart => exact ⟨0, by omega, rfl, hid rfl, hid (Below.refl _ _)⟩
  case round =>
    obtain ⟨k, hk, rfl, HL, HE⟩ := hrel
    by_cases hlt : k < 16
    · have e1 : 16 - k = (16 - (k + 1)) + 1 := by omega
      cases hp : p (k + 1)
      · have HL2 := hid (HL.out.trans (by rw [e1, leastN_no _ _ _ hp]))
        clear e1
        go_wp2_with (go_at_call 50; refine (cv (HC.out (k + 1) _ ⟨by omega, by omega⟩ HE.out) (vb hp)).mono ?_; rintro e w2 ⟨rfl, hE2⟩)
        go_roundw
        case rel => exact ⟨k + 1, by omega, by go_num, HL2, hid (Ext.tr HE.out hE2)⟩
        case measure => simp [intOf]; omega
      · have HQ := hid (HL.out.trans (by rw [e1, leastN_yes _ _ _ hp]))
        clear e1
        go_wp2_with (go_at_call 50; refine (cv (HC.out (k + 1) _ ⟨by omega, by omega⟩ HE.out) (vb hp)).mono ?_; rintro e w2 ⟨rfl, hE2⟩)
        go_ret2
        exact ⟨by rw [HQ.out]; rfl, Ext.tr HE.out hE2⟩
    · obtain rfl : k = 16 := by omega
      go_wp2
      go_ret2
      exact ⟨by rw [HL.out]; rfl, HE.out⟩
theorem orNotF (a : Int) (b : Bool) (w : World) : Calls Try.prog 48 #[.int .i64 a, .bool b] w fun e w' => e = .returned (.tuple #[.int .i64 (if b then a else 0), .int .i64 (if b then 0 else 3)]) ∧ w = w' := by
  cases b
  all_goals
    go_enter Try.func48, Try.ntmps48
    go_wp2
    go_ret2
    exact ⟨rfl, rfl⟩
set_option maxRecDepth 100000 in
theorem leastCl (xs : List Check) (frm : Int) (n lo hi g1 g2 : Nat) (v : Value) (w : World) (hv : Sl lo hi w 3 v xs.length (flat Check.enc xs)) (hx : checksOkB xs = true) (hx0 : 0 < xs.length) (hx16 : xs.length ≤ 16) (hf : 0 ≤ frm ∧ frm ≤ 100000) (hn : 1 ≤ n ∧ n ≤ 16) (c1 : w.cell? ⟨g1, 0, none⟩ = some v) (c2 : w.cell? ⟨g2, 0, none⟩ = some (.int .i64 frm)) :
    Calls Try.prog 50 #[.int .i64 n, .pointer (some ⟨g1, 0, none⟩), .pointer (some ⟨g2, 0, none⟩)] w fun e w' => e = .returned (.bool (spreadB (duesOf xs) frm n)) ∧ Ext w w' := by
  have HS := hid (implSpread xs frm n lo hi v w hv hx hx0 hx16 hf hn)
  obtain ⟨_, _, A, c, rfl, _, _, _⟩ := id hv
  clear hv
  go_enter Try.func50, Try.ntmps50
  go_wp2_with (go_at_call 51; refine HS.out.mono ?_; rintro e w2 ⟨⟨v2, rfl⟩, hE2⟩)
  go_ret
  exact ⟨rfl, hE2⟩
set_option maxRecDepth 100000 in
set_option maxHeartbeats 1000000 in
theorem implLeastPerDay (xs : List Check) (frm : Int) (lo hi : Nat) (v : Value) (w : World) (hv : Sl lo hi w 3 v xs.length (flat Check.enc xs)) (hs : ∀ x ∈ xs, x.id.size ≤ maxLen) (hn : xs.length ≤ 1048576) :
    Calls Try.prog 27 #[v, .int .i64 frm] w fun e w' => e = .returned (.tuple #[.int .i64 (leastR xs frm).1, .int .i64 (leastR xs frm).2]) ∧ Ext w w' := by
  obtain ⟨_, _, A, c, rfl, _, _, _⟩ := id hv
  have HX : Hid (Ext w ((w.alloc (.cells #[.slice A xs.length c] 25)).alloc (.cells #[.int .i64 frm] 2))) := hid (Ext.tr (Ext.new _ _) (Ext.new _ _))
  have HB1 : Hid (Blk ((w.alloc (.cells #[.slice A xs.length c] 25)).alloc (.cells #[.int .i64 frm] 2)) w.heap.size 25 #[.slice A xs.length c]) := hid ((Blk.new _ _ _).ext (Ext.new _ _))
  have HB2 : Hid (Blk ((w.alloc (.cells #[.slice A xs.length c] 25)).alloc (.cells #[.int .i64 frm] 2)) (w.heap.size + 1) 2 #[.int .i64 frm]) := hid (by have := Blk.new (w.alloc (.cells #[.slice A xs.length c] 25)) 2 #[.int .i64 frm]; simpa using this)
  have HV := hid (hv.ext HX.out)
  have HC := hid (fun (W : World) hW => checksImpl xs lo hi (.slice A xs.length c) W (HV.out.ext hW) hs hn)
  clear hv
  cases h1 : checksOkB xs
  · have HQ := hid (leastR_a frm h1)
    go_enter Try.func27, Try.ntmps27
    go_wp2_with (go_at_call 12; refine (cv (HC.out _ (Below.refl _ _)) (vb h1)).mono ?_; rintro e w1 ⟨rfl, hE⟩; have q1 : w1.cell? ⟨w.heap.size, 0, none⟩ = some (.slice A xs.length c) := (HB1.out.ext hE).cell 0; have q2 : w1.cell? ⟨w.heap.size + 1, 0, none⟩ = some (.int .i64 frm) := (HB2.out.ext hE).cell 0)
    go_ret2
    exact ⟨by rw [HQ.out]; rfl, Ext.tr HX.out hE⟩
  cases h2 : inB frm 0 100000
  · have HQ := hid (leastR_b h1 h2)
    go_enter Try.func27, Try.ntmps27
    go_wp2_with (first | (go_at_call 12; refine (cv (HC.out _ (Below.refl _ _)) (vb h1)).mono ?_; rintro e w1 ⟨rfl, hE⟩; have q1 : w1.cell? ⟨w.heap.size, 0, none⟩ = some (.slice A xs.length c) := (HB1.out.ext hE).cell 0; have q2 : w1.cell? ⟨w.heap.size + 1, 0, none⟩ = some (.int .i64 frm) := (HB2.out.ext hE).cell 0) | (go_at_call 41; refine (cv (checkDay _ _) (vb h2)).mono ?_; rintro e w' ⟨rfl, rfl⟩))
    go_ret2
    exact ⟨by rw [HQ.out]; rfl, Ext.tr HX.out hE⟩
  have hx16 := checks16 h1
  by_cases h3 : xs.length = 0
  · have HQ := hid (leastR_c h1 h2 h3)
    obtain rfl : xs = [] := List.length_eq_zero_iff.1 h3
    clear h3
    simp only [List.length_nil] at HC HX HB1 HB2 HV ⊢
    go_enter Try.func27, Try.ntmps27
    go_wp2_with (first | (go_at_call 12; refine (cv (HC.out _ (Below.refl _ _)) (vb h1)).mono ?_; rintro e w1 ⟨rfl, hE⟩; have q1 : w1.cell? ⟨w.heap.size, 0, none⟩ = some (.slice A 0 c) := (HB1.out.ext hE).cell 0; have q2 : w1.cell? ⟨w.heap.size + 1, 0, none⟩ = some (.int .i64 frm) := (HB2.out.ext hE).cell 0) | (go_at_call 41; refine (cv (checkDay _ _) (vb h2)).mono ?_; rintro e w' ⟨rfl, rfl⟩))
    go_ret2
    exact ⟨by rw [HQ.out]; rfl, Ext.tr HX.out hE⟩
  have h3' : ((xs.length : Int) == 0) = false := by rw [beq_eq_false_iff_ne]; omega
  have H3 := hid h3
  have hx0 : 0 < xs.length := by omega
  have hf : 0 ≤ frm ∧ frm ≤ 100000 := by unfold inB at h2; simpa using h2
  clear h3
  have HS := hid (fun (W : World) (hW : Ext _ W) => leastI (spreadB (duesOf xs) frm) (.pointer (some ⟨w.heap.size, 0, none⟩)) (.pointer (some ⟨w.heap.size + 1, 0, none⟩)) W (fun n W2 hn hW2 => leastCl xs frm n lo hi w.heap.size (w.heap.size + 1) _ W2 (HV.out.ext (Ext.tr hW hW2)) h1 hx0 hx16 hf hn ((HB1.out.ext (Ext.tr hW hW2)).cell 0) ((HB2.out.ext (Ext.tr hW hW2)).cell 0)))
  cases hO : leastN (spreadB (duesOf xs) frm) 16 1 with
  | none =>
    have HQ := hid (leastR_e h1 h2 H3.out hO)
    go_enter Try.func27, Try.ntmps27
    go_wp2_with (first | (go_at_call 12; refine (cv (HC.out _ (Below.refl _ _)) (vb h1)).mono ?_; rintro e w1 ⟨rfl, hE⟩; have q1 : w1.cell? ⟨w.heap.size, 0, none⟩ = some (.slice A xs.length c) := (HB1.out.ext hE).cell 0; have q2 : w1.cell? ⟨w.heap.size + 1, 0, none⟩ = some (.int .i64 frm) := (HB2.out.ext hE).cell 0) | (go_at_call 41; refine (cv (checkDay _ _) (vb h2)).mono ?_; rintro e w' ⟨rfl, rfl⟩) | (go_at_call 49; refine (cv (HS.out _ hE) (show Value.tuple #[.int .i64 (optI (leastN (spreadB (duesOf xs) frm) 16 1)), .bool (leastN (spreadB (duesOf xs) frm) 16 1).isSome] = Value.tuple #[.int .i64 0, .bool false] by rw [hO]; rfl)).mono ?_; rintro e w2 ⟨rfl, hE2⟩) | (go_at_call 48; refine (orNotF _ _ _).mono ?_; rintro e w' ⟨rfl, rfl⟩))
    go_ret2
    exact ⟨by rw [HQ.out]; rfl, Ext.tr HX.out (Ext.tr hE hE2)⟩
  | some n =>
    have HQ := hid (leastR_d h1 h2 H3.out hO)
    go_enter Try.func27, Try.ntmps27
    go_wp2_with (first | (go_at_call 12; refine (cv (HC.out _ (Below.refl _ _)) (vb h1)).mono ?_; rintro e w1 ⟨rfl, hE⟩; have q1 : w1.cell? ⟨w.heap.size, 0, none⟩ = some (.slice A xs.length c) := (HB1.out.ext hE).cell 0; have q2 : w1.cell? ⟨w.heap.size + 1, 0, none⟩ = some (.int .i64 frm) := (HB2.out.ext hE).cell 0) | (go_at_call 41; refine (cv (checkDay _ _) (vb h2)).mono ?_; rintro e w' ⟨rfl, rfl⟩) | (go_at_call 49; refine (cv (HS.out _ hE) (show Value.tuple #[.int .i64 (optI (leastN (spreadB (duesOf xs) frm) 16 1)), .bool (leastN (spreadB (duesOf xs) frm) 16 1).isSome] = Value.tuple #[.int .i64 (n : Int), .bool true] by rw [hO]; rfl)).mono ?_; rintro e w2 ⟨rfl, hE2⟩) | (go_at_call 48; refine (orNotF _ _ _).mono ?_; rintro e w' ⟨rfl, rfl⟩))
    go_ret2
    exact ⟨by rw [HQ.out]; rfl, Ext.tr HX.out (Ext.tr hE hE2)⟩
end Go.Proofs.Ytcocdigcmcpefaa
