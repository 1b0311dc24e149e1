/- Contracts of AncestorsOf and CommonAncestor in both packages. -/
import Derived.Test.YthffakaddohlnaaWLine
import Derived.Test.YthffakaddohlnaaOff
import Derived.Test.YthffakaddohlnaaAppN
import Derived.Test.YthffakaddohlnaaFind
namespace Go.Proofs.Ythffakaddohlnaa
set_option linter.unusedVariables false
open Go.RowKit
def ancR (xs : List Version) (n : Int) : List Int × Int := if histB xs then (if numOk xs n then (above xs n.toNat, 0) else ([], 3)) else ([], 1)
theorem ancR_no {xs : List Version} {n : Int} (h : histB xs = false) : ancR xs n = ([], 1) := by unfold ancR; rw [h]; rfl
theorem ancR_num {xs : List Version} {n : Int} (h : histB xs = true) (h2 : numOk xs n = false) : ancR xs n = ([], 3) := by unfold ancR; rw [h, h2]; rfl
theorem ancR_ok {xs : List Version} {n : Nat} (h : histB xs = true) (h2 : numOk xs n = true) : ancR xs n = (above xs n, 0) := by unfold ancR; rw [h, h2]; simp
theorem numOk_nat {xs : List Version} {n : Int} (h : numOk xs n = true) : ∃ m : Nat, n = (m : Int) ∧ 1 ≤ m ∧ m ≤ xs.length := by
  unfold numOk inB at h
  simp only [Bool.and_eq_true, decide_eq_true_eq] at h
  exact ⟨n.toNat, by omega, by omega, by omega⟩
theorem above_len (xs : List Version) (n : Nat) : (above xs n).length ≤ n := by have := line_len xs n n; unfold above; simp; omega
theorem specAncestorsOf (xs : List Version) (n : Int) (lo hi : Nat) (v : Value) (w : World) (hv : SlV lo hi w v xs) (hs : ∀ x ∈ xs, okV x) (hn : totN nV xs + xs.length ≤ 1048576) :
    Calls Try.prog 40 #[v, .int .i64 n] w fun e w' => (∃ v', e = .returned (.tuple #[v', .int .i64 (ancR xs n).2]) ∧ OwnO w.heap.size w'.heap.size w' v' (ancR xs n).1.length (flat encI (ancR xs n).1)) ∧ Ext w w' := by
  cases h1 : histB xs
  · have HQ := hid (ancR_no (n := n) h1)
    go_enter Try.func40, Try.ntmps40
    go_wp2_with (go_at_call 57; refine (cv (l27Ok xs lo hi v _ hv hs hn) (vb h1)).mono ?_; rintro e w1 ⟨rfl, hE⟩)
    go_ret2
    exact ⟨⟨_, by rw [HQ.out]; rfl, by rw [HQ.out]; exact (Own.nil _ _ hE).o⟩, hE⟩
  cases h2 : numOk xs n
  · have HQ := hid (ancR_num h1 h2)
    go_enter Try.func40, Try.ntmps40
    go_wp2_with (first | (go_at_call 57; refine (cv (l27Ok xs lo hi v _ hv hs hn) (vb h1)).mono ?_; rintro e w1 ⟨rfl, hE⟩) | (go_at_call 64; refine (cv (l27Number xs n lo hi v _ (hv.ext hE) (by omega)) (vb h2)).mono ?_; rintro e w' ⟨rfl, rfl⟩))
    go_ret2
    exact ⟨⟨_, by rw [HQ.out]; rfl, by rw [HQ.out]; exact (Own.nil _ _ hE).o⟩, hE⟩
  · obtain ⟨m, rfl, hm1, hm2⟩ := numOk_nat h2
    have HQ := hid (ancR_ok h1 h2)
    have H1 := hid h1
    go_enter Try.func40, Try.ntmps40
    go_wp2_with (first | (go_at_call 57; refine (cv (l27Ok xs lo hi v _ hv hs hn) (vb H1.out)).mono ?_; rintro e w1 ⟨rfl, hE⟩) | (go_at_call 64; refine (cv (l27Number xs m lo hi v _ (hv.ext hE) (by omega)) (vb h2)).mono ?_; rintro e w' ⟨rfl, rfl⟩) | (go_at_call 70; refine (l27Above xs m lo hi v _ (hv.ext hE) H1.out hm1 hm2).mono ?_; rintro e w2 ⟨⟨v', rfl, hO⟩, hE2⟩))
    go_ret2
    have hO' := (hO.more (lo' := w.heap.size) hE.size (Nat.le_refl _) (Nat.le_refl _)).o
    exact ⟨⟨_, by rw [HQ.out]; rfl, by rw [HQ.out]; exact hO'⟩, Ext.tr hE hE2⟩
theorem tailO {lo hi lo' : Nat} {w : World} {g c off : Nat} {a : Int} {bs : List Int} {cs : Array Value} (h1 : hi ≤ w.heap.size) (hn : bs.length ≤ 2097151) (hlo : lo ≤ g) (hlo' : lo' ≤ lo) (hhi : g < hi) (hnc : bs.length + 1 ≤ c) (hcm : c ≤ maxLen) (hB : Blk w g 2 cs) (hcs : cs.size = c * 1) (hxs : cs.toList.take ((bs.length + 1) * 1) = flat encI (a :: bs)) (ho : off = 1 ∨ bs.length = 0 ∧ off = 0) : OwnO lo' hi w (.slice (some ⟨g, off, none⟩) bs.length (c - 1)) bs.length (flat encI bs) := by
  refine ⟨h1, by omega, flat_length encI_len bs, .inr ⟨g, off, c - 1, cs, rfl, by omega, hhi, by omega, by omega, hB, by omega, by unfold maxLen at *; omega, fun j hj => ?_⟩⟩
  rcases ho with rfl | ⟨h0, rfl⟩
  · have h2 : cs[1 + j]? = (flat encI (a :: bs))[1 + j]? := by
      rw [← hxs, List.getElem?_take, if_pos (by omega)]; simp
    rw [h2]
    show (encI a ++ flat encI bs)[1 + j]? = _
    rw [List.getElem?_append_right (by simp [encI])]
    simp [encI]
  · omega
theorem implAncestorsOf (xs : List Version) (n : Int) (lo hi : Nat) (v : Value) (w : World) (hv : SlV lo hi w v xs) (hs : ∀ x ∈ xs, okV x) (hn : totN nV xs + xs.length ≤ 1048576) :
    Calls Try.prog 41 #[v, .int .i64 n] w fun e w' => (∃ v', e = .returned (.tuple #[v', .int .i64 (ancR xs n).2]) ∧ OwnO w.heap.size w'.heap.size w' v' (ancR xs n).1.length (flat encI (ancR xs n).1)) ∧ Ext w w' := by
  have hEn := Ext.new w (.cells #[.int .i64 n] 2)
  have hSn : Sl w.heap.size (w.heap.size + 1) (w.alloc (.cells #[.int .i64 n] 2)) 1 (.slice (some ⟨w.heap.size, 0, none⟩) 1 1) [n].length (flat encI [n]) := by
    refine ⟨by simp, rfl, _, 1, rfl, Nat.le_refl _, by simp [maxLen], fun _ => ⟨_, 0, rfl, Nat.le_refl _, Nat.lt_succ_self _, fun j u hu => ?_⟩⟩
    have hj : j < 1 := by have := (List.getElem?_eq_some_iff.1 hu).1; simpa [flat, encI] using this
    obtain rfl : j = 0 := by omega
    simp [flat, encI] at hu
    subst hu
    simp [go_sem]
  have hin : allIn [n] 1 xs.length = numOk xs n := by simp [allIn, numOk]
  have HV := hid (show verCode xs [n] = (ancR xs n).2 by
    unfold verCode ancR; rw [hin]; cases histB xs <;> cases numOk xs n <;> simp)
  clear hin
  cases h1 : histB xs
  · have HQ := hid (ancR_no (n := n) h1)
    go_enter Try.func41, Try.ntmps41
    go_wp2_with (go_at_call 66; refine (cv (versionsCode xs [n] lo hi _ _ v _ _ (hv.ext hEn) hs hn hSn (by simp)) (by rw [HV.out, HQ.out])).mono ?_; rintro e w1 ⟨rfl, hE⟩)
    go_ret2
    exact ⟨⟨_, by rw [HQ.out]; rfl, by rw [HQ.out]; exact (Own.nil _ _ (Ext.tr hEn hE)).o⟩, Ext.tr hEn hE⟩
  cases h2 : numOk xs n
  · have HQ := hid (ancR_num h1 h2)
    go_enter Try.func41, Try.ntmps41
    go_wp2_with (go_at_call 66; refine (cv (versionsCode xs [n] lo hi _ _ v _ _ (hv.ext hEn) hs hn hSn (by simp)) (by rw [HV.out, HQ.out])).mono ?_; rintro e w1 ⟨rfl, hE⟩)
    go_ret2
    exact ⟨⟨_, by rw [HQ.out]; rfl, by rw [HQ.out]; exact (Own.nil _ _ (Ext.tr hEn hE)).o⟩, Ext.tr hEn hE⟩
  · obtain ⟨m, rfl, hm1, hm2⟩ := numOk_nat h2
    have HQ := hid (ancR_ok h1 h2)
    have H1 := hid h1
    clear h1 h2
    go_enter Try.func41, Try.ntmps41
    go_wp2_with fail
    refine (cv (versionsCode xs [(m : Int)] lo hi _ _ v _ _ (hv.ext hEn) hs hn hSn (by simp)) (by rw [HV.out, HQ.out])).mono ?_
    rintro e w1 ⟨rfl, hE⟩
    go_wp2_with fail
    refine (lineOf xs m lo hi v _ (hv.ext (Ext.tr hEn hE)) H1.out hm2).mono ?_
    rintro e w2 ⟨⟨v', rfl, hO⟩, hE2⟩
    have hal := above_len xs m
    have h32 := hist_len H1.out
    have hLn : line xs m m = (m : Int) :: above xs m := by obtain ⟨m', rfl⟩ : ∃ m', m = m' + 1 := ⟨m - 1, by omega⟩; exact above_cons xs m'
    rw [hLn] at hO
    have hEE := Ext.tr (Ext.tr hEn hE) hE2
    clear hLn
    generalize above xs m = bs at *
    rw [List.length_cons] at hO
    obtain ⟨h01, hn2, hl, ⟨rfl, h03⟩ | ⟨g, c, cs, rfl, hlo, hhi, hnc, hcm, hB, hcs, hxs⟩⟩ := hO
    · omega
    have hlo' : w.heap.size ≤ w1.heap.size := Nat.le_trans hEn.size hE.size
    by_cases hc1 : c = 1
    · have hO := tailO (lo' := w.heap.size) (off := 0) h01 (by omega) hlo hlo' hhi hnc hcm hB hcs hxs (.inr ⟨by omega, rfl⟩)
      subst hc1
      obtain rfl : bs = [] := List.eq_nil_of_length_eq_zero (by omega)
      have HO := hid hO
      clear hO hB hcs hxs hcm
      go_wp2
      go_ret2
      exact ⟨⟨_, by rw [HQ.out]; rfl, by rw [HQ.out]; exact HO.out⟩, hEE⟩
    · have hO := tailO (lo' := w.heap.size) (off := 1) h01 (by omega) hlo hlo' hhi hnc hcm hB hcs hxs (.inl rfl)
      have HO := hid hO
      clear hO hB hcs hxs hcm
      go_wp2
      go_ret2
      exact ⟨⟨_, by rw [HQ.out]; rfl, by rw [HQ.out]; exact HO.out⟩, hEE⟩
theorem own_one (w : World) (base e : Nat) (x : Value) (hb : base ≤ w.heap.size) : (w.alloc (.cells #[x] e)).ownsRow base e 1 (.slice (some ⟨w.heap.size, 0, none⟩) 1 1) 1 [x] :=
  ⟨rfl, .inr ⟨w.heap.size, 1, #[x], rfl, hb, heap_alloc_new w _, Nat.le_refl _, by simp [maxLen], rfl, rfl⟩⟩
theorem encI_one : ∀ x, ∀ y ∈ encI x, y.oneCell' = true := by intro x y hy; simp [encI] at hy; subst hy; rfl
/-! ### the last version from which two come -/
def comTo (xs ys : List Int) : Int := (xs.find? (hasI ys)).getD 0
theorem com_at {xs ys : List Int} (k : Nat) (hk : k < xs.length) (hall : ∀ j (h : j < xs.length), j < k → hasI ys xs[j] = false) (hp : hasI ys xs[k] = true) : comTo xs ys = xs[k] := by
  unfold comTo
  rw [List.find?_eq_some_iff_getElem.2 ⟨hp, k, hk, rfl, fun j hj => by simp [hall j (by omega) hj]⟩]; rfl
theorem com_no {xs ys : List Int} (h : ∀ j (hj : j < xs.length), hasI ys xs[j] = false) : comTo xs ys = 0 := by
  unfold comTo
  rw [List.find?_eq_none.2 (fun x hx => by obtain ⟨j, hj, rfl⟩ := List.getElem_of_mem hx; simp [h j hj])]; rfl
def comR (xs : List Version) (a b : Int) : Int × Int := if histB xs then (if numOk xs a && numOk xs b then (comTo (line xs a.toNat a.toNat) (line xs b.toNat b.toNat), 0) else (0, 3)) else (0, 1)
theorem comR_no {xs : List Version} {a b : Int} (h : histB xs = false) : comR xs a b = (0, 1) := by unfold comR; rw [h]; rfl
theorem comR_num {xs : List Version} {a b : Int} (h : histB xs = true) (h2 : (numOk xs a && numOk xs b) = false) : comR xs a b = (0, 3) := by unfold comR; rw [h, h2]; rfl
theorem comR_ok {xs : List Version} {a b : Nat} (h : histB xs = true) (h2 : numOk xs a = true) (h3 : numOk xs b = true) : comR xs a b = (comTo (line xs a a) (line xs b b), 0) := by unfold comR; rw [h, h2, h3]; simp
set_option maxRecDepth 100000 in
theorem commonAncestor (xs : List Version) (a b : Nat) (lo hi : Nat) (v : Value) (w : World) (hv : SlV lo hi w v xs) (hh : histB xs = true) (ha : a ≤ xs.length) (hb : b ≤ xs.length) :
    Calls Try.prog 67 #[v, .int .i64 a, .int .i64 b] w fun e w' => e = .returned (.int .i64 (comTo (line xs a a) (line xs b b))) ∧ Ext w w' := by
  have h32 := hist_len hh
  have HH := hid hh
  clear hh
  have hla := line_len xs a a
  have hlb := line_len xs b b
  go_enter Try.func67, Try.ntmps67
  go_wp2_with fail
  refine (lineOf xs b lo hi v _ hv HH.out hb).mono ?_
  rintro e w1 ⟨⟨v1, rfl, hO1⟩, hE1⟩
  go_wp2_with fail
  refine (lineOf xs a lo hi v _ (hv.ext hE1) HH.out ha).mono ?_
  rintro e w2 ⟨⟨v2, rfl, hO2⟩, hE2⟩
  replace hO1 := hO1.ext hE2
  have hEE := Ext.tr hE1 hE2
  generalize hA : line xs a a = as0 at *
  generalize hB : line xs b b = bs at *
  have HA := hid hA
  have HB := hid hB
  clear hA hB
  have hs1 := hO1.sl
  have hs2 := hO2.sl
  clear hO1 hO2
  obtain ⟨hhi, _, A, c, rfl, hnc, hcm, hcell⟩ := hs2
  go_wp2
  go_loop [17] (fun i => ∃ (k : Nat), k ≤ as0.length ∧ i = .int .i64 k ∧ Hid (∀ j (h : j < as0.length), j < k → hasI bs as0[j] = false)) (fun i => as0.length - (intOf i).toNat)
  case atStart => exact ⟨0, Nat.zero_le _, rfl, hid (fun j h hj => absurd hj (by omega))⟩
  case round =>
    obtain ⟨k, hk, rfl, hall⟩ := hrel
    by_cases hlt : k < as0.length
    · obtain ⟨b', off, rfl, hb1, hb2, hc⟩ := hcell (by omega)
      have c0 := cellsI hc k hlt
      clear hc
      cases hp : hasI bs as0[k]
      · go_wp2_with (go_at_call 82; refine (cv (contains bs as0[k] _ _ v1 _ hs1 (by omega)) (vb hp)).mono ?_; rintro e w' ⟨rfl, rfl⟩)
        go_round
        case rel => exact ⟨k + 1, by omega, by go_num, hid (fun j h hj => by rcases Nat.lt_succ_iff_lt_or_eq.1 hj with h1 | rfl; exact hall.out j h h1; exact hp)⟩
        case measure => simp [intOf]; omega
      · have HY := hid (com_at k hlt hall.out hp)
        go_wp2_with (go_at_call 82; refine (cv (contains bs as0[k] _ _ v1 _ hs1 (by omega)) (vb hp)).mono ?_; rintro e w' ⟨rfl, rfl⟩)
        go_ret
        exact ⟨ret_int (by rw [HA.out, HB.out]; exact HY.out.symm), hEE⟩
    · obtain rfl : k = as0.length := by omega
      go_wp2
      go_ret
      exact ⟨ret_int (by rw [HA.out, HB.out]; exact (com_no fun j h => hall.out j h h).symm), hEE⟩
set_option maxRecDepth 100000 in
set_option maxHeartbeats 1000000 in
theorem l27Common (xs : List Version) (a b : Nat) (lo hi : Nat) (v : Value) (w : World) (hv : SlV lo hi w v xs) (hh : histB xs = true) (ha1 : 1 ≤ a) (ha : a ≤ xs.length) (hb1 : 1 ≤ b) (hb : b ≤ xs.length) :
    Calls Try.prog 65 #[v, .int .i64 a, .int .i64 b] w fun e w' => e = .returned (.int .i64 (comTo (line xs a a) (line xs b b))) ∧ Ext w w' := by
  have h32 := hist_len hh
  have HH := hid hh
  clear hh
  have hla := above_len xs a
  have hlb := above_len xs b
  have HA := hid (show line xs a a = (a : Int) :: above xs a by obtain ⟨m', rfl⟩ : ∃ m', a = m' + 1 := ⟨a - 1, by omega⟩; exact above_cons xs m')
  have HB := hid (show line xs b b = (b : Int) :: above xs b by obtain ⟨m', rfl⟩ : ∃ m', b = m' + 1 := ⟨b - 1, by omega⟩; exact above_cons xs m')
  go_enter Try.func65, Try.ntmps65
  go_wp2_with fail
  have o1 := own_one w w.heap.size 2 (.int .i64 a) (Nat.le_refl _)
  generalize hG : w.alloc _ = wz at *
  have hEz : Ext w wz := by rw [← hG]; exact Ext.new _ _
  clear hG
  refine (l27Above xs a lo hi v _ (hv.ext hEz) HH.out ha1 ha).mono ?_
  rintro e w1 ⟨⟨v1, rfl, hO1⟩, hE1⟩
  replace o1 := ownE o1 hE1
  have hz1 := Nat.le_trans hEz.size hE1.size
  have hE1' := Ext.tr hEz hE1
  go_wp2_with (at_builtin; refine wp_appendN w1 rfl (.tmp 11) (.tmp 14) _ rfl w.heap.size 2 1 8 _ Try.underlying47 infoInt rfl (by omega) (by omega) _ _ _ o1 rfl _ _ _ v1 _ hO1.sl hO1.shape rfl (flat_one encI_one _) (by omega) hz1 ?_; intro v2 w2 ho2 hb2)
  have hE2' := hE1'.trans hb2
  have s2 := Sl.of_own ho2 (by unfold maxLen; omega)
  have e2 : [Value.int .i64 a] ++ flat encI (above xs a) = flat encI (line xs a a) := by rw [HA.out]; rfl
  have l2 : 1 + (above xs a).length = (line xs a a).length := by rw [HA.out]; simp; omega
  rw [e2, l2] at s2
  have o3 := own_one w2 w2.heap.size 2 (.int .i64 b) (Nat.le_refl _)
  clear ho2 hO1 o1 e2 l2
  generalize hG : w2.alloc _ = wy at *
  have hEy : Ext w2 wy := by rw [← hG]; exact Ext.new _ _
  clear hG
  refine (l27Above xs b lo hi v _ (hv.ext (Ext.tr hE2' hEy)) HH.out hb1 hb).mono ?_
  rintro e w3 ⟨⟨v3, rfl, hO3⟩, hE3⟩
  replace o3 := ownE o3 hE3
  have hz3 := Nat.le_trans hEy.size hE3.size
  go_wp2_with (at_builtin; refine wp_appendN w3 rfl (.tmp 17) (.tmp 20) _ rfl w2.heap.size 2 1 8 _ Try.underlying47 infoInt rfl (by omega) (by omega) _ _ _ o3 rfl _ _ _ v3 _ hO3.sl hO3.shape rfl (flat_one encI_one _) (by omega) hz3 ?_; intro v4 w4 ho4 hb4)
  have hE4 := (Ext.tr hEy hE3).trans hb4
  have s4 := Sl.of_own ho4 (by unfold maxLen; omega)
  have e4 : [Value.int .i64 b] ++ flat encI (above xs b) = flat encI (line xs b b) := by rw [HB.out]; rfl
  have l4 : 1 + (above xs b).length = (line xs b b).length := by rw [HB.out]; simp; omega
  rw [e4, l4] at s4
  have hlna : (line xs a a).length ≤ 33 := by rw [HA.out]; simp; omega
  have hlnb : (line xs b b).length ≤ 33 := by rw [HB.out]; simp; omega
  replace s2 := s2.ext hE4
  have hEE := Ext.tr hE2' hE4
  clear ho4 hO3 o3 e4 l4 HA HB hla hlb
  generalize hA : line xs a a = as0 at *
  generalize hB : line xs b b = bs at *
  have HA := hid hA
  have HB := hid hB
  clear hA hB
  obtain ⟨hhi2, _, A2, c2, rfl, hnc2, hcm2, hcell2⟩ := s2
  have s4' := s4
  obtain ⟨_, _, A4, c4, rfl, _, _, _⟩ := s4'
  go_wp2
  go_loop [9] (fun i => ∃ (k : Nat), k ≤ as0.length ∧ i = .int .i64 k ∧ Hid (∀ j (h : j < as0.length), j < k → hasI bs as0[j] = false)) (fun i => as0.length - (intOf i).toNat)
  case atStart => exact ⟨0, Nat.zero_le _, rfl, hid (fun j h hj => absurd hj (by omega))⟩
  case round =>
    obtain ⟨k, hk, rfl, hall⟩ := hrel
    by_cases hlt : k < as0.length
    · obtain ⟨b', off, rfl, hb1', hb2', hc⟩ := hcell2 (by omega)
      have c0 := cellsI hc k hlt
      clear hc
      cases hp : hasI bs as0[k]
      · go_wp2_with (go_at_call 80; refine (cv (l00Has bs as0[k] _ _ _ _ s4 (by omega)) (vb hp)).mono ?_; rintro e w' ⟨rfl, rfl⟩)
        go_round
        case rel => exact ⟨k + 1, by omega, by go_num, hid (fun j h hj => by rcases Nat.lt_succ_iff_lt_or_eq.1 hj with h1 | rfl; exact hall.out j h h1; exact hp)⟩
        case measure => simp [intOf]; omega
      · have HY := hid (com_at k hlt hall.out hp)
        go_wp2_with (go_at_call 80; refine (cv (l00Has bs as0[k] _ _ _ _ s4 (by omega)) (vb hp)).mono ?_; rintro e w' ⟨rfl, rfl⟩)
        go_ret
        exact ⟨ret_int (by rw [HA.out, HB.out]; exact HY.out.symm), hEE⟩
    · obtain rfl : k = as0.length := by omega
      go_wp2
      go_ret
      exact ⟨ret_int (by rw [HA.out, HB.out]; exact (com_no fun j h => hall.out j h h).symm), hEE⟩
theorem specCommonAncestor (xs : List Version) (a b : Int) (lo hi : Nat) (v : Value) (w : World) (hv : SlV lo hi w v xs) (hs : ∀ x ∈ xs, okV x) (hn : totN nV xs + xs.length ≤ 1048576) :
    Calls Try.prog 32 #[v, .int .i64 a, .int .i64 b] w fun e w' => e = .returned (.tuple #[.int .i64 (comR xs a b).1, .int .i64 (comR xs a b).2]) ∧ Ext w w' := by
  cases h1 : histB xs
  · have HQ := hid (comR_no (a := a) (b := b) h1)
    go_enter Try.func32, Try.ntmps32
    go_wp2_with (go_at_call 57; refine (cv (l27Ok xs lo hi v _ hv hs hn) (vb h1)).mono ?_; rintro e w1 ⟨rfl, hE⟩)
    go_ret2
    exact ⟨by rw [HQ.out]; rfl, hE⟩
  cases h2 : numOk xs a
  · have HQ := hid (comR_num (a := a) (b := b) h1 (by rw [h2]; rfl))
    go_enter Try.func32, Try.ntmps32
    go_wp2_with (first | (go_at_call 57; refine (cv (l27Ok xs lo hi v _ hv hs hn) (vb h1)).mono ?_; rintro e w1 ⟨rfl, hE⟩) | (go_at_call 64; refine (cv (l27Number xs a lo hi v _ (hv.ext hE) (by omega)) (vb h2)).mono ?_; rintro e w' ⟨rfl, rfl⟩))
    go_ret2
    exact ⟨by rw [HQ.out]; rfl, hE⟩
  cases h3 : numOk xs b
  · have HQ := hid (comR_num (a := a) (b := b) h1 (by rw [h2, h3]; rfl))
    go_enter Try.func32, Try.ntmps32
    go_wp2_with fail
    refine (cv (l27Ok xs lo hi v _ hv hs hn) (vb h1)).mono ?_
    rintro e w1 ⟨rfl, hE⟩
    go_wp2_with fail
    refine (cv (l27Number xs a lo hi v _ (hv.ext hE) (by omega)) (vb h2)).mono ?_
    rintro e w' ⟨rfl, rfl⟩
    go_wp2_with fail
    refine (cv (l27Number xs b lo hi v _ (hv.ext hE) (by omega)) (vb h3)).mono ?_
    rintro e w' ⟨rfl, rfl⟩
    go_wp2
    go_ret2
    exact ⟨by rw [HQ.out]; rfl, hE⟩
  · obtain ⟨m, rfl, hm1, hm2⟩ := numOk_nat h2
    obtain ⟨q, rfl, hq1, hq2⟩ := numOk_nat h3
    have HQ := hid (comR_ok h1 h2 h3)
    have H1 := hid h1
    clear h1
    go_enter Try.func32, Try.ntmps32
    go_wp2_with fail
    refine (cv (l27Ok xs lo hi v _ hv hs hn) (vb H1.out)).mono ?_
    rintro e w1 ⟨rfl, hE⟩
    go_wp2_with fail
    refine (cv (l27Number xs m lo hi v _ (hv.ext hE) (by omega)) (vb h2)).mono ?_
    rintro e w' ⟨rfl, rfl⟩
    go_wp2_with fail
    refine (cv (l27Number xs q lo hi v _ (hv.ext hE) (by omega)) (vb h3)).mono ?_
    rintro e w' ⟨rfl, rfl⟩
    go_wp2_with fail
    refine (l27Common xs m q lo hi v _ (hv.ext hE) H1.out hm1 hm2 hq1 hq2).mono ?_
    rintro e w2 ⟨rfl, hE2⟩
    go_wp2
    go_ret2
    exact ⟨by rw [HQ.out]; rfl, Ext.tr hE hE2⟩
theorem implCommonAncestor (xs : List Version) (a b : Int) (lo hi : Nat) (v : Value) (w : World) (hv : SlV lo hi w v xs) (hs : ∀ x ∈ xs, okV x) (hn : totN nV xs + xs.length ≤ 1048576) :
    Calls Try.prog 33 #[v, .int .i64 a, .int .i64 b] w fun e w' => e = .returned (.tuple #[.int .i64 (comR xs a b).1, .int .i64 (comR xs a b).2]) ∧ Ext w w' := by
  have hEn := Ext.new w (.cells #[.int .i64 a, .int .i64 b] 2)
  have hSn : Sl w.heap.size (w.heap.size + 1) (w.alloc (.cells #[.int .i64 a, .int .i64 b] 2)) 1 (.slice (some ⟨w.heap.size, 0, none⟩) 2 2) [a, b].length (flat encI [a, b]) := by
    refine ⟨by simp, rfl, _, 2, rfl, Nat.le_refl _, by simp [maxLen], fun _ => ⟨_, 0, rfl, Nat.le_refl _, Nat.lt_succ_self _, fun j u hu => ?_⟩⟩
    have hj : j < 2 := by have := (List.getElem?_eq_some_iff.1 hu).1; simpa [flat, encI] using this
    have e : j = 0 ∨ j = 1 := by omega
    rcases e with rfl | rfl
    · simp [flat, encI] at hu
      subst hu
      simp [go_sem]
    · simp [flat, encI] at hu
      subst hu
      simp [go_sem]
  have hin : allIn [a, b] 1 xs.length = (numOk xs a && numOk xs b) := by simp [allIn, numOk]
  have HV := hid (show verCode xs [a, b] = (comR xs a b).2 by
    unfold verCode comR; rw [hin]; cases histB xs <;> cases (numOk xs a && numOk xs b) <;> simp)
  clear hin
  cases h1 : histB xs
  · have HQ := hid (comR_no (a := a) (b := b) h1)
    go_enter Try.func33, Try.ntmps33
    go_wp2_with (go_at_call 66; refine (cv (versionsCode xs [a, b] lo hi _ _ v _ _ (hv.ext hEn) hs hn hSn (by simp)) (by rw [HV.out, HQ.out])).mono ?_; rintro e w1 ⟨rfl, hE⟩)
    go_ret2
    exact ⟨by rw [HQ.out]; rfl, Ext.tr hEn hE⟩
  cases h2 : (numOk xs a && numOk xs b)
  · have HQ := hid (comR_num h1 h2)
    go_enter Try.func33, Try.ntmps33
    go_wp2_with (go_at_call 66; refine (cv (versionsCode xs [a, b] lo hi _ _ v _ _ (hv.ext hEn) hs hn hSn (by simp)) (by rw [HV.out, HQ.out])).mono ?_; rintro e w1 ⟨rfl, hE⟩)
    go_ret2
    exact ⟨by rw [HQ.out]; rfl, Ext.tr hEn hE⟩
  · rw [Bool.and_eq_true] at h2
    obtain ⟨m, rfl, hm1, hm2⟩ := numOk_nat h2.1
    obtain ⟨q, rfl, hq1, hq2⟩ := numOk_nat h2.2
    have HQ := hid (comR_ok h1 h2.1 h2.2)
    have H1 := hid h1
    clear h1 h2
    go_enter Try.func33, Try.ntmps33
    go_wp2_with fail
    refine (cv (versionsCode xs [(m : Int), (q : Int)] lo hi _ _ v _ _ (hv.ext hEn) hs hn hSn (by simp)) (by rw [HV.out, HQ.out])).mono ?_
    rintro e w1 ⟨rfl, hE⟩
    go_wp2_with fail
    refine (commonAncestor xs m q lo hi v _ (hv.ext (Ext.tr hEn hE)) H1.out hm2 hq2).mono ?_
    rintro e w2 ⟨rfl, hE2⟩
    go_wp2
    go_ret2
    exact ⟨by rw [HQ.out]; rfl, Ext.tr (Ext.tr hEn hE) hE2⟩
end Go.Proofs.Ythffakaddohlnaa
