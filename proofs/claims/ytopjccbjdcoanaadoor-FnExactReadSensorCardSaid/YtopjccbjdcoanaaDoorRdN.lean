/- The reference's number of a text, whole: every text of at most 2^20 bytes. -/
import Derived.Test.YtopjccbjdcoanaaDoorRdS
namespace Go.Proofs.YtopjccbjdcoanaaDoor
set_option linter.unusedVariables false
open Go.RowKit
theorem negB_no0 {s : ByteArray} (h : s.size = 0) : negB s.data.toList = false := by
  have h2 : s.data.toList.length = 0 := h
  have : s.data.toList = [] := List.length_eq_zero_iff.1 h2
  rw [this]; rfl
theorem negB_at {s : ByteArray} (h : 0 < s.size) : negB s.data.toList = (s[0] == 45) := by
  have h2 : 0 < s.data.toList.length := h
  have e : s.data.toList.head? = some s[0] := by rw [List.head?_eq_getElem?, List.getElem?_eq_getElem h2]; rfl
  unfold negB; rw [e]; simp
theorem tail_of {s : ByteArray} {a : Nat} (h : negB s.data.toList = decide (a = 1)) (ha : a = 0 ∨ a = 1) : tailL s.data.toList = s.data.toList.drop a := by
  unfold tailL; rw [h]
  rcases ha with rfl | rfl <;> rfl
theorem drop_head {s : ByteArray} {a : Nat} (h : a < s.size) : (s.data.toList.drop a).head? = some s[a] := by
  have h2 : a < s.data.toList.length := h
  rw [List.head?_drop, List.getElem?_eq_getElem h2]; rfl
theorem drop_len (s : ByteArray) (a : Nat) : (s.data.toList.drop a).length = s.size - a := by rw [List.length_drop]; rfl
theorem bad_len {s : ByteArray} {a : Nat} (ht : tailL s.data.toList = s.data.toList.drop a) (h : s.size = a ∨ 18 < s.size - a) : headBad s.data.toList = true := by
  unfold headBad; rw [ht, drop_len]
  rcases h with h | h
  · have : s.data.toList.drop a = [] := List.length_eq_zero_iff.1 (by rw [drop_len]; omega)
    rw [this]; simp
  · simp [h]
theorem bad_zero {s : ByteArray} {a : Nat} (ht : tailL s.data.toList = s.data.toList.drop a) (ha : a < s.size) (h : s[a] = 48) (h1 : 1 < s.size) : headBad s.data.toList = true := by
  have h2 : 1 < s.data.toList.length := h1
  unfold headBad; rw [ht, drop_head ha, h]; simp [h1]
theorem bad_no {s : ByteArray} {a : Nat} (ht : tailL s.data.toList = s.data.toList.drop a) (ha : a < s.size) (h18 : s.size - a ≤ 18) (h : s[a] ≠ 48 ∨ s.size ≤ 1) : headBad s.data.toList = false := by
  have h2 : s.data.toList.length = s.size := rfl
  have hne : s.data.toList.drop a ≠ [] := fun e => by have := congrArg List.length e; rw [drop_len] at this; simp at this; omega
  unfold headBad; rw [ht, drop_head ha, drop_len, h2]
  simp only [Bool.or_eq_false_iff, Bool.and_eq_false_iff, decide_eq_false_iff_not]
  refine ⟨⟨hne, by omega⟩, ?_⟩
  rcases h with h | h
  · left; intro e; exact h (by simpa using e)
  · right; omega
theorem valN_lt (l : List UInt8) : (∀ b ∈ l, digL b = true) → valN l < 10 ^ l.length := by
  refine snoc_ind (P := fun l => (∀ b ∈ l, digL b = true) → valN l < 10 ^ l.length) (fun _ => by simp [valN]) (fun l b ih hd => ?_) l
  have h1 := ih (fun x hx => hd x (by simp [hx]))
  have h2 := digL_bd (hd b (by simp))
  rw [valN_snoc, List.length_append, List.length_singleton, Nat.pow_succ]
  omega
theorem pow_le17 {n : Nat} (h : n ≤ 17) : 10 ^ n ≤ 100000000000000000 := by
  have : (10 : Nat) ^ n ≤ 10 ^ 17 := Nat.pow_le_pow_right (by omega) h
  have e : (10 : Nat) ^ 17 = 100000000000000000 := by decide
  omega
theorem all_of_take {s : ByteArray} {a : Nat} (h : ∀ b ∈ (s.data.toList.drop a).take (s.size - a), digL b = true) : (s.data.toList.drop a).all digL = true := by
  rw [List.take_of_length_le (by rw [drop_len]; omega)] at h
  exact List.all_eq_true.2 h
theorem all_fail {s : ByteArray} {a k : Nat} (hak : a ≤ k) (h : k < s.size) (hd : digL s[k] = false) : (s.data.toList.drop a).all digL = false := by
  have h2 : k < s.data.toList.length := h
  rw [Bool.eq_false_iff]; intro hh
  have hm : s.data.toList[k] ∈ s.data.toList.drop a := by
    rw [drop_at hak h2]; simp
  have := List.all_eq_true.1 hh _ hm
  have e : s.data.toList[k] = s[k] := rfl
  rw [e, hd] at this; cases this
def numR (l : List UInt8) : Int := (numberL l).getD 0
def numO (l : List UInt8) : Bool := (numberL l).isSome
theorem numR_bad {l : List UInt8} (h : headBad l = true) : numR l = 0 ∧ numO l = false := by unfold numR numO; rw [numberL_bad h]; exact ⟨rfl, rfl⟩
theorem numR_no {l : List UInt8} (h : headBad l = false) (h2 : (tailL l).all digL = false) : numR l = 0 ∧ numO l = false := by unfold numR numO; rw [numberL_no h h2]; exact ⟨rfl, rfl⟩
theorem numR_yes {l : List UInt8} (h : headBad l = false) (h2 : (tailL l).all digL = true) : numR l = sgnV l ∧ numO l = true := by unfold numR numO; rw [numberL_yes h h2]; exact ⟨rfl, rfl⟩
set_option maxRecDepth 100000 in
set_option maxHeartbeats 1000000 in
theorem l01NumberPos (s : ByteArray) (w : World) (hs : s.size ≤ 1048576) (hneg : negB s.data.toList = false) :
    Calls Tryd.prog 36 #[.string s] w fun e w' => e = .returned (.tuple #[.int .i64 (numR s.data.toList), .bool (numO s.data.toList)]) ∧ w = w' := by
  have hta : tailL s.data.toList = s.data.toList.drop 0 := tail_of (by rw [hneg]; rfl) (.inl rfl)
  by_cases hz : s.size = 0
  · have HR := hid (numR_bad (bad_len hta (.inl hz)))
    go_enter Tryd.func36, Tryd.ntmps36
    go_wp2
    go_ret2
    exact ⟨by rw [HR.out.1, HR.out.2]; rfl, rfl⟩
  have h0 : ¬ (s[0]'(by omega)).toNat = 45 := fun e => by
    rw [negB_at (by omega), beq_eq_false_iff_ne] at hneg
    exact hneg (UInt8.toNat_inj.1 e)
  have h0i : ¬ ((s[0]'(by omega)).toNat : Int) = 45 := by omega
  have h1 : ¬ s.size = 0 := hz
  have hi : 0 < s.size := by omega
  by_cases h18 : 18 < s.size - 0
  · have HR := hid (numR_bad (bad_len hta (.inr h18)))
    go_enter Tryd.func36, Tryd.ntmps36
    go_wp2
    go_ret2
    exact ⟨by rw [HR.out.1, HR.out.2]; rfl, rfl⟩
  by_cases h48 : (s[0]'hi).toNat = 48 ∧ 1 < s.size
  · obtain ⟨h48a, h48b⟩ := h48
    have HR := hid (numR_bad (bad_zero hta (by omega) (UInt8.toNat_inj.1 h48a) h48b))
    have h48i : ((s[0]'hi).toNat : Int) = 48 := by omega
    go_enter Tryd.func36, Tryd.ntmps36
    go_wp2
    go_ret2
    exact ⟨by rw [HR.out.1, HR.out.2]; rfl, rfl⟩
  have HG := hid (bad_no hta (by omega) (by omega) (by
    by_cases h : s[0]'hi = 48
    · right
      have : (s[0]'hi).toNat = 48 := by rw [h]; rfl
      omega
    · exact .inl h))
  have hok : ((s[0]'hi).toNat : Int) = 48 → ¬ (1 : Int) < s.size := by omega
  by_cases h48i : ((s[0]'hi).toNat : Int) = 48
  · have h48s : ¬ (1 : Int) < s.size := hok h48i
    have hq : ((s.size : Int) == 0) = false := by rw [beq_eq_false_iff_ne]; omega
    have hq2 : decide ((18 : Int) < (s.size : Int)) = false := by rw [decide_eq_false_iff_not]; omega
    clear hok
    go_enter Tryd.func36, Tryd.ntmps36
    go_wp2
    go_loop [5, 6] (fun n i => ∃ k m : Nat, 0 ≤ k ∧ k ≤ s.size ∧ i = .int .i64 k ∧ n = .int .i64 m ∧ Hid (m = valN ((s.data.toList.drop 0).take (k - 0))) ∧ Hid (∀ b ∈ (s.data.toList.drop 0).take (k - 0), digL b = true)) (fun _ i => s.size - (intOf i).toNat)
    case atStart => exact ⟨0, 0, Nat.le_refl _, by omega, rfl, rfl, hid (by simp [valN]), hid (by simp)⟩
    case round =>
      obtain ⟨k, m, hak, hk, rfl, rfl, HM0, HD⟩ := hrel
      have hsl : s.data.toList.length = s.size := rfl
      by_cases hlt : k < s.size
      · have hlt' : k < s.data.toList.length := hlt
        have HM := hid (take_more hak hlt')
        have hv0 := valN_lt _ HD.out
        have hv1 := pow_le17 (n := ((s.data.toList.drop 0).take (k - 0)).length) (by rw [List.length_take, drop_len]; omega)
        have hv2 : m ≤ 100000000000000000 := by have := HM0.out; omega
        clear hv0 hv1
        cases hdg : digL s[k]
        · have HR := hid (numR_no HG.out (by rw [hta]; exact all_fail hak hlt hdg))
          have hdg' : digitB (s[k].toNat : Int) = false := hdg
          go_wp2_with (go_at_call 31; refine (cv (l01Digit _ _) (vb hdg')).mono ?_; rintro e w' ⟨rfl, rfl⟩)
          go_ret2
          exact ⟨by rw [HR.out.1, HR.out.2]; rfl, rfl⟩
        · have hdg' : digitB (s[k].toNat : Int) = true := hdg
          have hbd := digL_bd hdg
          have hN : ∀ v : Nat, (10 * (v : Int) + ((s[k].toNat : Int) - 48)) = ((10 * v + (s[k].toNat - 48) : Nat) : Int) := fun v => by omega
          have HV := hid (show 10 * m + (s[k].toNat - 48) = valN ((s.data.toList.drop 0).take (k + 1 - 0)) by rw [HM.out, valN_snoc, ← HM0.out]; rfl)
          have HD2 := hid (show ∀ b ∈ (s.data.toList.drop 0).take (k + 1 - 0), digL b = true by
            rw [HM.out]; intro b hb
            rcases List.mem_append.1 hb with hb | hb
            · exact HD.out b hb
            · obtain rfl := List.mem_singleton.1 hb; exact hdg)
          go_wp2_with (go_at_call 31; refine (cv (l01Digit _ _) (vb hdg')).mono ?_; rintro e w' ⟨rfl, rfl⟩)
          go_round
          case rel => exact ⟨k + 1, _, by omega, by omega, by go_num, by congr 1, HV, HD2⟩
          case measure => simp [intOf]; omega
      · obtain rfl : k = s.size := by omega
        have HR := hid (numR_yes HG.out (by rw [hta]; exact all_of_take HD.out))
        have HS := hid (show sgnV s.data.toList = (m : Int) by rw [HM0.out]; unfold sgnV; rw [hneg, hta, List.take_of_length_le (by rw [drop_len]; omega)]; rfl)
        have hv0 := valN_lt _ HD.out
        have hv1 : valN ((s.data.toList.drop 0).take (s.size - 0)) < 10 ^ 18 := Nat.lt_of_lt_of_le hv0 (Nat.pow_le_pow_right (by omega) (by rw [List.length_take, drop_len]; omega))
        have hv2 : (10 : Nat) ^ 18 = 1000000000000000000 := by decide
        have hv3 : m ≤ 1000000000000000000 := by rw [HM0.out]; omega
        clear hv0 hv1 hv2
        go_wp2
        go_ret2
        exact ⟨by rw [HR.out.1, HR.out.2, HS.out]; rfl, rfl⟩
  · have u_ := True.intro
    have hq : ((s.size : Int) == 0) = false := by rw [beq_eq_false_iff_ne]; omega
    have hq2 : decide ((18 : Int) < (s.size : Int)) = false := by rw [decide_eq_false_iff_not]; omega
    clear hok
    go_enter Tryd.func36, Tryd.ntmps36
    go_wp2
    go_loop [5, 6] (fun n i => ∃ k m : Nat, 0 ≤ k ∧ k ≤ s.size ∧ i = .int .i64 k ∧ n = .int .i64 m ∧ Hid (m = valN ((s.data.toList.drop 0).take (k - 0))) ∧ Hid (∀ b ∈ (s.data.toList.drop 0).take (k - 0), digL b = true)) (fun _ i => s.size - (intOf i).toNat)
    case atStart => exact ⟨0, 0, Nat.le_refl _, by omega, rfl, rfl, hid (by simp [valN]), hid (by simp)⟩
    case round =>
      obtain ⟨k, m, hak, hk, rfl, rfl, HM0, HD⟩ := hrel
      have hsl : s.data.toList.length = s.size := rfl
      by_cases hlt : k < s.size
      · have hlt' : k < s.data.toList.length := hlt
        have HM := hid (take_more hak hlt')
        have hv0 := valN_lt _ HD.out
        have hv1 := pow_le17 (n := ((s.data.toList.drop 0).take (k - 0)).length) (by rw [List.length_take, drop_len]; omega)
        have hv2 : m ≤ 100000000000000000 := by have := HM0.out; omega
        clear hv0 hv1
        cases hdg : digL s[k]
        · have HR := hid (numR_no HG.out (by rw [hta]; exact all_fail hak hlt hdg))
          have hdg' : digitB (s[k].toNat : Int) = false := hdg
          go_wp2_with (go_at_call 31; refine (cv (l01Digit _ _) (vb hdg')).mono ?_; rintro e w' ⟨rfl, rfl⟩)
          go_ret2
          exact ⟨by rw [HR.out.1, HR.out.2]; rfl, rfl⟩
        · have hdg' : digitB (s[k].toNat : Int) = true := hdg
          have hbd := digL_bd hdg
          have hN : ∀ v : Nat, (10 * (v : Int) + ((s[k].toNat : Int) - 48)) = ((10 * v + (s[k].toNat - 48) : Nat) : Int) := fun v => by omega
          have HV := hid (show 10 * m + (s[k].toNat - 48) = valN ((s.data.toList.drop 0).take (k + 1 - 0)) by rw [HM.out, valN_snoc, ← HM0.out]; rfl)
          have HD2 := hid (show ∀ b ∈ (s.data.toList.drop 0).take (k + 1 - 0), digL b = true by
            rw [HM.out]; intro b hb
            rcases List.mem_append.1 hb with hb | hb
            · exact HD.out b hb
            · obtain rfl := List.mem_singleton.1 hb; exact hdg)
          go_wp2_with (go_at_call 31; refine (cv (l01Digit _ _) (vb hdg')).mono ?_; rintro e w' ⟨rfl, rfl⟩)
          go_round
          case rel => exact ⟨k + 1, _, by omega, by omega, by go_num, by congr 1, HV, HD2⟩
          case measure => simp [intOf]; omega
      · obtain rfl : k = s.size := by omega
        have HR := hid (numR_yes HG.out (by rw [hta]; exact all_of_take HD.out))
        have HS := hid (show sgnV s.data.toList = (m : Int) by rw [HM0.out]; unfold sgnV; rw [hneg, hta, List.take_of_length_le (by rw [drop_len]; omega)]; rfl)
        have hv0 := valN_lt _ HD.out
        have hv1 : valN ((s.data.toList.drop 0).take (s.size - 0)) < 10 ^ 18 := Nat.lt_of_lt_of_le hv0 (Nat.pow_le_pow_right (by omega) (by rw [List.length_take, drop_len]; omega))
        have hv2 : (10 : Nat) ^ 18 = 1000000000000000000 := by decide
        have hv3 : m ≤ 1000000000000000000 := by rw [HM0.out]; omega
        clear hv0 hv1 hv2
        go_wp2
        go_ret2
        exact ⟨by rw [HR.out.1, HR.out.2, HS.out]; rfl, rfl⟩
set_option maxRecDepth 100000 in
set_option maxHeartbeats 1000000 in
theorem l01NumberNeg (s : ByteArray) (w : World) (hs : s.size ≤ 1048576) (hneg : negB s.data.toList = true) :
    Calls Tryd.prog 36 #[.string s] w fun e w' => e = .returned (.tuple #[.int .i64 (numR s.data.toList), .bool (numO s.data.toList)]) ∧ w = w' := by
  have hta : tailL s.data.toList = s.data.toList.drop 1 := tail_of (by rw [hneg]; rfl) (.inr rfl)
  have hz : 0 < s.size := Nat.pos_of_ne_zero (fun e => by rw [negB_no0 e] at hneg; cases hneg)
  have h0 : (s[0]'(by omega)).toNat = 45 := by
    rw [negB_at hz, beq_iff_eq] at hneg
    rw [hneg]; rfl
  have h0i : ((s[0]'(by omega)).toNat : Int) = 45 := by omega
  by_cases h1 : s.size = 1
  · have HR := hid (numR_bad (bad_len hta (.inl h1)))
    go_enter Tryd.func36, Tryd.ntmps36
    go_wp2
    go_ret2
    exact ⟨by rw [HR.out.1, HR.out.2]; rfl, rfl⟩
  have hi : 1 < s.size := by omega
  by_cases h18 : 18 < s.size - 1
  · have HR := hid (numR_bad (bad_len hta (.inr h18)))
    go_enter Tryd.func36, Tryd.ntmps36
    go_wp2
    go_ret2
    exact ⟨by rw [HR.out.1, HR.out.2]; rfl, rfl⟩
  by_cases h48 : (s[1]'hi).toNat = 48 ∧ 1 < s.size
  · obtain ⟨h48a, h48b⟩ := h48
    have HR := hid (numR_bad (bad_zero hta (by omega) (UInt8.toNat_inj.1 h48a) h48b))
    have h48i : ((s[1]'hi).toNat : Int) = 48 := by omega
    go_enter Tryd.func36, Tryd.ntmps36
    go_wp2
    go_ret2
    exact ⟨by rw [HR.out.1, HR.out.2]; rfl, rfl⟩
  have HG := hid (bad_no hta (by omega) (by omega) (by
    by_cases h : s[1]'hi = 48
    · right
      have : (s[1]'hi).toNat = 48 := by rw [h]; rfl
      omega
    · exact .inl h))
  have hok : ((s[1]'hi).toNat : Int) = 48 → ¬ (1 : Int) < s.size := by omega
  by_cases h48i : ((s[1]'hi).toNat : Int) = 48
  · exfalso; omega
  · have u_ := True.intro
    have hq : ((s.size : Int) == 1) = false := by rw [beq_eq_false_iff_ne]; omega
    have hq2 : decide ((18 : Int) < (s.size : Int) - 1) = false := by rw [decide_eq_false_iff_not]; omega
    clear hok
    go_enter Tryd.func36, Tryd.ntmps36
    go_wp2
    go_loop [5, 6] (fun n i => ∃ k m : Nat, 1 ≤ k ∧ k ≤ s.size ∧ i = .int .i64 k ∧ n = .int .i64 m ∧ Hid (m = valN ((s.data.toList.drop 1).take (k - 1))) ∧ Hid (∀ b ∈ (s.data.toList.drop 1).take (k - 1), digL b = true)) (fun _ i => s.size - (intOf i).toNat)
    case atStart => exact ⟨1, 0, Nat.le_refl _, by omega, rfl, rfl, hid (by simp [valN]), hid (by simp)⟩
    case round =>
      obtain ⟨k, m, hak, hk, rfl, rfl, HM0, HD⟩ := hrel
      have hsl : s.data.toList.length = s.size := rfl
      by_cases hlt : k < s.size
      · have hlt' : k < s.data.toList.length := hlt
        have HM := hid (take_more hak hlt')
        have hv0 := valN_lt _ HD.out
        have hv1 := pow_le17 (n := ((s.data.toList.drop 1).take (k - 1)).length) (by rw [List.length_take, drop_len]; omega)
        have hv2 : m ≤ 100000000000000000 := by have := HM0.out; omega
        clear hv0 hv1
        cases hdg : digL s[k]
        · have HR := hid (numR_no HG.out (by rw [hta]; exact all_fail hak hlt hdg))
          have hdg' : digitB (s[k].toNat : Int) = false := hdg
          go_wp2_with (go_at_call 31; refine (cv (l01Digit _ _) (vb hdg')).mono ?_; rintro e w' ⟨rfl, rfl⟩)
          go_ret2
          exact ⟨by rw [HR.out.1, HR.out.2]; rfl, rfl⟩
        · have hdg' : digitB (s[k].toNat : Int) = true := hdg
          have hbd := digL_bd hdg
          have hN : ∀ v : Nat, (10 * (v : Int) + ((s[k].toNat : Int) - 48)) = ((10 * v + (s[k].toNat - 48) : Nat) : Int) := fun v => by omega
          have HV := hid (show 10 * m + (s[k].toNat - 48) = valN ((s.data.toList.drop 1).take (k + 1 - 1)) by rw [HM.out, valN_snoc, ← HM0.out]; rfl)
          have HD2 := hid (show ∀ b ∈ (s.data.toList.drop 1).take (k + 1 - 1), digL b = true by
            rw [HM.out]; intro b hb
            rcases List.mem_append.1 hb with hb | hb
            · exact HD.out b hb
            · obtain rfl := List.mem_singleton.1 hb; exact hdg)
          go_wp2_with (go_at_call 31; refine (cv (l01Digit _ _) (vb hdg')).mono ?_; rintro e w' ⟨rfl, rfl⟩)
          go_round
          case rel => exact ⟨k + 1, _, by omega, by omega, by go_num, by congr 1, HV, HD2⟩
          case measure => simp [intOf]; omega
      · obtain rfl : k = s.size := by omega
        have HR := hid (numR_yes HG.out (by rw [hta]; exact all_of_take HD.out))
        have HS := hid (show sgnV s.data.toList = -(m : Int) by rw [HM0.out]; unfold sgnV; rw [hneg, hta, List.take_of_length_le (by rw [drop_len]; omega)]; rfl)
        have hv0 := valN_lt _ HD.out
        have hv1 : valN ((s.data.toList.drop 1).take (s.size - 1)) < 10 ^ 18 := Nat.lt_of_lt_of_le hv0 (Nat.pow_le_pow_right (by omega) (by rw [List.length_take, drop_len]; omega))
        have hv2 : (10 : Nat) ^ 18 = 1000000000000000000 := by decide
        have hv3 : m ≤ 1000000000000000000 := by rw [HM0.out]; omega
        clear hv0 hv1 hv2
        go_wp2
        go_ret2
        exact ⟨by rw [HR.out.1, HR.out.2, HS.out]; rfl, rfl⟩
theorem l01Number (s : ByteArray) (w : World) (hs : s.size ≤ 1048576) :
    Calls Tryd.prog 36 #[.string s] w fun e w' => e = .returned (.tuple #[.int .i64 (numR s.data.toList), .bool (numO s.data.toList)]) ∧ w = w' := by
  cases hn : negB s.data.toList
  · exact l01NumberPos s w hs hn
  · exact l01NumberNeg s w hs hn
end Go.Proofs.YtopjccbjdcoanaaDoor
