/- The reference's reading of a sensor's text: cutting, numbers, lists. Condition: the text has at most 2^20 bytes. -/
import Derived.Test.YtopjccbjdcoanaaDoorRdP
namespace Go.Proofs.YtopjccbjdcoanaaDoor
set_option linter.unusedVariables false
open Go.RowKit
def encL (l : List UInt8) : List Value := [.string ⟨l.toArray⟩]
theorem encL_len (l : List UInt8) : (encL l).length = 1 := rfl
theorem ext_str (s : ByteArray) (a b : Nat) : s.extract a b = ⟨((s.data.toList.drop a).take (b - a)).toArray⟩ := by
  apply text_eq
  rw [Lib.extract_data]
theorem take_more {l : List UInt8} {q k : Nat} (hqk : q ≤ k) (hk : k < l.length) : (l.drop q).take (k + 1 - q) = (l.drop q).take (k - q) ++ [l[k]] := by
  rw [show k + 1 - q = (k - q) + 1 by omega, List.take_succ_eq_append_getElem (by rw [List.length_drop]; omega)]
  congr 2
  rw [List.getElem_drop]
  congr 1
  omega
theorem drop_at {l : List UInt8} {q k : Nat} (hqk : q ≤ k) (hk : k < l.length) : l.drop q = (l.drop q).take (k - q) ++ l[k] :: l.drop (k + 1) := by
  conv => lhs; rw [← List.take_append_drop (k - q) (l.drop q)]
  rw [List.drop_drop, show q + (k - q) = k by omega, List.drop_eq_getElem_cons hk]
set_option maxRecDepth 100000 in
set_option maxHeartbeats 1000000 in
theorem l01Split (s : ByteArray) (c : UInt8) (w : World) (hs : s.size ≤ 1048576) :
    Calls Tryd.prog 26 #[.string s, .int .u8 c.toNat] w fun e w' => (∃ v, e = .returned v ∧ w'.ownsRow w.heap.size 9 1 v (splitL c s.data.toList).length (flat encL (splitL c s.data.toList))) ∧ Ext w w' := by
  go_enter Tryd.func26, Tryd.ntmps26
  go_wp2
  go_loopw [5, 6, 7] (fun u f i wr => ∃ (k q : Nat) (P : List (List UInt8)), q ≤ k ∧ k ≤ s.size ∧ P.length ≤ k ∧ f = .int .i64 q ∧ i = .int .i64 k ∧ wr.ownsRow w.heap.size 9 1 u P.length (flat encL P) ∧ Hid (splitL c s.data.toList = P ++ splitL c (s.data.toList.drop q)) ∧ Hid (c ∉ (s.data.toList.drop q).take (k - q)) ∧ Ext w wr) (fun _ _ i _ => s.size - (intOf i).toNat)
  case atStart => exact ⟨0, 0, [], Nat.le_refl _, Nat.zero_le _, Nat.le_refl _, rfl, rfl, own_empty _ _ _ _ (Nat.le_refl _), hid rfl, hid (by simp), Ext.new _ _⟩
  case round =>
    obtain ⟨k, q, P, hqk, hk, hP, rfl, rfl, hown, HS, HN, hE⟩ := hrel
    have hz := hE.size
    have hsl : s.data.toList.length = s.size := rfl
    by_cases hlt : k < s.size
    · have hlt' : k < s.data.toList.length := hlt
      have HA := hid (take_more hqk hlt')
      have HB := hid (drop_at hqk hlt')
      by_cases hc : s[k] = c
      · have hcv : (s[k].toNat : Int) = c.toNat := by rw [hc]
        have hc' : s.data.toList[k] = c := hc
        have HX := hid (ext_str s q k)
        go_wp2_with (at_builtin; refine wp_append1 wr rfl (.tmp 20) (.tmp 25) _ rfl w.heap.size 9 1 16 _ Tryd.underlying44 infoStr rfl (by omega) (by omega) _ _ _ hown rfl [.string (s.extract q k)] rfl (by simp [Value.oneCell']) _ rfl rfl (by omega) hz ?_; intro v' w' ho' hb')
        go_roundw
        case rel => exact ⟨k + 1, k + 1, P ++ [(s.data.toList.drop q).take (k - q)], Nat.le_refl _, by omega, by rw [List.length_append]; simp; omega, by go_num, by go_num, by rw [flat_snoc, List.length_append]; rw [HX.out] at ho'; exact ho', hid (by
          have e := HB.out
          rw [hc'] at e
          rw [HS.out]
          conv => lhs; rw [e]
          rw [splitL_app c _ _ HN.out]; simp), hid (by simp), hE.trans hb'⟩
        case measure => simp [intOf]; omega
      · have hcv : ¬ (s[k].toNat : Int) = c.toNat := fun e => hc (UInt8.toNat_inj.1 (by omega))
        have hc' : ¬ c = s.data.toList[k] := fun e => hc e.symm
        go_wp2
        go_roundw
        case rel => exact ⟨k + 1, q, P, by omega, by omega, by omega, rfl, by go_num, hown, HS, hid (by rw [HA.out]; simp only [List.mem_append, List.mem_singleton, not_or]; exact ⟨HN.out, hc'⟩), hE⟩
        case measure => simp [intOf]; omega
    · obtain rfl : k = s.size := by omega
      have HX := hid (ext_str s q s.size)
      have HT := hid (show (s.data.toList.drop q).take (s.size - q) = s.data.toList.drop q from List.take_of_length_le (by rw [List.length_drop]; omega))
      go_wp2_with (at_builtin; refine wp_append1 wr rfl (.tmp 29) (.tmp 33) _ rfl w.heap.size 9 1 16 _ Tryd.underlying44 infoStr rfl (by omega) (by omega) _ _ _ hown rfl [.string (s.extract q s.size)] rfl (by simp [Value.oneCell']) _ rfl rfl (by omega) hz ?_; intro v' w' ho' hb')
      go_ret
      have e : splitL c s.data.toList = P ++ [s.data.toList.drop q] := by
        have hn := HN.out
        rw [HT.out] at hn
        rw [HS.out, splitL_none c _ hn]
      refine ⟨⟨_, rfl, ?_⟩, hE.trans hb'⟩
      rw [e, flat_snoc, List.length_append]
      rw [HX.out, HT.out] at ho'
      exact ho'
end Go.Proofs.YtopjccbjdcoanaaDoor
