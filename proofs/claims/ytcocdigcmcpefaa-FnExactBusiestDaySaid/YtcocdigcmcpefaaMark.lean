/- The marks' text: a contract of markText by a plain Lean function. Condition: the number is at most 2^40. -/
import Derived.Test.YtcocdigcmcpefaaSl
namespace Go.Proofs.Ytcocdigcmcpefaa
set_option linter.unusedVariables false
open Go.RowKit

def markL (k : Nat) (out : List UInt8) : List UInt8 := if h : k = 0 then out else markL (k / 10) ((48 + UInt8.ofNat (k % 10)) :: out)
termination_by k
decreasing_by omega
theorem markL_zero (out : List UInt8) : markL 0 out = out := by rw [markL]; simp
theorem markL_pos (k : Nat) (out : List UInt8) (h : 0 < k) : markL k out = markL (k / 10) ((48 + UInt8.ofNat (k % 10)) :: out) := by rw [markL]; rw [dif_neg (by omega)]
def markS (k : Nat) : ByteArray := ⟨#[109] ++ (markL k []).toArray⟩

theorem app1 (a : UInt8) (out : List UInt8) : (⟨#[a]⟩ ++ ⟨out.toArray⟩ : ByteArray) = ⟨(a :: out).toArray⟩ := by
  apply ByteArray.ext; simp
theorem markS_eq (k : Nat) : markS k = (⟨#[109]⟩ ++ ⟨(markL k []).toArray⟩ : ByteArray) := by
  apply ByteArray.ext; simp [markS]
theorem conv1 (W : World) (x : Int) : (convert 78 9 (.slice (some ⟨W.heap.size, 0, none⟩) 1 1)).run Try.prog (W.alloc (.cells #[.int .u8 x] 5)) = .ok (.string ⟨#[UInt8.ofNat x.toNat]⟩) (W.alloc (.cells #[.int .u8 x] 5)) := by
  have := run_convert_bytes_arg (P := Try.prog) (W.alloc (.cells #[.int .u8 x] 5)) 78 5 Try.underlying78 Try.underlying5 W.heap.size 0 1 1 [x] rfl (fun i hi => by
    obtain rfl : i = 0 := by omega
    simp) 9 Try.underlying9
  rw [this]; rfl
set_option maxRecDepth 100000 in
theorem markTextN (k : Nat) (w : World) (h0 : 0 < k) (hk : k ≤ 1099511627776) :
    Calls Try.prog 42 #[.int .i64 k] w fun e w' => e = .returned (.string (markS k)) ∧ Ext w w' := by
  have hp : (0 : Int) < k := by omega
  have hcv := conv1
  go_enter Try.func42, Try.ntmps42
  go_wp2
  go_loopw [0, 3] (fun kk o wr => ∃ (j : Nat) (out : List UInt8), kk = .int .i64 j ∧ o = .string ⟨out.toArray⟩ ∧ out.length + j ≤ k ∧ Hid (markL j out = markL k []) ∧ Ext w wr) (fun kk _ _ => (intOf kk).toNat)
  case atStart => exact ⟨k, [], rfl, rfl, by simp, hid rfl, Below.refl _ _⟩
  case round =>
    obtain ⟨j, out, rfl, rfl, hlen, HM, hE⟩ := hrel
    by_cases hj : 0 < j
    · have hj' : (0 : Int) < j := by omega
      go_wp2
      go_roundw
      case rel => exact ⟨j / 10, (48 + UInt8.ofNat (j % 10)) :: out, by go_num, by rw [app1], by simp; omega, hid (by rw [← HM.out, markL_pos j _ hj]), Ext.tr hE (Ext.new _ _)⟩
      case measure => simp [intOf]; omega
    · obtain rfl : j = 0 := by omega
      go_wp2
      go_ret
      exact ⟨ret_str (by rw [markS_eq, ← HM.out, markL_zero]), hE⟩
theorem markText (k : Int) (w : World) (h0 : 0 < k) (hk : k ≤ 1099511627776) :
    Calls Try.prog 42 #[.int .i64 k] w fun e w' => e = .returned (.string (markS k.toNat)) ∧ Ext w w' := by
  obtain ⟨n, rfl⟩ := Int.eq_ofNat_of_zero_le (by omega : 0 ≤ k)
  exact markTextN n w (by omega) (by omega)
theorem szF_bd (l : Int) (n : Nat) (h : ¬ szF l n < 0) : szF l n = l - n ∧ 0 ≤ l - n := by
  unfold szF at h ⊢; split at h <;> rename_i h1
  · omega
  · rw [if_neg h1]; omega
end Go.Proofs.Ytcocdigcmcpefaa
