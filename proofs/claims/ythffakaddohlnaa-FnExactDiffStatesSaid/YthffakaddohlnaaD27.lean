/- Contracts of DiffStates: the plain words, l27At and valueAt. -/
import Derived.Test.YthffakaddohlnaaXChange
import Derived.Test.YthffakaddohlnaaV27
import Derived.Test.YthffakaddohlnaaQ27
import Derived.Test.YthffakaddohlnaaAppN
import Derived.Test.YthffakaddohlnaaFind
namespace Go.Proofs.Ythffakaddohlnaa
set_option linter.unusedVariables false
open Go.RowKit
def nameIx (xs : List Setting) (name : ByteArray) : Int := findIx (fun x => decide (x.name.toList = name.toList)) xs
theorem l27At (xs : List Setting) (name : ByteArray) (lo hi : Nat) (v : Value) (w : World) (hv : Sl lo hi w 2 v xs.length (flat Setting.enc xs)) (hn : xs.length ≤ 1048576) :
    Calls Try.prog 60 #[v, .string name] w fun e w' => e = .returned (.int .i64 (nameIx xs name)) ∧ w = w' := by
  obtain ⟨hhi, _, A, c, rfl, hnc, hcm, hcell⟩ := hv
  go_enter Try.func60, Try.ntmps60
  go_wp2
  go_loop [5] (fun i => ∃ k : Nat, k ≤ xs.length ∧ i = .int .i64 k ∧ Hid (∀ j (h : j < xs.length), j < k → (fun x : Setting => decide (x.name.toList = name.toList)) xs[j] = false)) (fun i => xs.length - (intOf i).toNat)
  case atStart => exact ⟨0, by omega, rfl, hid (fun j h hj => absurd hj (by omega))⟩
  case round =>
    obtain ⟨k, hk, rfl, hall⟩ := hrel
    by_cases hlt : k < xs.length
    · obtain ⟨b, off, rfl, hb1, hb2, hc⟩ := hcell (by omega)
      obtain ⟨c0, c1⟩ := Setting.cells hc k hlt
      clear hc
      by_cases hd : xs[k].name.toList = name.toList
      · have HQ := hid (findIx_yes (p := fun x : Setting => decide (x.name.toList = name.toList)) k hlt (fun j h => hall.out j (by omega) h) (by simpa using hd))
        have hdb : (xs[k].name.toList == name.toList) = true := by simp [hd]
        rw [strInj hd] at c0
        go_wp2
        go_ret
        exact ⟨ret_int HQ.out.symm, rfl⟩
      · have hdb : (xs[k].name.toList == name.toList) = false := by simp [hd]
        have hdn : ¬ xs[k].name = name := fun h => hd (by rw [h])
        go_wp2
        go_round
        case rel => exact ⟨k + 1, by omega, by go_num, hid (fun j h hj => by rcases Nat.lt_succ_iff_lt_or_eq.1 hj with h1 | rfl; exact hall.out j h h1; simpa using hd)⟩
        case measure => simp [intOf]; omega
    · obtain rfl : k = xs.length := by omega
      go_wp2
      go_ret
      exact ⟨ret_int (findIx_no fun j h => hall.out j h h).symm, rfl⟩
def valAt (xs : List Setting) (k : Int) : Int := if k < 0 then 0 else ((xs[k.toNat]?).map Setting.value).getD 0
theorem valAt_nat (xs : List Setting) (k : Nat) (h : k < xs.length) : valAt xs k = xs[k].value := by
  unfold valAt; rw [if_neg (by omega), Int.toNat_natCast, List.getElem?_eq_getElem h]; rfl
theorem valueAt (xs : List Setting) (name : ByteArray) (lo hi : Nat) (v : Value) (w : World) (hv : Sl lo hi w 2 v xs.length (flat Setting.enc xs)) (hn : xs.length ≤ 1048576) :
    Calls Try.prog 61 #[v, .string name] w fun e w' => e = .returned (.tuple #[.int .i64 (valAt xs (nameIx xs name)), .bool (decide (0 ≤ nameIx xs name))]) ∧ Ext w w' := by
  obtain ⟨hhi, _, A, c, rfl, hnc, hcm, hcell⟩ := hv
  go_enter Try.func61, Try.ntmps61
  go_wp2
  go_loopw [10] (fun i wr => ∃ k : Nat, k ≤ xs.length ∧ i = .int .i64 k ∧ Hid (∀ j (h : j < xs.length), j < k → (fun x : Setting => decide (x.name.toList = name.toList)) xs[j] = false) ∧ Ext w wr) (fun i _ => xs.length - (intOf i).toNat)
  case atStart => exact ⟨0, by omega, rfl, hid (fun j h hj => absurd hj (by omega)), Below.refl _ _⟩
  case round =>
    obtain ⟨k, hk, rfl, hall, hE⟩ := hrel
    by_cases hlt : k < xs.length
    · obtain ⟨b, off, rfl, hb1, hb2, hc⟩ := hcell (by omega)
      have hbw : b < w.heap.size := by omega
      obtain ⟨c0, c1⟩ := Setting.at_of hc hE hbw k hlt
      clear hc
      by_cases hd : xs[k].name.toList = name.toList
      · have HQ := hid (show nameIx xs name = (k : Int) from findIx_yes (p := fun x : Setting => decide (x.name.toList = name.toList)) k hlt (fun j h => hall.out j (by omega) h) (by simpa using hd))
        have HV := hid (valAt_nat xs k hlt)
        have hdb : (xs[k].name.toList == name.toList) = true := by simp [hd]
        rw [strInj hd] at c0
        go_wp2
        go_ret2
        exact ⟨by rw [HQ.out, HV.out]; simp, Ext.tr hE (Ext.new _ _)⟩
      · have hdb : (xs[k].name.toList == name.toList) = false := by simp [hd]
        have hdn : ¬ xs[k].name = name := fun h => hd (by rw [h])
        go_wp2
        go_roundw
        case rel => exact ⟨k + 1, by omega, by go_num, hid (fun j h hj => by rcases Nat.lt_succ_iff_lt_or_eq.1 hj with h1 | rfl; exact hall.out j h h1; simpa using hd), Ext.tr hE (Ext.new _ _)⟩
        case measure => simp [intOf]; omega
    · obtain rfl : k = xs.length := by omega
      have HQ := hid (show nameIx xs name = -1 from findIx_no fun j h => hall.out j h h)
      go_wp2
      go_ret2
      exact ⟨by rw [HQ.out]; rfl, hE⟩
end Go.Proofs.Ythffakaddohlnaa
