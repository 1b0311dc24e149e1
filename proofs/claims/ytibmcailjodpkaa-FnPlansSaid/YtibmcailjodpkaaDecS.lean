/- Decimal numerals and lists of numbers as text, in both packages. Condition: the numbers are 0 or more (and at most 10^12). -/
import Derived.Test.YtibmcailjodpkaaApp
import Derived.Test.YtibmcailjodpkaaNums
import Derived.Test.YtibmcailjodpkaaFind
import Derived.Lib.ItoaNum
import Derived.Lib.ItoaMem
import Derived.Lib.AppendIntMem
import Derived.Laws.BytesArg
namespace Go.Proofs.Ytibmcailjodpkaa
set_option linter.unusedVariables false
open Go.RowKit
/-! ### digits, the last ahead -/
def revD (n : Nat) : List UInt8 := if h : n = 0 then [] else UInt8.ofNat (48 + n % 10) :: revD (n / 10)
termination_by n
decreasing_by omega
theorem revD_zero : revD 0 = [] := by rw [revD]; simp
theorem revD_pos (n : Nat) (h : 0 < n) : revD n = UInt8.ofNat (48 + n % 10) :: revD (n / 10) := by rw [revD, dif_neg (by omega)]
theorem revD_dec (n : Nat) (h : 0 < n) : (revD n).reverse = Lib.decDigits n := by
  induction n using Nat.strongRecOn with
  | _ n ih =>
    rw [revD_pos n h, List.reverse_cons]
    by_cases h1 : n < 10
    · rw [show n / 10 = 0 by omega, revD_zero, Lib.decDigits_one h1, show n % 10 = n by omega]; rfl
    · rw [ih (n / 10) (by omega) (by omega)]
      conv => rhs; rw [Lib.decDigits, dif_neg h1]
theorem revD_len (n : Nat) : (revD n).length ≤ n := by
  induction n using Nat.strongRecOn with
  | _ n ih =>
    by_cases h : n = 0
    · subst h; rw [revD_zero]; simp
    · rw [revD_pos n (by omega), List.length_cons]
      have := ih (n / 10) (by omega)
      omega
theorem revD_len13 (n : Nat) (h : n ≤ 1000000000000) : (revD n).length ≤ 13 := by
  by_cases h0 : n = 0
  · subst h0; rw [revD_zero]; simp
  · have e := revD_dec n (by omega)
    rw [← List.length_reverse, e, Lib.decDigits_length]
    by_cases h1 : n < 10 ^ 12
    · have : ¬ 13 < Lib.nDigits n := fun hh => by
        have hp := Lib.lt_pow_nDigits n
        have : ∀ k u : Nat, 10 ^ k ≤ u → u < 10 ^ (k + 1) → Lib.nDigits u = k + 1 := fun k u => Lib.nDigits_unique k u
        have key : ∀ k, k ≤ 12 → n < 10 ^ k → Lib.nDigits n ≤ 12 := by
          intro k
          induction k with
          | zero => intro _ hk; simp at hk; omega
          | succ k ihk =>
            intro hk1 hk2
            by_cases hk3 : n < 10 ^ k
            · exact ihk (by omega) hk3
            · rw [this k n (by omega) hk2]; omega
        have := key 12 (by omega) h1
        omega
      omega
    · have : n = 10 ^ 12 := by have : (10 : Nat) ^ 12 = 1000000000000 := by decide
                               omega
      rw [Lib.nDigits_unique 12 n (by omega) (by rw [this]; decide)]; omega
/-! ### texts -/
def decT (n : Int) : ByteArray := ⟨(Lib.itoa n).toArray⟩
def decP (n : Nat) : ByteArray := ⟨(Lib.decDigits n).toArray⟩
def encU (c : UInt8) : List Value := [.int .u8 c.toNat]
theorem encU_len (c : UInt8) : (encU c).length = 1 := rfl
theorem infoU8 : (Try.prog.info? 5).map (fun i => (i.zero, i.size, i.bytes)) = some (some (.int .u8 0), 1, 1) := by kernel_rfl
theorem strOf (cs : List UInt8) : strOfNums (cs.map fun x => (x.toNat : Int)) = ⟨cs.toArray⟩ := by
  unfold strOfNums
  rw [List.map_map]
  have e : ((fun n : Int => UInt8.ofNat n.toNat) ∘ fun x : UInt8 => (x.toNat : Int)) = id := by funext x; simp
  rw [e, List.map_id]
theorem digU (m : Nat) : (Value.int .u8 (48 + (m : Int) % 10)) = .int .u8 (UInt8.ofNat (48 + m % 10)).toNat := by
  congr 1
  rw [UInt8.toNat_ofNat', Nat.mod_eq_of_lt (by omega)]
  omega
theorem convU (W : World) (A : Option Addr) (c : Nat) (cs : List UInt8) (lo hi : Nat) (h0 : 0 < cs.length) (hv : Sl lo hi W 1 (.slice A cs.length c) cs.length (flat encU cs)) : (convert 55 9 (.slice A cs.length c)).run Try.prog W = .ok (.string ⟨cs.toArray⟩) W := by
  obtain ⟨_, _, A', c', he, hnc, _, hcell⟩ := hv
  simp only [Value.slice.injEq] at he
  obtain ⟨rfl, _, rfl⟩ := he
  obtain ⟨b, off, rfl, _, _, hc⟩ := hcell h0
  have := run_convert_bytes_arg (P := Try.prog) W 55 5 Try.underlying55 Try.underlying5 b off cs.length c (cs.map fun x => (x.toNat : Int)) (by simp) (fun i hi => by
    have := hc (i * 1 + 0) _ (flat_get encU_len cs i hi 0 (by omega))
    simp only [Nat.mul_one, Nat.add_zero] at this
    rw [this]
    simp [List.getD_eq_getElem?_getD, List.getElem?_eq_getElem hi]) 9 Try.underlying9
  rw [this, strOf]
set_option maxRecDepth 100000 in
set_option maxHeartbeats 1000000 in
theorem l01DecP (n : Nat) (w : World) (hn : n ≤ 1000000000000) :
    Calls Try.prog 92 #[.int .i64 n] w fun e w' => e = .returned (.string (decP n)) ∧ Ext w w' := by
  by_cases h0 : n = 0
  · subst h0
    go_enter Try.func92, Try.ntmps92
    go_wp2
    go_ret
    exact ⟨ret_str (by unfold decP; rw [Lib.decDigits_one (by omega)]; rfl), Below.refl _ _⟩
  have hp : 0 < n := by omega
  have hb : ((n : Int) == 0) = false := by rw [beq_eq_false_iff_ne]; omega
  have HD := hid (revD_dec n hp)
  have hl13 := revD_len13 n hn
  go_enter Try.func92, Try.ntmps92
  go_wp2
  go_loopw [3, 4, 5] (fun u i _ wr => ∃ (m : Nat) (ds : List UInt8), m ≤ n ∧ i = .int .i64 m ∧ Hid (ds ++ revD m = revD n) ∧ wr.ownsRow w.heap.size 5 1 u ds.length (flat encU ds) ∧ Ext w wr) (fun _ i _ _ => (intOf i).toNat)
  case atStart => exact ⟨n, [], by omega, rfl, hid rfl, own_empty _ _ _ _ (Nat.le_refl _), Ext.new _ _⟩
  case round =>
    obtain ⟨m, ds, hmn, rfl, HL, hown, hE⟩ := hrel
    have hz := hE.size
    have hdl : ds.length ≤ 13 := by
      have := congrArg List.length HL.out
      rw [List.length_append] at this; omega
    by_cases hm : m = 0
    · subst hm
      have HL2 := hid (show ds = revD n by have := HL.out; rw [revD_zero] at this; simpa using this)
      have hln : 0 < ds.length := by rw [HL2.out, revD_pos n hp]; simp
      have HF := hid (show ds.reverse = Lib.decDigits n by rw [HL2.out]; exact HD.out)
      have hS := Sl.of_own hown (by unfold maxLen; omega)
      obtain ⟨_, _, A, c, rfl, hnc, hcm, hcell⟩ := hS
      clear hown HL HL2
      obtain ⟨wo, rfl⟩ : ∃ wo : World, wo = wr := ⟨_, rfl⟩
      rw [show ((0 : Nat) : Int) = (0 : Int) from rfl]
      go_wp2
      go_loopw [6, 7] (fun u i wr => ((∃ q : Nat, i = .int .i64 q ∧ q < ds.length ∧ wr.ownsRow wo.heap.size 5 1 u (ds.length - (q + 1)) (flat encU (ds.drop (q + 1)).reverse)) ∨ (i = .int .i64 (-1) ∧ wr.ownsRow wo.heap.size 5 1 u ds.length (flat encU ds.reverse))) ∧ Ext wo wr) (fun _ i _ => (intOf i + 1).toNat)
      case atStart => exact ⟨.inl ⟨ds.length - 1, by congr 1; omega, by omega, by rw [show ds.length - 1 + 1 = ds.length by omega, Nat.sub_self, List.drop_length]; exact own_empty _ _ _ _ (Nat.le_refl _)⟩, Ext.new _ _⟩
      case round =>
        obtain ⟨⟨q, rfl, hq, hown⟩ | ⟨rfl, hown⟩, hE2⟩ := hrel
        · obtain ⟨b, off, rfl, hb1, hb2, hc⟩ := hcell hln
          have c0 : wr.cell? ⟨b, off + q, none⟩ = some (.int .u8 ds[q].toNat) := by
            have := hc (q * 1 + 0) _ (flat_get encU_len ds q hq 0 (by omega))
            simp only [Nat.mul_one, Nat.add_zero] at this
            exact (hE2.cell (p := ⟨b, _, none⟩) hb2).trans this
          have hz2 := hE2.size
          have HS := hid (show (ds.drop q).reverse = (ds.drop (q + 1)).reverse ++ [ds[q]] by rw [List.drop_eq_getElem_cons hq, List.reverse_cons])
          clear hc hcell
          go_wp2_with (at_builtin; refine wp_append1 wr rfl (.tmp 41) (.tmp 46) _ rfl wo.heap.size 5 1 1 _ Try.underlying55 infoU8 rfl (by omega) (by omega) _ _ _ hown rfl [.int .u8 ds[q].toNat] rfl (by simp [Value.oneCell']) _ rfl rfl (by omega) hz2 ?_; intro v' w' ho' hb')
          go_roundw
          case rel =>
            refine ⟨?_, hE2.trans hb'⟩
            have ho2 : w'.ownsRow wo.heap.size 5 1 v' (ds.length - q) (flat encU (ds.drop q).reverse) := by
              rw [HS.out, flat_snoc]
              rw [show ds.length - q = ds.length - (q + 1) + 1 by omega]; exact ho'
            cases q with
            | zero => exact .inr ⟨by congr 1, by simpa using ho2⟩
            | succ q => exact .inl ⟨q, by congr 1; omega, by omega, ho2⟩
          case measure => simp [intOf]
        · have hS2 := Sl.of_own hown (by unfold maxLen; omega)
          have hS3 := hS2
          obtain ⟨_, _, A2, c2, rfl, _, _, _⟩ := hS3
          have hcv := convU wr A2 c2 ds.reverse _ _ (by simpa using hln) (by simpa using hS2)
          rw [List.length_reverse] at hcv
          clear hS2 hown
          go_wp2
          go_ret
          exact ⟨ret_str (by unfold decP; rw [← HF.out]), Ext.tr hE hE2⟩
    · have hmb : ((m : Int) != 0) = true := by rw [bne_iff_ne]; omega
      have hm0 : (0 : Int) ≤ (m : Int) % 10 := by omega
      have HL2 := hid (show ds ++ [UInt8.ofNat (48 + m % 10)] ++ revD (m / 10) = revD n by rw [← HL.out, revD_pos m (by omega)]; simp)
      have hm1 : ¬ (m : Int) % 10 < 0 := by omega
      go_wp2_with (at_builtin; refine wp_append1 wr rfl (.tmp 22) (.tmp 26) _ rfl w.heap.size 5 1 1 _ Try.underlying55 infoU8 rfl (by omega) (by omega) _ _ _ hown rfl [.int .u8 (48 + (m : Int) % 10)] rfl (by simp [Value.oneCell']) _ rfl rfl (by omega) hz ?_; intro v' w' ho' hb')
      go_roundw
      case rel => exact ⟨m / 10, ds ++ [UInt8.ofNat (48 + m % 10)], by omega, by go_num, HL2, by rw [flat_snoc, List.length_append]; rw [digU] at ho'; exact ho', hE.trans hb'⟩
      case measure => simp [intOf]; omega
theorem dec_lenP (n : Nat) (h : n ≤ 1000000000000) : (Lib.decDigits n).length ≤ 13 := by
  by_cases h0 : n = 0
  · subst h0; rw [Lib.decDigits_one (by omega)]; simp
  · rw [← revD_dec n (by omega), List.length_reverse]; exact revD_len13 n h
end Go.Proofs.Ytibmcailjodpkaa
