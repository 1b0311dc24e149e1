/- Decimal numerals and lists of numbers as text, in both packages. Condition: the numbers are 0 or more (and at most 10^12). -/
import Derived.Test.YtopjccbjdcoanaaDoorApp
import Derived.Test.YtopjccbjdcoanaaDoorNums
import Derived.Test.YtopjccbjdcoanaaDoorFind
import Derived.Test.YtopjccbjdcoanaaDoorShelf
import Derived.Lib.ItoaNum
import Derived.Lib.ItoaMem
import Derived.Lib.LaidTab
import Derived.Lib.AppendIntMem
import Derived.Laws.BytesArg
namespace Go.Proofs.YtopjccbjdcoanaaDoor
set_option linter.unusedVariables false
open Go.RowKit
/-! ### digits, the last ahead -/
def revD (n : Nat) : List UInt8 := if h : n = 0 then [] else UInt8.ofNat (48 + n % 10) :: revD (n / 10)
termination_by n
decreasing_by omega
theorem revD_zero : revD 0 = [] := by rw [revD]; simp
theorem revD_pos (n : Nat) (h : 0 < n) : revD n = UInt8.ofNat (48 + n % 10) :: revD (n / 10) := by rw [revD, dif_neg (by omega)]
theorem revD_dec (n : Nat) (h : 0 < n) : (revD n).reverse = Lib.decDigits n := by
  induction n using Nat.strongRecOn with
  | _ n ih =>
    rw [revD_pos n h, List.reverse_cons]
    by_cases h1 : n < 10
    · rw [show n / 10 = 0 by omega, revD_zero, Lib.decDigits_one h1, show n % 10 = n by omega]; rfl
    · rw [ih (n / 10) (by omega) (by omega)]
      conv => rhs; rw [Lib.decDigits, dif_neg h1]
theorem revD_len (n : Nat) : (revD n).length ≤ n := by
  induction n using Nat.strongRecOn with
  | _ n ih =>
    by_cases h : n = 0
    · subst h; rw [revD_zero]; simp
    · rw [revD_pos n (by omega), List.length_cons]
      have := ih (n / 10) (by omega)
      omega
theorem revD_len13 (n : Nat) (h : n ≤ 1000000000000) : (revD n).length ≤ 13 := by
  by_cases h0 : n = 0
  · subst h0; rw [revD_zero]; simp
  · have e := revD_dec n (by omega)
    rw [← List.length_reverse, e, Lib.decDigits_length]
    by_cases h1 : n < 10 ^ 12
    · have : ¬ 13 < Lib.nDigits n := fun hh => by
        have hp := Lib.lt_pow_nDigits n
        have : ∀ k u : Nat, 10 ^ k ≤ u → u < 10 ^ (k + 1) → Lib.nDigits u = k + 1 := fun k u => Lib.nDigits_unique k u
        have key : ∀ k, k ≤ 12 → n < 10 ^ k → Lib.nDigits n ≤ 12 := by
          intro k
          induction k with
          | zero => intro _ hk; simp at hk; omega
          | succ k ihk =>
            intro hk1 hk2
            by_cases hk3 : n < 10 ^ k
            · exact ihk (by omega) hk3
            · rw [this k n (by omega) hk2]; omega
        have := key 12 (by omega) h1
        omega
      omega
    · have : n = 10 ^ 12 := by have : (10 : Nat) ^ 12 = 1000000000000 := by decide
                               omega
      rw [Lib.nDigits_unique 12 n (by omega) (by rw [this]; decide)]; omega
/-! ### texts -/
def decT (n : Int) : ByteArray := ⟨(Lib.itoa n).toArray⟩
def decP (n : Nat) : ByteArray := ⟨(Lib.decDigits n).toArray⟩
def encU (c : UInt8) : List Value := [.int .u8 c.toNat]
theorem encU_len (c : UInt8) : (encU c).length = 1 := rfl
theorem infoU8 : (Tryd.prog.info? 5).map (fun i => (i.zero, i.size, i.bytes)) = some (some (.int .u8 0), 1, 1) := by kernel_rfl
theorem strOf (cs : List UInt8) : strOfNums (cs.map fun x => (x.toNat : Int)) = ⟨cs.toArray⟩ := by
  unfold strOfNums
  rw [List.map_map]
  have e : ((fun n : Int => UInt8.ofNat n.toNat) ∘ fun x : UInt8 => (x.toNat : Int)) = id := by funext x; simp
  rw [e, List.map_id]
theorem digU (m : Nat) : (Value.int .u8 (48 + (m : Int) % 10)) = .int .u8 (UInt8.ofNat (48 + m % 10)).toNat := by
  congr 1
  rw [UInt8.toNat_ofNat', Nat.mod_eq_of_lt (by omega)]
  omega
theorem convU (W : World) (A : Option Addr) (c : Nat) (cs : List UInt8) (lo hi : Nat) (h0 : 0 < cs.length) (hv : Sl lo hi W 1 (.slice A cs.length c) cs.length (flat encU cs)) : (convert 56 9 (.slice A cs.length c)).run Tryd.prog W = .ok (.string ⟨cs.toArray⟩) W := by
  obtain ⟨_, _, A', c', he, hnc, _, hcell⟩ := hv
  simp only [Value.slice.injEq] at he
  obtain ⟨rfl, _, rfl⟩ := he
  obtain ⟨b, off, rfl, _, _, hc⟩ := hcell h0
  have := run_convert_bytes_arg (P := Tryd.prog) W 56 5 Tryd.underlying56 Tryd.underlying5 b off cs.length c (cs.map fun x => (x.toNat : Int)) (by simp) (fun i hi => by
    have := hc (i * 1 + 0) _ (flat_get encU_len cs i hi 0 (by omega))
    simp only [Nat.mul_one, Nat.add_zero] at this
    rw [this]
    simp [List.getD_eq_getElem?_getD, List.getElem?_eq_getElem hi]) 9 Tryd.underlying9
  rw [this, strOf]
theorem tab_ext {n : String} {g : Nat} {k : IntKind} {zs : List Int} {w w' : World} (hg : Tryd.prog.globalNamed n = some g) (h : Lib.TabIs Tryd.prog w n k zs) (hb : Ext w w') : Lib.TabIs Tryd.prog w' n k zs := by
  unfold Lib.TabIs World.var? at h ⊢
  rw [hg] at h ⊢
  simp only [Option.bind_some] at h ⊢
  have hlt : g < w.heap.size := by
    rcases Nat.lt_or_ge g w.heap.size with h' | h'
    · exact h'
    · rw [Array.getElem?_eq_none h'] at h; cases h
  rw [hb.block g hlt]
  exact h
set_option maxRecDepth 100000 in
set_option maxHeartbeats 1000000 in
theorem l01DecP (n : Nat) (w : World) (hn : n ≤ 1000000000000) :
    Calls Tryd.prog 32 #[.int .i64 n] w fun e w' => e = .returned (.string (decP n)) ∧ Ext w w' := by
  by_cases h0 : n = 0
  · subst h0
    go_enter Tryd.func32, Tryd.ntmps32
    go_wp2
    go_ret
    exact ⟨ret_str (by unfold decP; rw [Lib.decDigits_one (by omega)]; rfl), Below.refl _ _⟩
  have hp : 0 < n := by omega
  have hb : ((n : Int) == 0) = false := by rw [beq_eq_false_iff_ne]; omega
  have HD := hid (revD_dec n hp)
  have hl13 := revD_len13 n hn
  go_enter Tryd.func32, Tryd.ntmps32
  go_wp2
  go_loopw [3, 4, 5] (fun u i _ wr => ∃ (m : Nat) (ds : List UInt8), m ≤ n ∧ i = .int .i64 m ∧ Hid (ds ++ revD m = revD n) ∧ wr.ownsRow w.heap.size 5 1 u ds.length (flat encU ds) ∧ Ext w wr) (fun _ i _ _ => (intOf i).toNat)
  case atStart => exact ⟨n, [], by omega, rfl, hid rfl, own_empty _ _ _ _ (Nat.le_refl _), Ext.new _ _⟩
  case round =>
    obtain ⟨m, ds, hmn, rfl, HL, hown, hE⟩ := hrel
    have hz := hE.size
    have hdl : ds.length ≤ 13 := by
      have := congrArg List.length HL.out
      rw [List.length_append] at this; omega
    by_cases hm : m = 0
    · subst hm
      have HL2 := hid (show ds = revD n by have := HL.out; rw [revD_zero] at this; simpa using this)
      have hln : 0 < ds.length := by rw [HL2.out, revD_pos n hp]; simp
      have HF := hid (show ds.reverse = Lib.decDigits n by rw [HL2.out]; exact HD.out)
      have hS := Sl.of_own hown (by unfold maxLen; omega)
      obtain ⟨_, _, A, c, rfl, hnc, hcm, hcell⟩ := hS
      clear hown HL HL2
      obtain ⟨wo, rfl⟩ : ∃ wo : World, wo = wr := ⟨_, rfl⟩
      rw [show ((0 : Nat) : Int) = (0 : Int) from rfl]
      go_wp2
      go_loopw [6, 7] (fun u i wr => ((∃ q : Nat, i = .int .i64 q ∧ q < ds.length ∧ wr.ownsRow wo.heap.size 5 1 u (ds.length - (q + 1)) (flat encU (ds.drop (q + 1)).reverse)) ∨ (i = .int .i64 (-1) ∧ wr.ownsRow wo.heap.size 5 1 u ds.length (flat encU ds.reverse))) ∧ Ext wo wr) (fun _ i _ => (intOf i + 1).toNat)
      case atStart => exact ⟨.inl ⟨ds.length - 1, by congr 1; omega, by omega, by rw [show ds.length - 1 + 1 = ds.length by omega, Nat.sub_self, List.drop_length]; exact own_empty _ _ _ _ (Nat.le_refl _)⟩, Ext.new _ _⟩
      case round =>
        obtain ⟨⟨q, rfl, hq, hown⟩ | ⟨rfl, hown⟩, hE2⟩ := hrel
        · obtain ⟨b, off, rfl, hb1, hb2, hc⟩ := hcell hln
          have c0 : wr.cell? ⟨b, off + q, none⟩ = some (.int .u8 ds[q].toNat) := by
            have := hc (q * 1 + 0) _ (flat_get encU_len ds q hq 0 (by omega))
            simp only [Nat.mul_one, Nat.add_zero] at this
            exact (hE2.cell (p := ⟨b, _, none⟩) hb2).trans this
          have hz2 := hE2.size
          have HS := hid (show (ds.drop q).reverse = (ds.drop (q + 1)).reverse ++ [ds[q]] by rw [List.drop_eq_getElem_cons hq, List.reverse_cons])
          clear hc hcell
          go_wp2_with (at_builtin; refine wp_append1 wr rfl (.tmp 41) (.tmp 46) _ rfl wo.heap.size 5 1 1 _ Tryd.underlying56 infoU8 rfl (by omega) (by omega) _ _ _ hown rfl [.int .u8 ds[q].toNat] rfl (by simp [Value.oneCell']) _ rfl rfl (by omega) hz2 ?_; intro v' w' ho' hb')
          go_roundw
          case rel =>
            refine ⟨?_, hE2.trans hb'⟩
            have ho2 : w'.ownsRow wo.heap.size 5 1 v' (ds.length - q) (flat encU (ds.drop q).reverse) := by
              rw [HS.out, flat_snoc]
              rw [show ds.length - q = ds.length - (q + 1) + 1 by omega]; exact ho'
            cases q with
            | zero => exact .inr ⟨by congr 1, by simpa using ho2⟩
            | succ q => exact .inl ⟨q, by congr 1; omega, by omega, ho2⟩
          case measure => simp [intOf]
        · have hS2 := Sl.of_own hown (by unfold maxLen; omega)
          have hS3 := hS2
          obtain ⟨_, _, A2, c2, rfl, _, _, _⟩ := hS3
          have hcv := convU wr A2 c2 ds.reverse _ _ (by simpa using hln) (by simpa using hS2)
          rw [List.length_reverse] at hcv
          clear hS2 hown
          go_wp2
          go_ret
          exact ⟨ret_str (by unfold decP; rw [← HF.out]), Ext.tr hE hE2⟩
    · have hmb : ((m : Int) != 0) = true := by rw [bne_iff_ne]; omega
      have hm0 : (0 : Int) ≤ (m : Int) % 10 := by omega
      have HL2 := hid (show ds ++ [UInt8.ofNat (48 + m % 10)] ++ revD (m / 10) = revD n by rw [← HL.out, revD_pos m (by omega)]; simp)
      have hm1 : ¬ (m : Int) % 10 < 0 := by omega
      go_wp2_with (at_builtin; refine wp_append1 wr rfl (.tmp 22) (.tmp 26) _ rfl w.heap.size 5 1 1 _ Tryd.underlying56 infoU8 rfl (by omega) (by omega) _ _ _ hown rfl [.int .u8 (48 + (m : Int) % 10)] rfl (by simp [Value.oneCell']) _ rfl rfl (by omega) hz ?_; intro v' w' ho' hb')
      go_roundw
      case rel => exact ⟨m / 10, ds ++ [UInt8.ofNat (48 + m % 10)], by omega, by go_num, HL2, by rw [flat_snoc, List.length_append]; rw [digU] at ho'; exact ho', hE.trans hb'⟩
      case measure => simp [intOf]; omega
theorem own_shape {w : World} {lo t K n : Nat} {v : Value} {xs : List Value} (h : w.ownsRow lo t K v n xs) (hm : n ≤ 2097152) : ∃ A c, v = .slice A n c ∧ w.ownsRow lo t K (.slice A n c) n xs := by
  have hS := Sl.of_own h (by unfold maxLen; omega)
  obtain ⟨_, _, A, c, rfl, _⟩ := hS
  exact ⟨A, c, rfl, h⟩
set_option maxRecDepth 100000 in
set_option maxHeartbeats 1000000 in
theorem l01DecN (n : Nat) (w : World) (hp : 0 < n) (hn : n ≤ 1000000000000) :
    Calls Tryd.prog 32 #[.int .i64 (-(n : Int))] w fun e w' => e = .returned (.string ⟨(45 :: Lib.decDigits n).toArray⟩) ∧ Ext w w' := by
  have hb : ((-(n : Int)) == 0) = false := by rw [beq_eq_false_iff_ne]; omega
  have HD := hid (revD_dec n hp)
  have hl13 := revD_len13 n hn
  have hneg : -(n : Int) < 0 := by omega
  go_enter Tryd.func32, Tryd.ntmps32
  go_wp2
  go_loopw [3, 4, 5] (fun u i _ wr => ∃ (m : Nat) (ds : List UInt8), m ≤ n ∧ i = .int .i64 (-(m : Int)) ∧ Hid (ds ++ revD m = revD n) ∧ wr.ownsRow w.heap.size 5 1 u ds.length (flat encU ds) ∧ Ext w wr) (fun _ i _ _ => (-(intOf i)).toNat)
  case atStart => exact ⟨n, [], by omega, rfl, hid rfl, own_empty _ _ _ _ (Nat.le_refl _), Ext.new _ _⟩
  case round =>
    obtain ⟨m, ds, hmn, rfl, HL, hown, hE⟩ := hrel
    have hz := hE.size
    have hdl : ds.length ≤ 13 := by
      have := congrArg List.length HL.out
      rw [List.length_append] at this; omega
    by_cases hm : m = 0
    · subst hm
      have HL2 := hid (show ds = revD n by have := HL.out; rw [revD_zero] at this; simpa using this)
      clear HL
      rw [show (-((0 : Nat) : Int)) = (0 : Int) from rfl]
      go_wp2_with (at_builtin; refine wp_append1 wr rfl (.tmp 30) (.tmp 31) _ rfl w.heap.size 5 1 1 _ Tryd.underlying56 infoU8 rfl (by omega) (by omega) _ _ _ hown rfl [.int .u8 45] rfl (by simp [Value.oneCell']) _ rfl rfl (by omega) hz ?_; intro v3 w3 ho3 hb3; obtain ⟨A, c, rfl, ho4⟩ := own_shape ho3 (by omega); clear ho3)
      have hE3 := hE.trans hb3
      have hes : (flat encU ds) ++ [Value.int .u8 45] = flat encU (ds ++ [45]) := by rw [flat_snoc]; rfl
      have hle : ds.length + 1 = (ds ++ [(45 : UInt8)]).length := by simp
      rw [hes, hle] at ho4
      rw [hle]
      clear hle
      have HF := hid (show (ds ++ [(45 : UInt8)]).reverse = 45 :: Lib.decDigits n by rw [HL2.out, List.reverse_append, HD.out]; rfl)
      have hdl2 : (ds ++ [(45 : UInt8)]).length ≤ 14 := by simp; omega
      have hln : 0 < (ds ++ [(45 : UInt8)]).length := by simp
      clear hown hes HL2 hdl hE hz
      have hle3 : ds.length + 1 ≤ (ds ++ [(45 : UInt8)]).length ∧ (ds ++ [(45 : UInt8)]).length ≤ ds.length + 1 := by simp
      generalize ds ++ [(45 : UInt8)] = ds at *
      have hS := Sl.of_own ho4 (by unfold maxLen; omega)
      obtain ⟨_, _, A', c', he, hnc, hcm, hcell⟩ := hS
      simp only [Value.slice.injEq] at he
      obtain ⟨rfl, _, rfl⟩ := he
      clear ho4
      obtain ⟨wo, rfl⟩ : ∃ wo : World, wo = w3 := ⟨_, rfl⟩
      go_loopw [6, 7] (fun u i wr => ((∃ q : Nat, i = .int .i64 q ∧ q < ds.length ∧ wr.ownsRow wo.heap.size 5 1 u (ds.length - (q + 1)) (flat encU (ds.drop (q + 1)).reverse)) ∨ (i = .int .i64 (-1) ∧ wr.ownsRow wo.heap.size 5 1 u ds.length (flat encU ds.reverse))) ∧ Ext wo wr) (fun _ i _ => (intOf i + 1).toNat)
      case atStart => exact ⟨.inl ⟨ds.length - 1, by congr 1; omega, by omega, by rw [show ds.length - 1 + 1 = ds.length by omega, Nat.sub_self, List.drop_length]; exact own_empty _ _ _ _ (Nat.le_refl _)⟩, Ext.new _ _⟩
      case round =>
        obtain ⟨⟨q, rfl, hq, hown⟩ | ⟨rfl, hown⟩, hE2⟩ := hrel
        · obtain ⟨b, off, rfl, hb1, hb2, hc⟩ := hcell hln
          have c0 : wr.cell? ⟨b, off + q, none⟩ = some (.int .u8 ds[q].toNat) := by
            have := hc (q * 1 + 0) _ (flat_get encU_len ds q hq 0 (by omega))
            simp only [Nat.mul_one, Nat.add_zero] at this
            exact (hE2.cell (p := ⟨b, _, none⟩) hb2).trans this
          have hz2 := hE2.size
          have HS := hid (show (ds.drop q).reverse = (ds.drop (q + 1)).reverse ++ [ds[q]] by rw [List.drop_eq_getElem_cons hq, List.reverse_cons])
          clear hc hcell
          go_wp2_with (at_builtin; refine wp_append1 wr rfl (.tmp 41) (.tmp 46) _ rfl wo.heap.size 5 1 1 _ Tryd.underlying56 infoU8 rfl (by omega) (by omega) _ _ _ hown rfl [.int .u8 ds[q].toNat] rfl (by simp [Value.oneCell']) _ rfl rfl (by omega) hz2 ?_; intro v' w' ho' hb')
          go_roundw
          case rel =>
            refine ⟨?_, hE2.trans hb'⟩
            have ho2 : w'.ownsRow wo.heap.size 5 1 v' (ds.length - q) (flat encU (ds.drop q).reverse) := by
              rw [HS.out, flat_snoc]
              rw [show ds.length - q = ds.length - (q + 1) + 1 by omega]; exact ho'
            cases q with
            | zero => exact .inr ⟨by congr 1, by simpa using ho2⟩
            | succ q => exact .inl ⟨q, by congr 1; omega, by omega, ho2⟩
          case measure => simp [intOf]
        · have hS2 := Sl.of_own hown (by unfold maxLen; omega)
          have hS3 := hS2
          obtain ⟨_, _, A2, c2, rfl, _, _, _⟩ := hS3
          have hcv := convU wr A2 c2 ds.reverse _ _ (by simpa using hln) (by simpa using hS2)
          rw [List.length_reverse] at hcv
          clear hS2 hown
          go_wp2
          go_ret
          exact ⟨ret_str (by rw [← HF.out]), Ext.tr hE3 hE2⟩
    · have hmb : (-(m : Int) != 0) = true := by rw [bne_iff_ne]; omega
      have e1 : (-(m : Int)).tmod 10 = -((m % 10 : Nat) : Int) := by rw [Int.neg_tmod]; congr 1
      have e2 : (-(m : Int)).tdiv 10 = -((m / 10 : Nat) : Int) := by rw [Int.neg_tdiv]; congr 1
      have HL2 := hid (show ds ++ [UInt8.ofNat (48 + m % 10)] ++ revD (m / 10) = revD n by rw [← HL.out, revD_pos m (by omega)]; simp)
      have hd9 : m % 10 ≤ 9 := by omega
      have HD3 := hid (show m / 10 < m by omega)
      have E2 := hid e2
      clear e2
      have hm0 : ¬ (0 : Int) ≤ -(m : Int) := by omega
      have hmc : -(m : Int) < 0 := by omega
      by_cases hd0 : m % 10 = 0
      · rw [hd0] at e1
        have hnl : ¬ (-((0 : Nat) : Int)) < 0 := by omega
        have hz8 : Value.int .u8 48 = .int .u8 (UInt8.ofNat (48 + m % 10)).toNat := by rw [hd0]; rfl
        have HZ8 := hid hz8
        clear hz8 hd0
        go_wp2_with (at_builtin; refine wp_append1 wr rfl (.tmp 22) (.tmp 26) _ rfl w.heap.size 5 1 1 _ Tryd.underlying56 infoU8 rfl (by omega) (by omega) _ _ _ hown rfl [.int .u8 48] rfl (by simp [Value.oneCell']) _ rfl rfl (by omega) hz ?_; intro v' w' ho' hb'; have e2 := E2.out)
        go_roundw
        case rel => exact ⟨m / 10, ds ++ [UInt8.ofNat (48 + m % 10)], by omega, by first | rfl | simp, HL2, by rw [flat_snoc, List.length_append]; rw [HZ8.out] at ho'; exact ho', hE.trans hb'⟩
        case measure => have := HD3.out; simp [intOf]; omega
      · have hnl : -((m % 10 : Nat) : Int) < 0 := by omega
        have HZ8 := hid (digU m)
        go_wp2_with (at_builtin; refine wp_append1 wr rfl (.tmp 22) (.tmp 26) _ rfl w.heap.size 5 1 1 _ Tryd.underlying56 infoU8 rfl (by omega) (by omega) _ _ _ hown rfl [.int .u8 (48 + (m : Int) % 10)] rfl (by simp [Value.oneCell']) _ rfl rfl (by omega) hz ?_; intro v' w' ho' hb'; have e2 := E2.out)
        go_roundw
        case rel => exact ⟨m / 10, ds ++ [UInt8.ofNat (48 + m % 10)], by omega, by first | rfl | simp, HL2, by rw [flat_snoc, List.length_append]; rw [HZ8.out] at ho'; exact ho', hE.trans hb'⟩
        case measure => have := HD3.out; simp [intOf]; omega
theorem l01Dec (n : Int) (w : World) (h1 : -1000000000000 ≤ n) (h2 : n ≤ 1000000000000) :
    Calls Tryd.prog 32 #[.int .i64 n] w fun e w' => e = .returned (.string (decT n)) ∧ Ext w w' := by
  by_cases h : 0 ≤ n
  · obtain ⟨u, rfl⟩ := Int.eq_ofNat_of_zero_le h
    have e : decT (u : Int) = decP u := by unfold decT decP; rw [Lib.itoa_nonneg]
    rw [e]; exact l01DecP u w (by omega)
  · obtain ⟨u, rfl⟩ : ∃ u : Nat, n = -(u : Int) := ⟨n.natAbs, by omega⟩
    have e : decT (-(u : Int)) = ⟨(45 :: Lib.decDigits u).toArray⟩ := by unfold decT; rw [Lib.itoa_neg u (by omega)]
    rw [e]; exact l01DecN u w (by omega) (by omega)
/-! ### lists of numbers -/
def digs (ns : List Int) : List (List UInt8) := ns.map Lib.itoa
def textT (ns : List Int) : ByteArray := ⟨(Lib.join (digs ns) [44]).toArray⟩
def decOk (n : Int) : Prop := -1000000000000 ≤ n ∧ n ≤ 1000000000000
theorem dec_lenP (n : Nat) (h : n ≤ 1000000000000) : (Lib.decDigits n).length ≤ 13 := by
  by_cases h0 : n = 0
  · subst h0; rw [Lib.decDigits_one (by omega)]; simp
  · rw [← revD_dec n (by omega), List.length_reverse]; exact revD_len13 n h
theorem dec_len (n : Int) (h : decOk n) : (Lib.itoa n).length ≤ 14 := by
  obtain ⟨h1, h2⟩ := h
  unfold Lib.itoa
  split
  · have := dec_lenP n.natAbs (by omega); simp; omega
  · have := dec_lenP n.toNat (by omega); omega
theorem join_snoc (xs : List (List UInt8)) (y sep : List UInt8) (h : 0 < xs.length) : Lib.join (xs ++ [y]) sep = Lib.join xs sep ++ sep ++ y := by
  cases xs with
  | nil => simp at h
  | cons x r =>
    rw [List.cons_append, Lib.join_cons, Lib.join_cons]
    unfold Lib.joinTail
    simp
theorem join_le (ns : List Int) (h : ∀ n ∈ ns, decOk n) : (Lib.join (digs ns) [44]).length ≤ 15 * ns.length := by
  have key : ∀ l : List Int, (∀ n ∈ l, decOk n) → (Lib.joinTail [44] (digs l)).length ≤ 15 * l.length := by
    intro l
    induction l with
    | nil => intro _; simp [Lib.joinTail, digs]
    | cons a l ih =>
      intro hl
      have h1 := ih (fun n hn => hl n (List.mem_cons_of_mem _ hn))
      have h2 := dec_len a (hl a (List.mem_cons_self ..))
      unfold Lib.joinTail digs at *
      simp at *
      omega
  cases ns with
  | nil => simp [digs, Lib.join_nil]
  | cons a l =>
    have h1 := key l (fun n hn => h n (List.mem_cons_of_mem _ hn))
    have h2 := dec_len a (h a (List.mem_cons_self ..))
    unfold digs at *
    rw [List.map_cons, Lib.join_cons, List.length_append, List.length_cons]
    omega
theorem str_data {s : ByteArray} {l : List UInt8} (h : s.data.toList = l) : s = ⟨l.toArray⟩ := by
  obtain ⟨⟨x⟩⟩ := s
  simp at h; subst h; rfl
theorem digs_take (ns : List Int) (k : Nat) (h : k < ns.length) : digs (ns.take (k + 1)) = digs (ns.take k) ++ [Lib.itoa ns[k]] := by
  unfold digs; rw [List.take_succ_eq_append_getElem h, List.map_append]; rfl
set_option maxRecDepth 100000 in
set_option maxHeartbeats 1000000 in
theorem l01List (ns : List Int) (lo hi : Nat) (v : Value) (w : World) (hv : Sl lo hi w 1 v ns.length (flat encI ns)) (hp : 0 < ns.length) (hn : ns.length ≤ 64) (hb : ∀ n ∈ ns, decOk n) :
    Calls Tryd.prog 21 #[v] w fun e w' => e = .returned (.string (textT ns)) ∧ Ext w w' := by
  obtain ⟨hhi, _, A, c, rfl, hnc, hcm, hcell⟩ := hv
  have hpb : ((ns.length : Int) == 0) = false := by rw [beq_eq_false_iff_ne]; omega
  have HLE := hid (fun k => join_le (ns.take k) (fun n h => hb n (List.mem_of_mem_take h)))
  go_enter Tryd.func21, Tryd.ntmps21
  go_wp2
  go_loopw [3, 4] (fun o i wr => ∃ (k : Nat) (s : ByteArray), k ≤ ns.length ∧ i = .int .i64 k ∧ o = .string s ∧ Hid (s.data.toList = Lib.join (digs (ns.take k)) [44]) ∧ Ext w wr) (fun _ i _ => ns.length - (intOf i).toNat)
  case atStart => exact ⟨0, _, by omega, rfl, rfl, hid rfl, Below.refl _ _⟩
  case round =>
    obtain ⟨k, s, hk, rfl, rfl, HS, hE⟩ := hrel
    have hsz : s.size ≤ 1100 := by
      have h1 := HLE.out k
      rw [← HS.out, List.length_take] at h1
      have h2 : s.data.toList.length = s.size := rfl
      omega
    by_cases hlt : k < ns.length
    · obtain ⟨b, off, rfl, hb1, hb2, hc⟩ := hcell (by omega)
      have c0 := cellsI hc k hlt
      replace c0 := (hE.cell (p := ⟨b, _, none⟩) (by show b < _; omega)).trans c0
      have hnk := hb _ (List.getElem_mem hlt)
      have hsd : (decT ns[k]).size ≤ 14 := dec_len _ hnk
      have HT := hid (digs_take ns k hlt)
      clear hc
      by_cases hk0 : k = 0
      · subst hk0
        have hS0 : s = ⟨#[]⟩ := by
          have := HS.out
          rw [List.take_zero] at this
          exact str_data this
        subst hS0
        rw [Nat.add_zero] at c0
        rw [show ((0 : Nat) : Int) = (0 : Int) from rfl]
        go_wp2_with (go_at_call 32; refine (l01Dec _ _ hnk.1 hnk.2).mono ?_; rintro e w2 ⟨rfl, hE2⟩)
        go_roundw
        case rel => exact ⟨1, _, by omega, by go_num, rfl, hid (by rw [HT.out]; simp [digs, Lib.join_one, decT]), Ext.tr hE hE2⟩
        case measure => simp [intOf]; omega
      · have hk1 : (0 : Int) < k := by omega
        go_wp2_with (go_at_call 32; refine (l01Dec _ _ hnk.1 hnk.2).mono ?_; rintro e w2 ⟨rfl, hE2⟩)
        go_roundw
        case rel => exact ⟨k + 1, _, by omega, by go_num, rfl, hid (by rw [HT.out, join_snoc _ _ _ (by simp [digs]; omega), ← HS.out]; simp [decT]), Ext.tr hE hE2⟩
        case measure => simp [intOf]; omega
    · obtain rfl : k = ns.length := by omega
      go_wp2
      go_ret
      exact ⟨ret_str (by have := HS.out; rw [List.take_length] at this; exact str_data this), hE⟩
/-! ### the program's -/
abbrev tabP (w : World) : Prop := Lib.TabIs Tryd.prog w "internal/strconv.uint64pow10" .u64 Lib.pow10Tab
theorem decimal (n : Int) (w : World) (hn : decOk n) (ht : tabP w) :
    Calls Tryd.prog 34 #[.int .i64 n] w fun e w' => e = .returned (.string (decT n)) ∧ Ext w w' := by
  obtain ⟨h1, h2⟩ := hn
  have HF := hid (Tryd.strconv_FormatInt_10 n (by omega) (by omega) w ht)
  clear ht
  go_enter Tryd.func34, Tryd.ntmps34
  go_wp2_with (go_at_call 40; refine HF.out.mono ?_; rintro e w' ⟨rfl, k, os, rfl⟩)
  go_ret
  exact ⟨rfl, by unfold Ext; exact Lib.below_grow _ _ (Nat.le_refl _) _ _⟩
def encS (s : ByteArray) : List Value := [.string s]
theorem encS_len (s : ByteArray) : (encS s).length = 1 := rfl
theorem infoStr : (Tryd.prog.info? 9).map (fun i => (i.zero, i.size, i.bytes)) = some (some (.string ⟨#[]⟩), 1, 16) := by kernel_rfl
theorem run_made0 {P : Program} (t e : TypeId) (z : Value) (size bytes : Nat) (ht : P.underlying t = some (.slice e)) (hi : (P.info? e).map (fun i => (i.zero, i.size, i.bytes)) = some (some z, size, bytes)) (n : Nat) (hb : n * bytes ≤ 281474976710656) (hn : n ≤ maxLen) (w : World) :
    (Instr.makeSlice t (.int .i64 0) (.int .i64 (n : Int))).run P w = .ok (.slice (some ⟨w.heap.size, 0, none⟩) 0 n) (w.alloc (.cells (zeros z (n * size)) e)) := by
  obtain ⟨i, h1, h2, h3, h4⟩ := info_parts hi
  subst h3
  subst h4
  have hb' : (i.bytes : Int) * (n : Int) ≤ 281474976710656 := by
    have h : ((i.bytes * n : Nat) : Int) ≤ 281474976710656 := by rw [Nat.mul_comm]; omega
    rwa [Int.natCast_mul] at h
  have hr := run_make (P := P) w t e i z ht h1 h2 .i64 .i64 0 n (by omega) (by omega) hb' (by unfold maxLen at hn; omega)
  simpa only [Int.toNat_natCast, Int.toNat_zero, zeros] using hr
def decs (ns : List Int) : List ByteArray := ns.map decT
theorem decs_len (ns : List Int) : (decs ns).length = ns.length := by unfold decs; simp
theorem decs_digs (ns : List Int) : (decs ns).map (fun s => s.data.toList) = digs ns := by unfold decs digs; rw [List.map_map]; rfl
theorem decs_take (ns : List Int) (k : Nat) (h : k < ns.length) : decs (ns.take (k + 1)) = decs (ns.take k) ++ [decT ns[k]] := by
  unfold decs; rw [List.take_succ_eq_append_getElem h, List.map_append]; rfl
set_option maxRecDepth 100000 in
set_option maxHeartbeats 1000000 in
theorem listText (ns : List Int) (lo hi : Nat) (v : Value) (w : World) (hv : Sl lo hi w 1 v ns.length (flat encI ns)) (hp : 0 < ns.length) (hn : ns.length ≤ 64) (hb : ∀ n ∈ ns, decOk n) (ht : tabP w) :
    Calls Tryd.prog 25 #[v] w fun e w' => e = .returned (.string (textT ns)) ∧ Ext w w' := by
  obtain ⟨hhi, _, A, c, rfl, hnc, hcm, hcell⟩ := hv
  have hpb : ((ns.length : Int) == 0) = false := by rw [beq_eq_false_iff_ne]; omega
  have HT0 := hid ht
  have HLE := hid (join_le ns hb)
  have hmk := run_made0 44 9 _ 1 16 Tryd.underlying44 infoStr ns.length (by omega) (by unfold maxLen; omega)
  clear ht
  go_enter Tryd.func25, Tryd.ntmps25
  go_wp2
  clear hmk
  go_loopw [3, 17] (fun u i wr => ∃ k : Nat, k ≤ ns.length ∧ i = .int .i64 k ∧ wr.ownsRow w.heap.size 9 1 u k (flat encS (decs (ns.take k))) ∧ Ext w wr) (fun _ i _ => ns.length - (intOf i).toNat)
  case atStart => exact ⟨0, by omega, rfl, World.ownsRow_made _ _ _ (Nat.le_refl _) (by unfold maxLen; omega) (by rw [zeros_size]; omega), Ext.new _ _⟩
  case round =>
    obtain ⟨k, hk, rfl, hown, hE⟩ := hrel
    by_cases hlt : k < ns.length
    · obtain ⟨b, off, rfl, hb1, hb2, hc⟩ := hcell (by omega)
      have c0 := cellsI hc k hlt
      replace c0 := (hE.cell (p := ⟨b, _, none⟩) (by show b < _; omega)).trans c0
      have hnk := hb _ (List.getElem_mem hlt)
      have HT := hid (decs_take ns k hlt)
      have hin : inB ns[k] (-1000000000000) 1000000000000 = true := by obtain ⟨ha, hb⟩ := hnk; unfold inB; simp; omega
      clear hc hcell
      generalize ns[k] = n at *
      go_wp2_with fail
      refine (cv (within _ _ _ _) (vb hin)).mono ?_
      rintro e w' ⟨rfl, rfl⟩
      go_wp2_with fail
      refine (decimal n _ hnk (tab_ext (by kernel_rfl : Tryd.prog.globalNamed "internal/strconv.uint64pow10" = some 1) HT0.out hE)).mono ?_
      rintro e w2 ⟨rfl, hE2⟩
      have hown2 := ownE hown hE2
      have hE3 := Ext.tr hE hE2
      have hz3 := hE3.size
      go_wp2_with (at_builtin; refine wp_append1 w2 rfl (.tmp 24) (.tmp 27) _ rfl w.heap.size 9 1 16 _ Tryd.underlying44 infoStr rfl (by omega) (by omega) _ _ _ hown2 rfl [.string (decT n)] rfl (by simp [Value.oneCell']) _ rfl rfl (by omega) hz3 ?_; intro v' w' ho' hb')
      go_roundw
      case rel => exact ⟨k + 1, by omega, by go_num, by rw [HT.out, flat_snoc]; exact ho', hE3.trans hb'⟩
      case measure => simp [intOf]; omega
    · obtain rfl : k = ns.length := by omega
      rw [List.take_length] at hown
      have hS := Sl.of_own hown (by unfold maxLen; omega)
      obtain ⟨hh, _, A2, c2, rfl, hnc2, hcm2, hcell2⟩ := hS
      obtain ⟨b2, off2, rfl, hb1, hb2, hc2⟩ := hcell2 (by omega)
      have hj := Tryd.strings_Join b2 off2 c2 (decs ns) ⟨#[44]⟩ wr (fun j x hx => by
        have hjl : j < (decs ns).length := (List.getElem?_eq_some_iff.1 hx).1
        have := hc2 (j * 1 + 0) _ (flat_get encS_len (decs ns) j hjl 0 (by omega))
        simp only [Nat.mul_one, Nat.add_zero] at this
        rw [this]
        rw [List.getElem?_eq_getElem hjl] at hx
        simp at hx; rw [hx]) hb2 (by rw [decs_len]; omega) (by rw [decs_len]; exact hnc2) (by rw [decs_digs]; have := HLE.out; show (Lib.join (digs ns) [44]).length ≤ _; omega)
      rw [decs_len, decs_digs] at hj
      have HJ := hid hj
      clear hj hc2 hcell2 hown hcell
      go_wp2_with (go_at_call 35; refine HJ.out.mono ?_; rintro e w2 ⟨rfl, hE2⟩)
      go_ret
      exact ⟨ret_str rfl, Ext.tr hE hE2⟩
def idText (s : ByteArray) (ns : List Int) : ByteArray := (s ++ ⟨#[32]⟩) ++ textT ns
theorem withId (s : ByteArray) (ns : List Int) (lo hi : Nat) (v : Value) (w : World) (hs : s.size ≤ 100) (hv : Sl lo hi w 1 v ns.length (flat encI ns)) (hp : 0 < ns.length) (hn : ns.length ≤ 64) (hb : ∀ n ∈ ns, decOk n) (ht : tabP w) :
    Calls Tryd.prog 15 #[.string s, v] w fun e w' => e = .returned (.string (idText s ns)) ∧ Ext w w' := by
  have hsz : (textT ns).size ≤ 1100 := by
    have h1 := join_le ns hb
    have h2 : (textT ns).size = (Lib.join (digs ns) [44]).length := rfl
    omega
  have HT := hid ht
  clear ht
  go_enter Tryd.func15, Tryd.ntmps15
  go_wp2_with (go_at_call 25; refine (listText ns lo hi v _ hv hp hn hb HT.out).mono ?_; rintro e w2 ⟨rfl, hE⟩)
  go_ret
  exact ⟨rfl, hE⟩
end Go.Proofs.YtopjccbjdcoanaaDoor
