/- Lists of numbers: the contracts of the laws' own functions that copy, compare, mark and hold them. -/
import Derived.Test.YtcocdigcmcpefaaOpen
import Derived.OpenShut
namespace Go.Proofs.Ytcocdigcmcpefaa
set_option linter.unusedVariables false
open Go.RowKit Go.ChangeShapes Go.WideShapes Go.Deep
def encI (n : Int) : List Value := [.int .i64 n]
theorem encI_len (n : Int) : (encI n).length = 1 := rfl
theorem cellsI {xs : List Int} {w : World} {b off : Nat} (hc : ∀ j u, (flat encI xs)[j]? = some u → w.cell? ⟨b, off + j, none⟩ = some u) (i : Nat) (hi : i < xs.length) : w.cell? ⟨b, off + i, none⟩ = some (.int .i64 xs[i]) := by
  have := cell_flat encI_len hc i hi 0 _ (by omega) rfl
  simpa using this
theorem getI (xs : List Int) (i : Nat) (hi : i < xs.length) : (flat encI xs)[i]? = some (.int .i64 xs[i]) := by
  have := flat_get encI_len xs i hi 0 (by omega)
  simpa [encI] using this
theorem openInt64S {H : Type} {ec : TypeId × Value → H} {W : World} {A : Option Addr} {l c : Nat} {d : DataW H} {p : List MemPlace} (h : DataW.Trod ec Try.prog W 0 (fun _ => true) true 29 (.slice A l c) d p) :
    ∃ xs : List Int, xs.length = l ∧ Sl 0 W.heap.size W 1 (.slice A l c) xs.length (flat encI xs) ∧ ∀ x ∈ xs, -9223372036854775808 ≤ x ∧ x ≤ 9223372036854775807 :=
  open_flat encI_len (by omega) (ok := fun x => -9223372036854775808 ≤ x ∧ x ≤ 9223372036854775807) Try.underlying29 (by kernel_rfl) (fun n cs y hl ht => by
    match cs, hl with
    | [c0], _ =>
      obtain ⟨x, q, _, hw⟩ := DataW.trod_int Try.underlying2 ht
      simp only [List.cons.injEq, and_true] at q; subst q
      exact ⟨x, rfl, bounds_i64 hw⟩) h
theorem infoInt : (Try.prog.info? 2).map (fun i => (i.zero, i.size, i.bytes)) = some (some (.int .i64 0), 1, 8) := by kernel_rfl

theorem toInt64S (xs : List Int) (lo hi : Nat) (v : Value) (w : World) (hv : Sl lo hi w 1 v xs.length (flat encI xs)) (hn : xs.length ≤ 1048576) :
    Calls Try.prog 15 #[v] w fun e w' => (∃ v', e = .returned v' ∧ Own w.heap.size w'.heap.size w' 2 1 v' xs.length (flat encI xs)) ∧ Ext w w' := by
  obtain ⟨hhi, hlen, A, c, rfl, hnc, hcm, hcell⟩ := hv
  have HL := hid hlen; clear hlen
  unfold maxLen at hcm
  have hmk := run_made 29 2 _ 1 8 Try.underlying29 infoInt xs.length (by omega) (by unfold maxLen; omega)
  simp only [Nat.mul_one] at hmk
  go_enter Try.func15, Try.ntmps15
  go_wp2
  clear hmk
  go_loopw [4] (fun i wr => ∃ (k : Nat), k ≤ xs.length ∧ i = .int .i64 k ∧ Part wr w.heap.size 2 xs.length k (flat encI xs) ∧ Ext w wr) (fun i _ => xs.length - (intOf i).toNat)
  case atStart => exact ⟨0, by omega, rfl, by have := Part.zeros w 2 (.int .i64 0) xs.length 1 (flat encI xs); simpa using this, Ext.new _ _⟩
  case round =>
    obtain ⟨k, hk, rfl, hP, hE⟩ := hrel
    by_cases hlt : k < xs.length
    · obtain ⟨b, off, rfl, hb1, hb2, hc⟩ := hcell (by omega)
      have c0 := cellsI hc k hlt
      clear hc
      have hcc := (bcell hE).1
      have hbw : b < w.heap.size := by omega
      obtain ⟨u0, g0⟩ := hP.cell k hlt
      have f0 := hP.frozen
      go_wp2
      go_roundw
      case rel => exact ⟨k + 1, by omega, by go_num, hP.set_ hlt (getI xs k hlt), by go_tidy; go_grown⟩
      case measure => simp [intOf]; omega
    · obtain rfl : k = xs.length := by omega
      go_wp2
      go_ret
      exact ⟨⟨_, rfl, Own.of (Part.own (K := 1) (by simpa using hP) (Nat.le_refl _) (by unfold maxLen; omega) HL.out) (by omega)⟩, hE⟩
theorem eqInt64S (xs : List Int) (lo hi lo' hi' : Nat) (v v' : Value) (w : World) (hv : Sl lo hi w 1 v xs.length (flat encI xs)) (hv' : Sl lo' hi' w 1 v' xs.length (flat encI xs)) (hn : xs.length ≤ 2097152) :
    Calls Try.prog 17 #[v, v'] w fun e w' => e = .returned (.bool true) ∧ Ext w w' := by
  obtain ⟨hhi, _, A, c, rfl, hnc, hcm, hcell⟩ := hv
  obtain ⟨hhi', _, A', c', rfl, hnc', hcm', hcell'⟩ := hv'
  go_enter Try.func17, Try.ntmps17
  go_wp2
  go_loopw [5] (fun i wr => ∃ (k : Nat), k ≤ xs.length ∧ i = .int .i64 k ∧ Ext w wr) (fun i _ => xs.length - (intOf i).toNat)
  case atStart => exact ⟨0, by omega, rfl, Below.refl _ _⟩
  case round =>
    obtain ⟨k, hk, rfl, hE⟩ := hrel
    by_cases hlt : k < xs.length
    · obtain ⟨b, off, rfl, hb1, hb2, hc⟩ := hcell (by omega)
      obtain ⟨b', off', rfl, hb1', hb2', hc'⟩ := hcell' (by omega)
      have c0 := cellsI hc k hlt
      have c1 := cellsI hc' k hlt
      clear hc hc'
      have hcc := (bcell hE).1
      have hbw : b < w.heap.size := by omega
      have hbw' : b' < w.heap.size := by omega
      have hki : (k : Int) < xs.length := by omega
      go_wp2
      go_quiet (fail)
      go_wp2
      go_roundw
      case rel => exact ⟨k + 1, by omega, by go_num, Ext.tr hE (Ext.drewN _ _)⟩
      case measure => simp [intOf]; omega
    · go_wp2
      go_ret
      exact ⟨rfl, hE⟩
def markInts (k : Int) (n : Nat) : List Value := flat (fun i : Nat => [Value.int .i64 (k + i)]) (List.range n)
theorem markInts_get (k : Int) (n i : Nat) (hi : i < n) : (markInts k n)[i]? = some (.int .i64 (k + i)) := by
  have := flat_get (enc := fun i : Nat => [Value.int .i64 (k + i)]) (K := 1) (fun _ => rfl) (List.range n) i (by simpa using hi) 0 (by omega)
  rw [List.getElem_range] at this
  simpa [markInts] using this
theorem markInts_len (k : Int) (n : Nat) : (markInts k n).length = n * 1 := by
  have := flat_length (enc := fun i : Nat => [Value.int .i64 (k + i)]) (K := 1) (fun _ => rfl) (List.range n)
  rw [List.length_range] at this
  exact this
theorem markInt64S (k0 : Int) (n lo hi : Nat) (v : Value) (xs : List Value) (w : World) (hv : Own lo hi w 2 1 v n xs) (h0 : 0 < k0) (hk : k0 + n ≤ 1099511627776) :
    Calls Try.prog 21 #[v, .int .i64 k0] w fun e w' => e = .returned (.int .i64 (k0 + n)) ∧ Own lo hi w' 2 1 v n (markInts k0 n) ∧ KeepI lo hi w w' := by
  obtain ⟨hhw, hn2, hl, ⟨rfl, rfl⟩ | ⟨g, c, cs, rfl, hlo, hhi, hnc, hcm, hB, hcs, hxs⟩⟩ := hv
  · go_enter Try.func21, Try.ntmps21
    go_wp2
    go_loopw [1, 5] (fun kk i wr => kk = .int .i64 k0 ∧ i = .int .i64 0 ∧ wr = w) (fun _ _ _ => 0)
    case atStart => exact ⟨rfl, rfl, rfl⟩
    case round =>
      obtain ⟨rfl, rfl, rfl⟩ := hrel
      go_wp2
      go_ret
      exact ⟨ret_int (by omega), ⟨hhw, by omega, by simp [markInts, flat], .inl ⟨rfl, rfl⟩⟩, KeepI.refl _ _ _⟩
  have hmg : n ≤ cs.size := by rw [hcs]; omega
  have hP0 : Part w g 2 cs.size 0 (markInts k0 n) := ⟨cs, hB, rfl, fun j hj => absurd hj (by omega)⟩
  have HC := hid hcs
  clear hcs hB hxs
  generalize cs.size = N at *
  clear cs
  go_enter Try.func21, Try.ntmps21
  go_wp2
  go_loopw [1, 5] (fun kk i wr => ∃ (k : Nat) (q : Int), k ≤ n ∧ i = .int .i64 k ∧ kk = .int .i64 q ∧ Hid (q = k0 + k) ∧ Part wr g 2 N k (markInts k0 n) ∧ KeepI lo hi w wr) (fun _ i _ => n - (intOf i).toNat)
  case atStart => exact ⟨0, k0, by omega, rfl, rfl, hid (by simp), hP0, KeepI.refl _ _ _⟩
  case round =>
    obtain ⟨i, q, hi, rfl, rfl, hq, hP, hK⟩ := hrel
    have hq1 : 0 < q ∧ q ≤ 1099511627776 := by have := hq.out; omega
    obtain ⟨hq1, hq2⟩ := hq1
    by_cases hlt : i < n
    · obtain ⟨u0, g0⟩ := hP.cell i (by omega)
      have f0 := hP.frozen
      go_wp2
      go_roundw
      case rel => exact ⟨i + 1, _, by omega, by go_num, rfl, hid (by have := hq.out; omega), hP.set_ (by omega) (by rw [hq.out]; exact markInts_get _ _ _ hlt), hK.set_ hlo hhi _⟩
      case measure => simp [intOf]; omega
    · obtain rfl : i = n := by omega
      go_wp2
      go_ret
      refine ⟨ret_int hq.out, ?_, hK⟩
      obtain ⟨cs, hB, hc1, hc2⟩ := hP
      refine ⟨Nat.le_trans hhw hK.size, hn2, markInts_len _ _, .inr ⟨g, c, cs, rfl, hlo, hhi, hnc, hcm, hB, by rw [hc1]; exact HC.out, ?_⟩⟩
      apply List.ext_getElem?
      intro j
      rw [List.getElem?_take]
      split
      · rename_i hj; rw [← hc2 j (by omega)]; simp
      · rename_i hj; rw [List.getElem?_eq_none (by rw [markInts_len]; omega)]
theorem heldInt64S (k0 : Int) (n lo hi : Nat) (v : Value) (w : World) (hv : Sl lo hi w 1 v n (markInts k0 n)) (hn2 : n ≤ 2097152) (h0 : 0 < k0) (hk : k0 + n ≤ 1099511627776) :
    Calls Try.prog 22 #[v, .int .i64 k0] w fun e w' => e = .returned (.int .i64 (k0 + n)) ∧ Ext w w' := by
  obtain ⟨hhi, _, A, c, rfl, hnc, hcm, hcell⟩ := hv
  go_enter Try.func22, Try.ntmps22
  go_wp2
  go_loopw [1, 5] (fun kk i wr => ∃ (k : Nat) (q : Int), k ≤ n ∧ i = .int .i64 k ∧ kk = .int .i64 q ∧ Hid (q = k0 + k) ∧ Ext w wr) (fun _ i _ => n - (intOf i).toNat)
  case atStart => exact ⟨0, k0, by omega, rfl, rfl, hid (by simp), Below.refl _ _⟩
  case round =>
    obtain ⟨i, q, hi, rfl, rfl, hq, hE⟩ := hrel
    have hq1 : 0 < q ∧ q ≤ 1099511627776 := by have := hq.out; omega
    obtain ⟨hq1, hq2⟩ := hq1
    by_cases hlt : i < n
    · obtain ⟨b, off, rfl, hb1, hb2, hc⟩ := hcell (by omega)
      have hbw : b < w.heap.size := by omega
      have c0 : w.cell? ⟨b, off + i, none⟩ = some (.int .i64 q) := hc i _ (by rw [hq.out]; exact markInts_get _ _ _ hlt)
      clear hc
      obtain ⟨hcc, _⟩ := bcell hE
      go_wp2
      go_roundw
      case rel => exact ⟨i + 1, _, by omega, by go_num, rfl, hid (by have := hq.out; omega), hE⟩
      case measure => simp [intOf]; omega
    · obtain rfl : i = n := by omega
      go_wp2
      go_ret
      exact ⟨ret_int hq.out, hE⟩
end Go.Proofs.Ytcocdigcmcpefaa
