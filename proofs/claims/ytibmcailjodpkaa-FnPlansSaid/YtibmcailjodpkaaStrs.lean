/- Lists of strings: the contracts of the laws' own functions that measure, copy, compare, mark and hold them. -/
import Derived.Test.YtibmcailjodpkaaOpen
import Derived.Test.YtibmcailjodpkaaMark
import Derived.OpenShut
import Derived.Deep.RegionHeld3
namespace Go.Proofs.Ytibmcailjodpkaa
set_option linter.unusedVariables false
open Go.RowKit Go.ChangeShapes Go.WideShapes Go.Deep
def encT (s : ByteArray) : List Value := [.string s]
theorem encT_len (s : ByteArray) : (encT s).length = 1 := rfl
theorem cellsT {xs : List ByteArray} {w : World} {b off : Nat} (hc : ∀ j u, (flat encT xs)[j]? = some u → w.cell? ⟨b, off + j, none⟩ = some u) (i : Nat) (hi : i < xs.length) : w.cell? ⟨b, off + i, none⟩ = some (.string xs[i]) := by
  have := cell_flat encT_len hc i hi 0 _ (by omega) rfl
  simpa using this
theorem getT (xs : List ByteArray) (i : Nat) (hi : i < xs.length) : (flat encT xs)[i]? = some (.string xs[i]) := by
  have := flat_get encT_len xs i hi 0 (by omega)
  simpa [encT] using this
theorem openStringS {H : Type} {ec : TypeId × Value → H} {W : World} {A : Option Addr} {l c : Nat} {d : DataW H} {p : List MemPlace} (h : DataW.Trod ec Try.prog W 0 (fun _ => true) true 39 (.slice A l c) d p) :
    ∃ xs : List ByteArray, xs.length = l ∧ Sl 0 W.heap.size W 1 (.slice A l c) xs.length (flat encT xs) ∧ ∀ x ∈ xs, x.size ≤ maxLen :=
  open_flat encT_len (by omega) (ok := fun x => x.size ≤ maxLen) Try.underlying39 (by kernel_rfl) (fun n cs y hl ht => by
    match cs, hl with
    | [c0], _ =>
      obtain ⟨x, q, _, hw⟩ := DataW.trod_string Try.underlying9 ht
      simp only [List.cons.injEq, and_true] at q; subst q
      exact ⟨x, rfl, hw⟩) h
theorem infoStr : (Try.prog.info? 9).map (fun i => (i.zero, i.size, i.bytes)) = some (some (.string ⟨#[]⟩), 1, 16) := by kernel_rfl
theorem szStringS (xs : List ByteArray) (lo hi : Nat) (v : Value) (l : Int) (w : World) (hv : Sl lo hi w 1 v xs.length (flat encT xs)) (hs : ∀ x ∈ xs, x.size ≤ maxLen) (hl : 0 ≤ l ∧ l ≤ 1048576) :
    Calls Try.prog 26 #[v, .int .i64 l] w fun e w' => (∃ r, e = .returned (.int .i64 r) ∧ (0 ≤ r → r ≤ 1048576 ∧ xs.length ≤ 1048576 ∧ ∀ x ∈ xs, x.size ≤ 1048576)) ∧ Ext w w' := by
  obtain ⟨hhi, _, A, c, rfl, hnc, hcm, hcell⟩ := hv
  obtain ⟨hl1, hl2⟩ := hl
  unfold maxLen at hcm
  by_cases h0 : l - xs.length < 0
  · go_enter Try.func26, Try.ntmps26
    go_wp2
    go_ret
    exact ⟨⟨-1, rfl, by omega⟩, by go_tidy; go_grown⟩
  · go_enter Try.func26, Try.ntmps26
    go_wp2
    go_loop [1, 5] (fun l' i => ∃ (k : Nat) (m : Int), k ≤ xs.length ∧ i = .int .i64 k ∧ l' = .int .i64 m ∧ (0 ≤ m ∧ m ≤ 1048576) ∧ Hid (∀ j (h : j < xs.length), j < k → (xs[j]).size ≤ 1048576)) (fun _ i => xs.length - (intOf i).toNat)
    case atStart => exact ⟨0, _, by omega, rfl, rfl, by omega, hid (fun j h hj => by omega)⟩
    case round =>
      obtain ⟨k, m, hk, rfl, rfl, ⟨hm0, hm1⟩, hall⟩ := hrel
      by_cases hlt : k < xs.length
      · obtain ⟨b, off, rfl, hb1, hb2, hc⟩ := hcell (by omega)
        have c0 := cellsT hc k hlt
        clear hc
        have hsk : (xs[k]).size ≤ maxLen := hs _ (List.getElem_mem hlt)
        unfold maxLen at hsk
        by_cases hz : m - (xs[k]).size < 0
        · go_wp2
          go_ret
          exact ⟨⟨-1, rfl, by omega⟩, Below.refl _ _⟩
        · go_wp2
          go_round
          case rel => exact ⟨k + 1, _, by omega, by go_num, rfl, by omega, hid (fun j h hj => by rcases Nat.lt_succ_iff_lt_or_eq.1 hj with h1 | rfl; exact hall.out j h h1; omega)⟩
          case measure => simp [intOf]; omega
      · go_wp2
        go_ret
        refine ⟨⟨m, rfl, fun _ => ⟨hm1, by omega, fun x hx => ?_⟩⟩, Below.refl _ _⟩
        obtain ⟨j, hj, rfl⟩ := List.getElem_of_mem hx
        exact hall.out j hj (by omega)
theorem toStringS (xs : List ByteArray) (lo hi : Nat) (v : Value) (w : World) (hv : Sl lo hi w 1 v xs.length (flat encT xs)) (hn : xs.length ≤ 1048576) :
    Calls Try.prog 28 #[v] w fun e w' => (∃ v', e = .returned v' ∧ Own w.heap.size w'.heap.size w' 9 1 v' xs.length (flat encT xs)) ∧ Ext w w' := by
  obtain ⟨hhi, hlen, A, c, rfl, hnc, hcm, hcell⟩ := hv
  have HL := hid hlen; clear hlen
  unfold maxLen at hcm
  have hmk := run_made 39 9 _ 1 16 Try.underlying39 infoStr xs.length (by omega) (by unfold maxLen; omega)
  simp only [Nat.mul_one] at hmk
  go_enter Try.func28, Try.ntmps28
  go_wp2
  clear hmk
  go_loopw [4] (fun i wr => ∃ (k : Nat), k ≤ xs.length ∧ i = .int .i64 k ∧ Part wr w.heap.size 9 xs.length k (flat encT xs) ∧ Ext w wr) (fun i _ => xs.length - (intOf i).toNat)
  case atStart => exact ⟨0, by omega, rfl, by have := Part.zeros w 9 (.string ⟨#[]⟩) xs.length 1 (flat encT xs); simpa using this, Ext.new _ _⟩
  case round =>
    obtain ⟨k, hk, rfl, hP, hE⟩ := hrel
    by_cases hlt : k < xs.length
    · obtain ⟨b, off, rfl, hb1, hb2, hc⟩ := hcell (by omega)
      have c0 := cellsT hc k hlt
      clear hc
      have hcc := (bcell hE).1
      have hbw : b < w.heap.size := by omega
      obtain ⟨u0, g0⟩ := hP.cell k hlt
      have f0 := hP.frozen
      go_wp2
      go_roundw
      case rel => exact ⟨k + 1, by omega, by go_num, hP.set_ hlt (getT xs k hlt), by go_tidy; go_grown⟩
      case measure => simp [intOf]; omega
    · obtain rfl : k = xs.length := by omega
      go_wp2
      go_ret
      exact ⟨⟨_, rfl, Own.of (Part.own (K := 1) (by simpa using hP) (Nat.le_refl _) (by unfold maxLen; omega) HL.out) (by omega)⟩, hE⟩
theorem eqStringS (xs : List ByteArray) (lo hi lo' hi' : Nat) (v v' : Value) (w : World) (hv : Sl lo hi w 1 v xs.length (flat encT xs)) (hv' : Sl lo' hi' w 1 v' xs.length (flat encT xs)) (hn : xs.length ≤ 2097152) :
    Calls Try.prog 30 #[v, v'] w fun e w' => e = .returned (.bool true) ∧ Ext w w' := by
  obtain ⟨hhi, _, A, c, rfl, hnc, hcm, hcell⟩ := hv
  obtain ⟨hhi', _, A', c', rfl, hnc', hcm', hcell'⟩ := hv'
  go_enter Try.func30, Try.ntmps30
  go_wp2
  go_loopw [5] (fun i wr => ∃ (k : Nat), k ≤ xs.length ∧ i = .int .i64 k ∧ Ext w wr) (fun i _ => xs.length - (intOf i).toNat)
  case atStart => exact ⟨0, by omega, rfl, Below.refl _ _⟩
  case round =>
    obtain ⟨k, hk, rfl, hE⟩ := hrel
    by_cases hlt : k < xs.length
    · obtain ⟨b, off, rfl, hb1, hb2, hc⟩ := hcell (by omega)
      obtain ⟨b', off', rfl, hb1', hb2', hc'⟩ := hcell' (by omega)
      have c0 := cellsT hc k hlt
      have c1 := cellsT hc' k hlt
      clear hc hc'
      have hcc := (bcell hE).1
      have hbw : b < w.heap.size := by omega
      have hbw' : b' < w.heap.size := by omega
      have hki : (k : Int) < xs.length := by omega
      go_wp2
      go_quiet (fail)
      go_wp2
      go_roundw
      case rel => exact ⟨k + 1, by omega, by go_num, Ext.tr hE (Ext.drewN _ _)⟩
      case measure => simp [intOf]; omega
    · go_wp2
      go_ret
      exact ⟨rfl, hE⟩
def markStrs (k : Int) (n : Nat) : List Value := flat (fun i : Nat => [Value.string (markS (k + i).toNat)]) (List.range n)
theorem markStrs_get (k : Int) (n i : Nat) (hi : i < n) : (markStrs k n)[i]? = some (.string (markS (k + i).toNat)) := by
  have := flat_get (enc := fun i : Nat => [Value.string (markS (k + i).toNat)]) (K := 1) (fun _ => rfl) (List.range n) i (by simpa using hi) 0 (by omega)
  rw [List.getElem_range] at this
  simpa [markStrs] using this
theorem markStrs_len (k : Int) (n : Nat) : (markStrs k n).length = n * 1 := by
  have := flat_length (enc := fun i : Nat => [Value.string (markS (k + i).toNat)]) (K := 1) (fun _ => rfl) (List.range n)
  rw [List.length_range] at this
  exact this
theorem markStringS (k0 : Int) (n lo hi : Nat) (v : Value) (xs : List Value) (w : World) (hv : Own lo hi w 9 1 v n xs) (h0 : 0 < k0) (hk : k0 + n ≤ 1099511627776) :
    Calls Try.prog 31 #[v, .int .i64 k0] w fun e w' => e = .returned (.int .i64 (k0 + n)) ∧ Own lo hi w' 9 1 v n (markStrs k0 n) ∧ KeepI lo hi w w' := by
  obtain ⟨hhw, hn2, hl, ⟨rfl, rfl⟩ | ⟨g, c, cs, rfl, hlo, hhi, hnc, hcm, hB, hcs, hxs⟩⟩ := hv
  · go_enter Try.func31, Try.ntmps31
    go_wp2
    go_loopw [1, 5] (fun kk i wr => kk = .int .i64 k0 ∧ i = .int .i64 0 ∧ wr = w) (fun _ _ _ => 0)
    case atStart => exact ⟨rfl, rfl, rfl⟩
    case round =>
      obtain ⟨rfl, rfl, rfl⟩ := hrel
      go_wp2
      go_ret
      exact ⟨ret_int (by omega), ⟨hhw, by omega, by simp [markStrs, flat], .inl ⟨rfl, rfl⟩⟩, KeepI.refl _ _ _⟩
  have hmg : n ≤ cs.size := by rw [hcs]; omega
  have hP0 : Part w g 9 cs.size 0 (markStrs k0 n) := ⟨cs, hB, rfl, fun j hj => absurd hj (by omega)⟩
  have HC := hid hcs
  clear hcs hB hxs
  generalize cs.size = N at *
  clear cs
  go_enter Try.func31, Try.ntmps31
  go_wp2
  go_loopw [1, 5] (fun kk i wr => ∃ (k : Nat) (q : Int), k ≤ n ∧ i = .int .i64 k ∧ kk = .int .i64 q ∧ Hid (q = k0 + k) ∧ Part wr g 9 N k (markStrs k0 n) ∧ KeepI lo hi w wr) (fun _ i _ => n - (intOf i).toNat)
  case atStart => exact ⟨0, k0, by omega, rfl, rfl, hid (by simp), hP0, KeepI.refl _ _ _⟩
  case round =>
    obtain ⟨i, q, hi, rfl, rfl, hq, hP, hK⟩ := hrel
    have hq1 : 0 < q ∧ q ≤ 1099511627776 := by have := hq.out; omega
    obtain ⟨hq1, hq2⟩ := hq1
    by_cases hlt : i < n
    · obtain ⟨u0, g0⟩ := hP.cell i (by omega)
      have f0 := hP.frozen
      go_wp2_with fail
      refine (markText _ _ (by omega) (by omega)).mono ?_
      rintro e w1 ⟨rfl, hE1⟩
      have hP1 := hP.ext hE1
      have hK1 := hK.trE hE1
      clear g0 f0
      obtain ⟨u1, g1⟩ := hP1.cell i (by omega)
      have f1 := hP1.frozen
      go_wp2
      go_roundw
      case rel => exact ⟨i + 1, _, by omega, by go_num, rfl, hid (by have := hq.out; omega), hP1.set_ (by omega) (by rw [hq.out]; exact markStrs_get _ _ _ hlt), hK1.set_ hlo hhi _⟩
      case measure => simp [intOf]; omega
    · obtain rfl : i = n := by omega
      go_wp2
      go_ret
      refine ⟨ret_int hq.out, ?_, hK⟩
      obtain ⟨cs, hB, hc1, hc2⟩ := hP
      refine ⟨Nat.le_trans hhw hK.size, hn2, markStrs_len _ _, .inr ⟨g, c, cs, rfl, hlo, hhi, hnc, hcm, hB, by rw [hc1]; exact HC.out, ?_⟩⟩
      apply List.ext_getElem?
      intro j
      rw [List.getElem?_take]
      split
      · rename_i hj; rw [← hc2 j (by omega)]; simp
      · rename_i hj; rw [List.getElem?_eq_none (by rw [markStrs_len]; omega)]
theorem heldStringS (k0 : Int) (n lo hi : Nat) (v : Value) (w : World) (hv : Sl lo hi w 1 v n (markStrs k0 n)) (hn2 : n ≤ 2097152) (h0 : 0 < k0) (hk : k0 + n ≤ 1099511627776) :
    Calls Try.prog 32 #[v, .int .i64 k0] w fun e w' => e = .returned (.int .i64 (k0 + n)) ∧ Ext w w' := by
  obtain ⟨hhi, _, A, c, rfl, hnc, hcm, hcell⟩ := hv
  go_enter Try.func32, Try.ntmps32
  go_wp2
  go_loopw [1, 5] (fun kk i wr => ∃ (k : Nat) (q : Int), k ≤ n ∧ i = .int .i64 k ∧ kk = .int .i64 q ∧ Hid (q = k0 + k) ∧ Ext w wr) (fun _ i _ => n - (intOf i).toNat)
  case atStart => exact ⟨0, k0, by omega, rfl, rfl, hid (by simp), Below.refl _ _⟩
  case round =>
    obtain ⟨i, q, hi, rfl, rfl, hq, hE⟩ := hrel
    have hq1 : 0 < q ∧ q ≤ 1099511627776 := by have := hq.out; omega
    obtain ⟨hq1, hq2⟩ := hq1
    by_cases hlt : i < n
    · obtain ⟨b, off, rfl, hb1, hb2, hc⟩ := hcell (by omega)
      have hbw : b < w.heap.size := by omega
      have c0 : w.cell? ⟨b, off + i, none⟩ = some (.string (markS q.toNat)) := hc i _ (by rw [hq.out]; exact markStrs_get _ _ _ hlt)
      clear hc
      have ha1 : ∀ W, Ext w W → W.cell? ⟨b, off + i, none⟩ = some (.string (markS q.toNat)) := fun W hW => (hW.cell (p := ⟨b, _, none⟩) hbw).trans c0
      clear c0
      go_wp2
      go_region_held3 (fun W => Ext w W) (first | assumption | exact Ext.tr hE (Ext.drewN _ 1) | exact Ext.tr (by assumption) hE2) (first | (go_at_call 52; refine (markText _ _ (by omega) (by omega)).mono ?_; rintro e w3 ⟨rfl, hE2⟩))
      have hEn1 : Ext w w3 := by assumption
      clear hE2 ha1
      go_wp2
      go_roundw
      case rel => exact ⟨i + 1, _, by omega, by go_num, rfl, hid (by have := hq.out; omega), hEn1⟩
      case measure => simp [intOf]; omega
    · obtain rfl : i = n := by omega
      go_wp2
      go_ret
      exact ⟨ret_int hq.out, hE⟩
end Go.Proofs.Ytibmcailjodpkaa
