/- Lists of numbers: the contracts of the laws' own functions that copy, compare, mark and hold them. -/
import Derived.Test.YtlilmopcikogpaaOpen
import Derived.OpenShut
namespace Go.Proofs.Ytlilmopcikogpaa
set_option linter.unusedVariables false
open Go.RowKit Go.ChangeShapes Go.WideShapes Go.Deep
def encI (n : Int) : List Value := [.int .i64 n]
theorem encI_len (n : Int) : (encI n).length = 1 := rfl
theorem cellsI {xs : List Int} {w : World} {b off : Nat} (hc : ∀ j u, (flat encI xs)[j]? = some u → w.cell? ⟨b, off + j, none⟩ = some u) (i : Nat) (hi : i < xs.length) : w.cell? ⟨b, off + i, none⟩ = some (.int .i64 xs[i]) := by
  have := cell_flat encI_len hc i hi 0 _ (by omega) rfl
  simpa using this
theorem getI (xs : List Int) (i : Nat) (hi : i < xs.length) : (flat encI xs)[i]? = some (.int .i64 xs[i]) := by
  have := flat_get encI_len xs i hi 0 (by omega)
  simpa [encI] using this
theorem openInt64S {H : Type} {ec : TypeId × Value → H} {W : World} {A : Option Addr} {l c : Nat} {d : DataW H} {p : List MemPlace} (h : DataW.Trod ec Try.prog W 0 (fun _ => true) true 37 (.slice A l c) d p) :
    ∃ xs : List Int, xs.length = l ∧ Sl 0 W.heap.size W 1 (.slice A l c) xs.length (flat encI xs) ∧ ∀ x ∈ xs, -9223372036854775808 ≤ x ∧ x ≤ 9223372036854775807 :=
  open_flat encI_len (by omega) (ok := fun x => -9223372036854775808 ≤ x ∧ x ≤ 9223372036854775807) Try.underlying37 (by kernel_rfl) (fun n cs y hl ht => by
    match cs, hl with
    | [c0], _ =>
      obtain ⟨x, q, _, hw⟩ := DataW.trod_int Try.underlying2 ht
      simp only [List.cons.injEq, and_true] at q; subst q
      exact ⟨x, rfl, bounds_i64 hw⟩) h
theorem infoInt : (Try.prog.info? 2).map (fun i => (i.zero, i.size, i.bytes)) = some (some (.int .i64 0), 1, 8) := by kernel_rfl

theorem toInt64S (xs : List Int) (lo hi : Nat) (v : Value) (w : World) (hv : Sl lo hi w 1 v xs.length (flat encI xs)) (hn : xs.length ≤ 1048576) :
    Calls Try.prog 16 #[v] w fun e w' => (∃ v', e = .returned v' ∧ Own w.heap.size w'.heap.size w' 2 1 v' xs.length (flat encI xs)) ∧ Ext w w' := by
  obtain ⟨hhi, hlen, A, c, rfl, hnc, hcm, hcell⟩ := hv
  have HL := hid hlen; clear hlen
  unfold maxLen at hcm
  have hmk := run_made 37 2 _ 1 8 Try.underlying37 infoInt xs.length (by omega) (by unfold maxLen; omega)
  simp only [Nat.mul_one] at hmk
  go_enter Try.func16, Try.ntmps16
  go_wp2
  clear hmk
  go_loopw [4] (fun i wr => ∃ (k : Nat), k ≤ xs.length ∧ i = .int .i64 k ∧ Part wr w.heap.size 2 xs.length k (flat encI xs) ∧ Ext w wr) (fun i _ => xs.length - (intOf i).toNat)
  case atStart => exact ⟨0, by omega, rfl, by have := Part.zeros w 2 (.int .i64 0) xs.length 1 (flat encI xs); simpa using this, Ext.new _ _⟩
  case round =>
    obtain ⟨k, hk, rfl, hP, hE⟩ := hrel
    by_cases hlt : k < xs.length
    · obtain ⟨b, off, rfl, hb1, hb2, hc⟩ := hcell (by omega)
      have c0 := cellsI hc k hlt
      clear hc
      have hcc := (bcell hE).1
      have hbw : b < w.heap.size := by omega
      obtain ⟨u0, g0⟩ := hP.cell k hlt
      have f0 := hP.frozen
      go_wp2
      go_roundw
      case rel => exact ⟨k + 1, by omega, by go_num, hP.set_ hlt (getI xs k hlt), by go_tidy; go_grown⟩
      case measure => simp [intOf]; omega
    · obtain rfl : k = xs.length := by omega
      go_wp2
      go_ret
      exact ⟨⟨_, rfl, Own.of (Part.own (K := 1) (by simpa using hP) (Nat.le_refl _) (by unfold maxLen; omega) HL.out) (by omega)⟩, hE⟩
theorem eqInt64S (xs : List Int) (lo hi lo' hi' : Nat) (v v' : Value) (w : World) (hv : Sl lo hi w 1 v xs.length (flat encI xs)) (hv' : Sl lo' hi' w 1 v' xs.length (flat encI xs)) (hn : xs.length ≤ 2097152) :
    Calls Try.prog 18 #[v, v'] w fun e w' => e = .returned (.bool true) ∧ Ext w w' := by
  obtain ⟨hhi, _, A, c, rfl, hnc, hcm, hcell⟩ := hv
  obtain ⟨hhi', _, A', c', rfl, hnc', hcm', hcell'⟩ := hv'
  go_enter Try.func18, Try.ntmps18
  go_wp2
  go_loopw [5] (fun i wr => ∃ (k : Nat), k ≤ xs.length ∧ i = .int .i64 k ∧ Ext w wr) (fun i _ => xs.length - (intOf i).toNat)
  case atStart => exact ⟨0, by omega, rfl, Below.refl _ _⟩
  case round =>
    obtain ⟨k, hk, rfl, hE⟩ := hrel
    by_cases hlt : k < xs.length
    · obtain ⟨b, off, rfl, hb1, hb2, hc⟩ := hcell (by omega)
      obtain ⟨b', off', rfl, hb1', hb2', hc'⟩ := hcell' (by omega)
      have c0 := cellsI hc k hlt
      have c1 := cellsI hc' k hlt
      clear hc hc'
      have hcc := (bcell hE).1
      have hbw : b < w.heap.size := by omega
      have hbw' : b' < w.heap.size := by omega
      have hki : (k : Int) < xs.length := by omega
      go_wp2
      go_quiet (fail)
      go_wp2
      go_roundw
      case rel => exact ⟨k + 1, by omega, by go_num, Ext.tr hE (Ext.drewN _ _)⟩
      case measure => simp [intOf]; omega
    · go_wp2
      go_ret
      exact ⟨rfl, hE⟩
end Go.Proofs.Ytlilmopcikogpaa
