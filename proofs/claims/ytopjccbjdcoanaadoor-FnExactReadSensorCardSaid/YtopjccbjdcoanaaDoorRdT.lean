/- The program's text of a list, whatever its numbers and its length. -/
import Derived.Test.YtopjccbjdcoanaaDoorRdA
namespace Go.Proofs.YtopjccbjdcoanaaDoor
set_option linter.unusedVariables false
open Go.RowKit
def ltPost (ns : List Int) (e : Ending) : Prop := ∃ t : ByteArray, e = .returned (.string t) ∧ (0 < ns.length → ns.length ≤ 64 → (∀ n ∈ ns, decOk n) → t = textT ns)
theorem ltPost_any {ns : List Int} (t : ByteArray) (h : ¬ (0 < ns.length ∧ ns.length ≤ 64 ∧ ∀ n ∈ ns, decOk n)) : ltPost ns (.returned (.string t)) := ⟨t, rfl, fun h1 h2 h3 => (h ⟨h1, h2, h3⟩).elim⟩
theorem ltPost_yes (ns : List Int) : ltPost ns (.returned (.string (textT ns))) := ⟨_, rfl, fun _ _ _ => rfl⟩
theorem first_bad (ns : List Int) (h : ¬ ∀ n ∈ ns, decOk n) : ∃ b, ∃ hb : b < ns.length, ¬ decOk ns[b] ∧ ∀ j (hj : j < b), decOk (ns[j]'(by omega)) := by
  induction ns with
  | nil => exact (h (fun _ hn => absurd hn (by simp))).elim
  | cons x xs ih =>
    by_cases hx : decOk x
    · obtain ⟨b, hb, h1, h2⟩ := ih (fun hh => h (fun n hn => by
        rcases List.mem_cons.1 hn with rfl | hn
        · exact hx
        · exact hh n hn))
      refine ⟨b + 1, by simp; omega, h1, fun j hj => ?_⟩
      cases j with
      | zero => exact hx
      | succ j => exact h2 j (by omega)
    · exact ⟨0, by simp, hx, fun j hj => by omega⟩
set_option maxRecDepth 100000 in
set_option maxHeartbeats 1000000 in
theorem listTextW (ns : List Int) (lo hi : Nat) (v : Value) (w : World) (hv : Sl lo hi w 1 v ns.length (flat encI ns)) (ht : tabP w) :
    Calls Tryd.prog 25 #[v] w fun e w' => ltPost ns e ∧ Ext w w' := by
  by_cases h64 : 64 < ns.length
  · have HQ := hid (ltPost_any (ns := ns) ⟨#[]⟩ (fun h => by omega))
    obtain ⟨hhi, _, A, c, rfl, hnc, hcm, hcell⟩ := hv
    clear hcell
    go_enter Tryd.func25, Tryd.ntmps25
    go_wp2
    go_ret
    exact ⟨HQ.out, Below.refl _ _⟩
  by_cases h0 : ns.length = 0
  · have HQ := hid (ltPost_any (ns := ns) ⟨#[45]⟩ (fun h => by omega))
    obtain ⟨hhi, _, A, c, rfl, hnc, hcm, hcell⟩ := hv
    clear hcell
    have h0i : (ns.length : Int) = 0 := by omega
    go_enter Tryd.func25, Tryd.ntmps25
    go_wp2
    go_ret
    exact ⟨HQ.out, Below.refl _ _⟩
  by_cases hok : ∀ n ∈ ns, decOk n
  · refine (listText ns lo hi v w hv (by omega) (by omega) hok ht).mono ?_
    rintro e w' ⟨rfl, hE⟩
    exact ⟨ltPost_yes ns, hE⟩
  have HQ := hid (ltPost_any (ns := ns) ⟨#[]⟩ (fun h => hok h.2.2))
  obtain ⟨bi, hbi, hbad, hgood⟩ := first_bad ns hok
  have HB := hid hbad
  have HG := hid hgood
  clear hok hbad hgood
  obtain ⟨hhi, _, A, c, rfl, hnc, hcm, hcell⟩ := hv
  have hpb : ((ns.length : Int) == 0) = false := by rw [beq_eq_false_iff_ne]; omega
  have HT0 := hid ht
  have hmk := run_made0 44 9 _ 1 16 Tryd.underlying44 infoStr ns.length (by omega) (by unfold maxLen; omega)
  clear ht
  go_enter Tryd.func25, Tryd.ntmps25
  go_wp2
  clear hmk
  go_loopw [3, 17] (fun u i wr => ∃ k : Nat, k ≤ bi ∧ i = .int .i64 k ∧ wr.ownsRow w.heap.size 9 1 u k (flat encS (decs (ns.take k))) ∧ Ext w wr) (fun _ i _ => ns.length - (intOf i).toNat)
  case atStart => exact ⟨0, by omega, rfl, World.ownsRow_made _ _ _ (Nat.le_refl _) (by unfold maxLen; omega) (by rw [zeros_size]; omega), Ext.new _ _⟩
  case round =>
    obtain ⟨k, hk, rfl, hown, hE⟩ := hrel
    have hlt : k < ns.length := by omega
    obtain ⟨b, off, rfl, hb1, hb2, hc⟩ := hcell (by omega)
    have c0 := cellsI hc k hlt
    replace c0 := (hE.cell (p := ⟨b, _, none⟩) (by show b < _; omega)).trans c0
    by_cases hkb : k < bi
    · have hnk := HG.out k hkb
      have HT := hid (decs_take ns k hlt)
      have hin : inB ns[k] (-1000000000000) 1000000000000 = true := by obtain ⟨ha, hb⟩ := hnk; unfold inB; simp; omega
      clear hc hcell HQ HB HG
      generalize ns[k] = n at *
      go_wp2_with fail
      refine (cv (within _ _ _ _) (vb hin)).mono ?_
      rintro e w' ⟨rfl, rfl⟩
      go_wp2_with fail
      refine (decimal n _ hnk (tab_ext (by kernel_rfl : Tryd.prog.globalNamed "internal/strconv.uint64pow10" = some 1) HT0.out hE)).mono ?_
      rintro e w2 ⟨rfl, hE2⟩
      have hown2 := ownE hown hE2
      have hE3 := Ext.tr hE hE2
      have hz3 := hE3.size
      go_wp2_with (at_builtin; refine wp_append1 w2 rfl (.tmp 24) (.tmp 27) _ rfl w.heap.size 9 1 16 _ Tryd.underlying44 infoStr rfl (by omega) (by omega) _ _ _ hown2 rfl [.string (decT n)] rfl (by simp [Value.oneCell']) _ rfl rfl (by omega) hz3 ?_; intro v' w' ho' hb')
      go_roundw
      case rel => exact ⟨k + 1, by omega, by go_num, by rw [HT.out, flat_snoc]; exact ho', hE3.trans hb'⟩
      case measure => simp [intOf]; omega
    · obtain rfl : k = bi := by omega
      have hin : inB ns[k] (-1000000000000) 1000000000000 = false := by
        have := HB.out
        unfold decOk at this; unfold inB
        rw [Bool.eq_false_iff]
        intro h
        simp only [Bool.and_eq_true, decide_eq_true_eq] at h
        exact this h
      clear hc hcell
      go_wp2_with fail
      refine (cv (within _ _ _ _) (vb hin)).mono ?_
      rintro e w' ⟨rfl, rfl⟩
      go_wp2
      go_ret
      exact ⟨HQ.out, hE⟩
end Go.Proofs.YtopjccbjdcoanaaDoor
