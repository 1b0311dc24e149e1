/- The program's middle of a list of at most twelve numbers. -/
import Derived.Test.YtopjccbjdcoanaaMedP
namespace Go.Proofs.Ytopjccbjdcoanaa
set_option linter.unusedVariables false
open Go.RowKit
theorem row_slice {w : World} {base e K n : Nat} {v : Value} {xs : List Value} (h : w.ownsRow base e K v n xs) : ∃ A c, v = .slice A n c := by
  rcases h.2 with ⟨rfl, h0⟩ | ⟨g, cap, cur, rfl, _⟩
  · exact ⟨none, 0, by rw [h0]⟩
  · exact ⟨_, _, rfl⟩
theorem mid_sorted {ns L : List Int} (h : L.Perm (goodL ns) ∧ L.Pairwise (· ≤ ·)) : L = srt ns := perm_srt rfl h
theorem srt_good (ns : List Int) : (srt ns).length = (goodL ns).length := by unfold srt goodL; rw [List.length_mergeSort]
theorem good_len (ns : List Int) : (goodL ns).length ≤ ns.length := by unfold goodL; exact List.length_filter_le ..
theorem Below.ext {w w' w1 : World} (h : Ext w w1) (hb : Below w.heap.size w1 w') : Ext w w' := Below.trans h hb
set_option maxRecDepth 100000 in
set_option maxHeartbeats 1000000 in
theorem middleOfI (ns : List Int) (lo hi : Nat) (v : Value) (w : World) (hv : Sl lo hi w 1 v ns.length (flat encI ns)) (hsh : Shape v ns.length) (hn : ns.length ≤ 12) :
    Calls Try.prog 80 #[v] w fun e w' => e = .returned (.int .i64 (mid ns)) ∧ Ext w w' := by
  have HC := hid (cloneI ns lo hi v w hv hsh (by omega))
  have hlen := srt_good ns
  have hle := good_len ns
  clear hv
  by_cases h0 : (goodL ns).length = 0
  · have HM := hid (mid_nil (ns := ns) (List.eq_nil_of_length_eq_zero (by omega)))
    rw [h0] at hlen
    clear hlen hle
    go_enter Try.func80, Try.ntmps80
    go_wp2_with (first
      | (go_at_call 97; refine HC.out.mono ?_; rintro e w1 ⟨⟨v1, rfl, ho1⟩, hE1⟩)
      | (go_at_call 96; refine (delMid ns w.heap.size v1 w1 hE1.size ho1 (by omega)).mono ?_; rintro e w2 ⟨⟨v2, rfl, ho2⟩, hB2⟩; rw [h0] at ho2; obtain ⟨A2, c2, rfl⟩ := row_slice ho2))
    go_ret
    exact ⟨by rw [HM.out]; rfl, Below.ext hE1 hB2⟩
  · have hm : ((goodL ns).length - 1) / 2 < (srt ns).length := by omega
    have HQ := hid (show mid ns = at0 (srt ns) (((goodL ns).length - 1) / 2) by
      rw [mid_at (ns := ns) (by intro e; rw [e] at hlen; simp at hlen; omega) (by rw [hlen]; rw [hlen] at hm; exact hm), at0_of, hlen])
    have hq : (((goodL ns).length : Int) - 1) / 2 = ((((goodL ns).length - 1) / 2 : Nat) : Int) := by omega
    have h0b : (((goodL ns).length : Int) == 0) = false := by rw [beq_eq_false_iff_ne]; omega
    have hlt : ((goodL ns).length - 1) / 2 < (goodL ns).length := by omega
    have HH := hid hm
    have HL := hid hlen
    clear hm hlen
    go_enter Try.func80, Try.ntmps80
    go_wp2_with (first
      | (go_at_call 97; refine HC.out.mono ?_; rintro e w1 ⟨⟨v1, rfl, ho1⟩, hE1⟩)
      | (go_at_call 96; refine (delMid ns w.heap.size v1 w1 hE1.size ho1 (by omega)).mono ?_; rintro e w2 ⟨⟨v2, rfl, ho2⟩, hB2⟩; obtain ⟨g2, c2, rfl, ho3⟩ := row_form ho2 (by omega))
      | (go_at_call 99; refine (sortI (goodL ns) w.heap.size g2 c2 w2 (by omega) (by omega) (Nat.le_trans hE1.size hB2.size) ho3).mono ?_; rintro e w3 ⟨rfl, ⟨L, hL, ho4⟩, hB3⟩; have c1 := row_cell ho4 (j := ((goodL ns).length - 1) / 2) (u := .int .i64 (at0 (srt ns) (((goodL ns).length - 1) / 2))) (by rw [mid_sorted hL, flatI_map, List.getElem?_map, List.getElem?_eq_getElem HH.out, ← at0_of HH.out]; rfl)))
    go_ret
    exact ⟨by rw [HQ.out]; rfl, Below.ext hE1 (hB2.trans hB3)⟩
end Go.Proofs.Ytopjccbjdcoanaa
