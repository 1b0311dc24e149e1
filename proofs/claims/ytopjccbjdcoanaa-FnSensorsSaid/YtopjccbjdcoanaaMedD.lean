/- slices.DeleteFunc on a copy of numbers, with the closure that strikes the -1s. -/
import Derived.Test.YtopjccbjdcoanaaMedI
import Derived.Test.YtopjccbjdcoanaaRowK
namespace Go.Proofs.Ytopjccbjdcoanaa
set_option linter.unusedVariables false
open Go.RowKit
def isNo (x : Int) : Bool := decide (x = -1)
def goodL (ns : List Int) : List Int := ns.filter fun x => decide (¬ x = -1)
def goodTk (ns : List Int) (j : Nat) : List Int := goodL (ns.take j)
theorem goodTk_all (ns : List Int) : goodTk ns ns.length = goodL ns := by unfold goodTk; rw [List.take_length]
theorem goodTk_yes {ns : List Int} {j : Nat} (hj : j < ns.length) (h : ¬ ns[j] = -1) : goodTk ns (j + 1) = goodTk ns j ++ [ns[j]] := by
  unfold goodTk goodL; rw [List.take_succ_eq_append_getElem hj, List.filter_append, List.filter_cons_of_pos (by simpa using h)]; rfl
theorem goodTk_no {ns : List Int} {j : Nat} (hj : j < ns.length) (h : ns[j] = -1) : goodTk ns (j + 1) = goodTk ns j := by
  unfold goodTk goodL; rw [List.take_succ_eq_append_getElem hj, List.filter_append, List.filter_cons_of_neg (by simpa using h)]; simp
def KeptI (ns : List Int) (i j : Nat) (L : List Int) : Prop := L.length = ns.length ∧ L.take i = goodTk ns j ∧ ∀ q, j ≤ q → L[q]? = ns[q]?
theorem KeptI.start {ns : List Int} {k : Nat} (hk : k < ns.length) (hp : ns[k] = -1) (hall : ∀ j (hj : j < k), ¬ (ns[j]'(by omega)) = -1) : KeptI ns k (k + 1) ns := by
  refine ⟨rfl, ?_, fun _ _ => rfl⟩
  rw [goodTk_no hk hp]
  unfold goodTk goodL
  symm
  rw [List.filter_eq_self]
  intro x hx
  obtain ⟨j, hj, rfl⟩ := List.getElem_of_mem hx
  rw [List.getElem_take]
  simpa using hall j (by rw [List.length_take] at hj; omega)
theorem KeptI.yes {ns L : List Int} {i j : Nat} (h : KeptI ns i j L) (hij : i < j) (hj : j < ns.length) (hd : ¬ ns[j] = -1) : KeptI ns (i + 1) (j + 1) (L.set i ns[j]) := by
  obtain ⟨h1, h2, h3⟩ := h
  refine ⟨by simpa using h1, ?_, fun q hq => ?_⟩
  · rw [goodTk_yes hj hd, List.take_succ_eq_append_getElem (by simp; omega), ← h2]
    rw [List.take_set, List.set_eq_of_length_le (by rw [List.length_take]; omega)]
    simp
  · rw [List.getElem?_set_ne (by omega)]; exact h3 q (by omega)
theorem KeptI.no {ns L : List Int} {i j : Nat} (h : KeptI ns i j L) (hj : j < ns.length) (hd : ns[j] = -1) : KeptI ns i (j + 1) L := ⟨h.1, by rw [goodTk_no hj hd]; exact h.2.1, fun q hq => h.2.2 q (by omega)⟩
theorem idxMid (xs : List Int) (lo hi : Nat) (v : Value) (w : World) (hv : Sl lo hi w 1 v xs.length (flat encI xs)) (hn : xs.length ≤ 1048576) :
    Calls Try.prog 100 #[v, .func (.func 98) #[] #[]] w fun e w' => e = .returned (.int .i64 (findIx isNo xs)) ∧ w = w' := by
  obtain ⟨hhi, _, A, c, rfl, hnc, hcm, hcell⟩ := hv
  go_enter Try.func100, Try.ntmps100
  go_wp2
  go_loop [8] (fun i => ∃ k : Nat, k ≤ xs.length ∧ i = .int .i64 k ∧ Hid (∀ j (h : j < xs.length), j < k → isNo xs[j] = false)) (fun i => xs.length - (intOf i).toNat)
  case atStart => exact ⟨0, Nat.zero_le _, rfl, hid (fun j h hj => absurd hj (by omega))⟩
  case round =>
    obtain ⟨k, hk, rfl, hall⟩ := hrel
    by_cases hlt : k < xs.length
    · obtain ⟨b', off, rfl, hb1, hb2, hc⟩ := hcell (by omega)
      have c0 := cellsI hc k hlt
      clear hc
      cases hp : isNo xs[k]
      · go_wp2_with (go_at_call 98; refine (cv (midCl xs[k] w) (vb (show decide (xs[k] = -1) = false from hp))).mono ?_; rintro e w' ⟨rfl, rfl⟩)
        go_round
        case rel => exact ⟨k + 1, by omega, by go_num, hid (fun j h hj => by rcases Nat.lt_succ_iff_lt_or_eq.1 hj with h1 | rfl; exact hall.out j h h1; exact hp)⟩
        case measure => simp [intOf]; omega
      · go_wp2_with (go_at_call 98; refine (cv (midCl xs[k] w) (vb (show decide (xs[k] = -1) = true from hp))).mono ?_; rintro e w' ⟨rfl, rfl⟩)
        go_ret
        exact ⟨ret_int (findIx_yes k hlt (fun j h => hall.out j (by omega) h) hp).symm, rfl⟩
    · obtain rfl : k = xs.length := by omega
      go_wp2
      go_ret
      exact ⟨ret_int (findIx_no fun j h => hall.out j h h).symm, rfl⟩
set_option maxRecDepth 100000 in
set_option maxHeartbeats 1000000 in
theorem delMid (ns : List Int) (base : Nat) (v : Value) (w : World) (hbw : base ≤ w.heap.size) (hown : w.ownsRow base 2 1 v ns.length (flat encI ns)) (hn : ns.length ≤ 1048576) :
    Calls Try.prog 96 #[v, .func (.func 98) #[] #[]] w fun e w' => (∃ v', e = .returned v' ∧ w'.ownsRow base 2 1 v' (goodL ns).length (flat encI (goodL ns))) ∧ Below base w w' := by
  have hsl := Sl.of_own hown (by unfold maxLen; omega)
  have HX := hid (idxMid ns _ _ v w hsl hn)
  by_cases hf : findIx isNo ns = -1
  · have HL := hid (show goodL ns = ns by unfold goodL; rw [List.filter_eq_self]; intro x hx; have := findIx_none hf x hx; unfold isNo at this; simpa using this)
    rw [hf] at HX
    have HO := hid hown
    clear hf hown hsl
    go_enter Try.func96, Try.ntmps96
    go_wp2_with (go_at_call 100; refine HX.out.mono ?_; rintro e w1 ⟨rfl, rfl⟩)
    go_ret
    exact ⟨⟨_, rfl, by rw [HL.out]; exact HO.out⟩, Below.refl _ _⟩
  obtain ⟨k, hk, e1, hp, hall⟩ := findIx_spec hf
  have HK := hid (KeptI.start (ns := ns) hk (by simpa [isNo] using hp) (fun j hj => by simpa [isNo] using hall j hj))
  rw [e1] at HX
  clear hf hp hall e1 hsl
  obtain ⟨g, cap, _, rfl, hbg, _, _, hcap⟩ := row_open hown 0 (by omega)
  have HO := hid hown
  clear hown
  have hk1 : ((k : Int) == -1) = false := beq_eq_false_iff_ne.2 (by omega)
  go_enter Try.func96, Try.ntmps96
  go_wp2_with (go_at_call 100; refine HX.out.mono ?_; rintro e w1 ⟨rfl, rfl⟩)
  go_loopw [5, 6, 7] (fun a b _ wr => ∃ (i j : Nat) (L : List Int), i < j ∧ j ≤ ns.length ∧ a = .int .i64 i ∧ b = .int .i64 j ∧ Hid (KeptI ns i j L) ∧ wr.ownsRow base 2 1 (.slice (some ⟨g, 0, none⟩) ns.length cap) ns.length (flat encI L) ∧ Below base w wr) (fun _ b _ _ => ns.length - (intOf b).toNat)
  case atStart => exact ⟨k, k + 1, ns, by omega, by omega, rfl, by go_num, HK, HO.out, Below.refl _ _⟩
  case round =>
    obtain ⟨i, j, L, hij, hjn, rfl, rfl, hL, hrow, hB⟩ := hrel
    have HR := hid hrow
    have hil : (i : Int) < ns.length := by omega
    by_cases hlt : j < ns.length
    · have hcj : (flat encI L)[j]? = some (.int .i64 ns[j]) := by
        rw [flatI_map, List.getElem?_map, hL.out.2.2 j (Nat.le_refl _), List.getElem?_eq_getElem hlt]; rfl
      have cj := row_cell hrow hcj
      have hjl : (j : Int) < ns.length := by omega
      have hsz := hB.size
      clear hcj hrow
      by_cases hd : ns[j] = -1
      · have HD := hid hd
        clear hd
        go_wp2_with (go_at_call 98; refine (cv (midCl ns[j] _) (vb (show decide (ns[j] = -1) = true by simpa using HD.out))).mono ?_; rintro e w2 ⟨rfl, rfl⟩)
        go_roundw
        case rel => exact ⟨i, j + 1, L, by omega, by omega, rfl, by go_num, hid (hL.out.no hlt HD.out), HR.out, hB⟩
        case measure => simp [intOf]; omega
      · have hr2 := HR.out
        obtain ⟨_, _, u2, he2, _, ci, fi, _⟩ := row_open hr2 i (by omega)
        simp only [Value.slice.injEq, Option.some.injEq, Addr.mk.injEq, and_true, true_and] at he2
        obtain ⟨rfl, rfl⟩ := he2
        clear hr2
        have HD := hid hd
        clear hd
        go_wp2_with (go_at_call 98; refine (cv (midCl ns[j] _) (vb (show decide (ns[j] = -1) = false by simpa using HD.out))).mono ?_; rintro e w2 ⟨rfl, rfl⟩)
        go_roundw
        case rel => exact ⟨i + 1, j + 1, L.set i ns[j], by omega, by omega, by go_num, by go_num, hid (hL.out.yes hij hlt HD.out), by rw [flatI_map, List.map_set, ← flatI_map]; exact (HR.out.stored i _).1, hB.setCell (by exact hbg) _⟩
        case measure => simp [intOf]; omega
    · obtain rfl : j = ns.length := by omega
      have hLt : L.take i = goodL ns := by rw [← goodTk_all]; exact hL.out.2.1
      have hclr : ∀ ty, (Builtin.clear_ #[27] ty #[.slice (some ⟨g, i, none⟩) (ns.length - i) (cap - i)]).run Try.prog wr = .ok (.tuple #[]) (wr.setCells g i (List.replicate (ns.length - i) (.int .i64 0))) := fun ty => Lib.run_clear_slice wr _ _ ty (.int .i64 0) Try.underlying27 (fun _ => by kernel_rfl) rfl rfl g i _ _ (by omega) (fun q hq => by
        have := row_cell HR.out (j := i + q) (u := .int .i64 (L[i + q]'(by rw [hL.out.1]; omega))) (by rw [flatI_map, List.getElem?_map, List.getElem?_eq_getElem (by rw [hL.out.1]; omega)]; rfl)
        rw [this]; rfl) (fun q hq => HR.out.frozenAt _)
      obtain ⟨ys, hy1, hy2⟩ := row_cells (List.replicate (ns.length - i) (.int .i64 0)) i wr _ hrow
      have HY := hid (row_take hy1 (i := i) (by omega))
      have HY2 := hid (show ys.take i = flat encI (goodL ns) by rw [hy2, flatI_map, ← List.map_take, hLt, flatI_map])
      have HLL := hid (show (goodL ns).length = i by rw [← hLt, List.length_take, hL.out.1]; omega)
      clear hLt hy1 hy2 hrow
      go_wp2
      go_ret
      exact ⟨⟨_, rfl, by rw [HLL.out, ← HY2.out]; exact HY.out⟩, below_setCells hbg _ _ _ hB⟩
end Go.Proofs.Ytopjccbjdcoanaa
