/- slices.DeleteFunc on a copy of names, with the closure of the program's DrillsDue. -/
import Derived.Test.YtibmcailjodpkaaRowK
import Derived.Test.YtibmcailjodpkaaM29
import Derived.Lib.LazyBuf
import Derived.Laws.OwnMore
namespace Go.Proofs.Ytibmcailjodpkaa
set_option linter.unusedVariables false
open Go.RowKit
theorem flatT_map (L : List ByteArray) : flat encT L = L.map Value.string := by
  induction L with
  | nil => rfl
  | cons x L ih => show flat encT (x :: L) = _; unfold flat at ih ⊢; rw [List.flatMap_cons, ih]; rfl
def KeptL (ds : List Drill) (cs : List ByteArray) (day iv : Int) (i j : Nat) (L : List ByteArray) : Prop := L.length = cs.length ∧ L.take i = dueTk ds cs day iv j ∧ ∀ q, j ≤ q → L[q]? = cs[q]?
theorem KeptL.start {ds : List Drill} {cs : List ByteArray} {day iv : Int} {k : Nat} (hk : k < cs.length) (hp : dueB ds cs[k] day iv = false) (hall : ∀ j (hj : j < k), dueB ds (cs[j]'(by omega)) day iv = true) : KeptL ds cs day iv k (k + 1) cs := by
  refine ⟨rfl, ?_, fun _ _ => rfl⟩
  rw [dueTk_no hk hp]
  unfold dueTk
  symm
  rw [List.filter_eq_self]
  intro x hx
  obtain ⟨j, hj, rfl⟩ := List.getElem_of_mem hx
  rw [List.getElem_take]
  exact hall j (by rw [List.length_take] at hj; omega)
theorem KeptL.yes {ds : List Drill} {cs L : List ByteArray} {day iv : Int} {i j : Nat} (h : KeptL ds cs day iv i j L) (hij : i < j) (hj : j < cs.length) (hd : dueB ds cs[j] day iv = true) : KeptL ds cs day iv (i + 1) (j + 1) (L.set i cs[j]) := by
  obtain ⟨h1, h2, h3⟩ := h
  refine ⟨by simpa using h1, ?_, fun q hq => ?_⟩
  · rw [dueTk_yes hj hd, List.take_succ_eq_append_getElem (by simp; omega), ← h2]
    rw [List.take_set, List.set_eq_of_length_le (by rw [List.length_take]; omega)]
    simp
  · rw [List.getElem?_set_ne (by omega)]; exact h3 q (by omega)
theorem KeptL.no {ds : List Drill} {cs L : List ByteArray} {day iv : Int} {i j : Nat} (h : KeptL ds cs day iv i j L) (hj : j < cs.length) (hd : dueB ds cs[j] day iv = false) : KeptL ds cs day iv i (j + 1) L := ⟨h.1, by rw [dueTk_no hj hd]; exact h.2.1, fun q hq => h.2.2 q (by omega)⟩
set_option maxRecDepth 100000 in
set_option maxHeartbeats 4000000 in
theorem delDue (g1 g2 g3 : Nat) (ds : List Drill) (day iv : Int) (dlo dhi : Nat) (dv : Value) (cs : List ByteArray) (v : Value) (w0 w : World) (h1 : w.cell? ⟨g1, 0, none⟩ = some dv) (h2 : w.cell? ⟨g2, 0, none⟩ = some (.int .i64 day)) (h3 : w.cell? ⟨g3, 0, none⟩ = some (.int .i64 iv)) (l1 : g1 < w.heap.size) (l2 : g2 < w.heap.size) (l3 : g3 < w.heap.size) (hdy : 0 ≤ day ∧ day ≤ 100000) (hiv : 1 ≤ iv ∧ iv ≤ 1000) (hds : Sl dlo dhi w 5 dv ds.length (flat Drill.enc ds)) (hdn : ds.length ≤ 1048576) (k1 : g1 < w0.heap.size) (k2 : g2 < w0.heap.size) (k3 : g3 < w0.heap.size) (kd : dhi ≤ w0.heap.size) (hw0 : w0.heap.size ≤ w.heap.size) (hown : w.ownsRow w0.heap.size 9 1 v cs.length (flat encT cs)) (hn : cs.length ≤ 1048576) :
    Calls Try.prog 57 #[v, .func (.func 59) #[] #[.pointer (some ⟨g1, 0, none⟩), .pointer (some ⟨g2, 0, none⟩), .pointer (some ⟨g3, 0, none⟩)]] w fun e w' => (∃ v', e = .returned v' ∧ w'.ownsRow w0.heap.size 9 1 v' (dueL ds cs day iv).length (flat encT (dueL ds cs day iv))) ∧ Below w0.heap.size w w' := by
  have hsl := (Own.of hown (by omega)).sl
  have HX := hid (idxEDue g1 g2 g3 ds day iv dlo dhi dv cs _ _ v w h1 h2 h3 l1 l2 l3 hdy hiv hds hdn hsl hn)
  by_cases hf : findIx (fun c => !dueB ds c day iv) cs = -1
  · have HL := hid (show dueL ds cs day iv = cs by unfold dueL; rw [List.filter_eq_self]; intro x hx; have := findIx_none hf x hx; simpa using this)
    rw [hf] at HX
    have HO := hid hown
    clear hf hown hsl
    go_enter Try.func57, Try.ntmps57
    go_wp2_with (go_at_call 81; refine HX.out.mono ?_; rintro e w1 ⟨rfl, hE1⟩)
    go_ret
    exact ⟨⟨_, rfl, by rw [HL.out]; exact ownE HO.out hE1⟩, hE1.mono hw0⟩
  obtain ⟨k, hk, e1, hp, hall⟩ := findIx_spec hf
  have HK := hid (KeptL.start (ds := ds) (day := day) (iv := iv) hk (by simpa using hp) (fun j hj => by simpa using hall j hj))
  rw [e1] at HX
  clear hf hp hall e1 hsl
  obtain ⟨g, cap, _, rfl, hbg, _, _, hcap⟩ := row_open hown 0 (by omega)
  have HO := hid hown
  clear hown
  have hk1 : ((k : Int) == -1) = false := beq_eq_false_iff_ne.2 (by omega)
  go_enter Try.func57, Try.ntmps57
  go_wp2_with (go_at_call 81; refine HX.out.mono ?_; rintro e w1 ⟨rfl, hE1⟩)
  go_loopw [5, 6, 7] (fun a b _ wr => ∃ (i j : Nat) (L : List ByteArray), i < j ∧ j ≤ cs.length ∧ a = .int .i64 i ∧ b = .int .i64 j ∧ Hid (KeptL ds cs day iv i j L) ∧ wr.ownsRow w0.heap.size 9 1 (.slice (some ⟨g, 0, none⟩) cs.length cap) cs.length (flat encT L) ∧ Below w0.heap.size w wr) (fun _ b _ _ => cs.length - (intOf b).toNat)
  case atStart => exact ⟨k, k + 1, cs, by omega, by omega, rfl, by go_num, HK, ownE HO.out hE1, hE1.mono hw0⟩
  case round =>
    obtain ⟨i, j, L, hij, hjn, rfl, rfl, hL, hrow, hB⟩ := hrel
    have HR := hid hrow
    have hil : (i : Int) < cs.length := by omega
    by_cases hlt : j < cs.length
    · have hcj : (flat encT L)[j]? = some (.string cs[j]) := by
        rw [flatT_map, List.getElem?_map, hL.out.2.2 j (Nat.le_refl _), List.getElem?_eq_getElem hlt]; rfl
      have cj := row_cell hrow hcj
      have hjl : (j : Int) < cs.length := by omega
      have m1 := (World.cell?_of_block (a := ⟨g1, 0, none⟩) (hB.block g1 k1)).trans h1
      have m2 := (World.cell?_of_block (a := ⟨g2, 0, none⟩) (hB.block g2 k2)).trans h2
      have m3 := (World.cell?_of_block (a := ⟨g3, 0, none⟩) (hB.block g3 k3)).trans h3
      have hsz := hB.size
      have HC := hid (dueCl g1 g2 g3 ds day iv dlo dhi dv cs[j] _ m1 m2 m3 (by omega) (by omega) (by omega) hdy hiv (hds.below hB kd hsz) hdn)
      clear m1 m2 m3 hcj hrow
      cases hd : dueB ds cs[j] day iv
      · go_wp2_with (go_at_call 59; refine (cv HC.out (show Value.bool (!dueB ds cs[j] day iv) = .bool true by rw [hd]; rfl)).mono ?_; rintro e w2 ⟨rfl, hE2⟩)
        go_roundw
        case rel => exact ⟨i, j + 1, L, by omega, by omega, rfl, by go_num, hid (hL.out.no hlt hd), ownE HR.out hE2, hB.trans (hE2.mono (Nat.le_trans hw0 hsz))⟩
        case measure => simp [intOf]; omega
      · go_wp2_with (go_at_call 59; refine (cv HC.out (show Value.bool (!dueB ds cs[j] day iv) = .bool false by rw [hd]; rfl)).mono ?_; rintro e w2 ⟨rfl, hE2⟩; have hr2 := ownE HR.out hE2; obtain ⟨_, _, u2, he2, _, ci, fi, _⟩ := row_open hr2 i (by omega); simp only [Value.slice.injEq, Option.some.injEq, Addr.mk.injEq, and_true, true_and] at he2; obtain ⟨rfl, rfl⟩ := he2; have HR2 := hid hr2; clear hr2)
        go_roundw
        case rel => exact ⟨i + 1, j + 1, L.set i cs[j], by omega, by omega, by go_num, by go_num, hid (hL.out.yes hij hlt hd), by rw [flatT_map, List.map_set, ← flatT_map]; exact (HR2.out.stored i _).1, (hB.trans (hE2.mono (Nat.le_trans hw0 hsz))).setCell (by exact hbg) _⟩
        case measure => simp [intOf]; omega
    · obtain rfl : j = cs.length := by omega
      have hLt : L.take i = dueL ds cs day iv := by rw [← dueTk_all]; exact hL.out.2.1
      have hclr : ∀ ty, (Builtin.clear_ #[39] ty #[.slice (some ⟨g, i, none⟩) (cs.length - i) (cap - i)]).run Try.prog wr = .ok (.tuple #[]) (wr.setCells g i (List.replicate (cs.length - i) (.string ⟨#[]⟩))) := fun ty => Lib.run_clear_slice wr _ _ ty (.string ⟨#[]⟩) Try.underlying39 (fun _ => by kernel_rfl) rfl rfl g i _ _ (by omega) (fun q hq => by
        have := row_cell HR.out (j := i + q) (u := .string (L[i + q]'(by rw [hL.out.1]; omega))) (by rw [flatT_map, List.getElem?_map, List.getElem?_eq_getElem (by rw [hL.out.1]; omega)]; rfl)
        rw [this]; rfl) (fun q hq => HR.out.frozenAt _)
      obtain ⟨ys, hy1, hy2⟩ := row_cells (List.replicate (cs.length - i) (.string ⟨#[]⟩)) i wr _ hrow
      have HY := hid (row_take hy1 (i := i) (by omega))
      have HY2 := hid (show ys.take i = flat encT (dueL ds cs day iv) by rw [hy2, flatT_map, ← List.map_take, hLt, flatT_map])
      have HLL := hid (show (dueL ds cs day iv).length = i by rw [← hLt, List.length_take, hL.out.1]; omega)
      clear hLt hy1 hy2 hrow
      go_wp2
      go_ret
      exact ⟨⟨_, rfl, by rw [HLL.out, ← HY2.out]; exact HY.out⟩, below_setCells hbg _ _ _ hB⟩
end Go.Proofs.Ytibmcailjodpkaa
