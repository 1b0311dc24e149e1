/- Histories of their own, and one with a further version: the note's. -/
import Derived.Test.YthffakaddohlnaaVHist
import Derived.Test.YthffakaddohlnaaXVersionM
import Derived.Test.YthffakaddohlnaaApp3
namespace Go.Proofs.Ythffakaddohlnaa
set_option linter.unusedVariables false
open Go.RowKit
theorem one_ver (p : Version × Value) (hp : p.2.oneCell' = true) : ∀ u ∈ nV.enc p, u.oneCell' = true := fun u h => by
  have h' : u ∈ [Value.int .i64 p.1.number, .int .i64 p.1.parent, .string p.1.memo, p.2] := h
  simp only [List.mem_cons, List.not_mem_nil, or_false] at h'
  rcases h' with rfl | rfl | rfl | rfl
  · rfl
  · rfl
  · rfl
  · exact hp
theorem setting_one (xs : List Setting) : ∀ y ∈ flat Setting.enc xs, y.oneCell' = true := fun y hy => by
  unfold flat at hy
  obtain ⟨x, _, h⟩ := List.mem_flatMap.1 hy
  simp only [Setting.enc, List.mem_cons, List.not_mem_nil, or_false] at h
  rcases h with rfl | rfl <;> rfl
/-- as an own list, with the shapes of its inner slices -/
def SlVS (lo hi : Nat) (w : World) (v : Value) (xs : List Version) : Prop :=
  ∃ ys : List (Version × Value), ys.map Prod.fst = xs ∧ Sl lo hi w 4 v xs.length (flat Version.enc ys) ∧ Shape v xs.length ∧ ∀ p ∈ ys, Sl lo hi w 2 p.2 p.1.state.length (flat Setting.enc p.1.state) ∧ Shape p.2 p.1.state.length
theorem OwnV.sls {lo hi : Nat} {w : World} {v : Value} {xs : List Version} (h : OwnV lo hi w v xs) : SlVS lo hi w v xs := by
  obtain ⟨_, _, ys, h1, h2, h3, _⟩ := h
  exact ⟨ys, h1, h2.sl, h2.shape, fun p hp => ⟨(h3 p hp).sl, (h3 p hp).shape⟩⟩
theorem SlVS.sl {lo hi : Nat} {w : World} {v : Value} {xs : List Version} (h : SlVS lo hi w v xs) : SlV lo hi w v xs := by
  obtain ⟨ys, h1, h2, _, h3⟩ := h
  exact ⟨ys, h1, h2, fun p hp => (h3 p hp).1⟩
theorem SlVS.ext {lo hi : Nat} {w w' : World} {v : Value} {xs : List Version} (h : SlVS lo hi w v xs) (hE : Ext w w') : SlVS lo hi w' v xs := by
  obtain ⟨ys, h1, h2, h4, h3⟩ := h
  exact ⟨ys, h1, h2.ext hE, h4, fun p hp => ⟨(h3 p hp).1.ext hE, (h3 p hp).2⟩⟩
theorem store_ext {w W : World} {g a : Nat} (h : Ext w W) (hg : w.heap.size ≤ g) (v : Value) : Ext w (W.setCell ⟨g, a, none⟩ v) :=
  ((KeepI.refl w.heap.size (g + 1) W).set_ (g := g) (m := a) hg (by omega) v).ext h (Nat.le_refl _)
theorem own_emptyB {w : World} {base e K b0 : Nat} (h0 : b0 = w.heap.size) (hb : base ≤ w.heap.size) : (w.alloc (.cells #[] e)).ownsRow base e K (.slice (some ⟨b0, 0, none⟩) 0 0) 0 [] := by subst h0; exact own_empty w base e K hb
theorem row_slice {w : World} {base e K n : Nat} {v : Value} {xs : List Value} (h : w.ownsRow base e K v n xs) : ∃ A c, v = .slice A n c := by
  rcases h.2 with ⟨rfl, h0⟩ | ⟨g, cap, cur, rfl, _⟩
  · exact ⟨none, 0, by rw [h0]⟩
  · exact ⟨_, _, rfl⟩
theorem row_one {w : World} {base e K n : Nat} {v : Value} {xs : List Value} (h : w.ownsRow base e K v n xs) : v.oneCell' = true := by
  rcases h.2 with ⟨rfl, _⟩ | ⟨g, cap, cur, rfl, _⟩ <;> rfl
/-- a row keeps where a block ahead of it is written -/
theorem row_set {w : World} {base e K n g m : Nat} {v u : Value} {xs : List Value} (h : w.ownsRow base e K v n xs) (hg : g < base) : (w.setCell ⟨g, m, none⟩ u).ownsRow base e K v n xs := by
  refine ⟨h.1, ?_⟩
  rcases h.2 with h0 | ⟨g', cap, cur, e1, hbg, h2, r⟩
  · exact .inl h0
  · exact .inr ⟨g', cap, cur, e1, hbg, (Below.heap_setCell _ _ _ _ (by show g' ≠ g; omega)).trans h2, r⟩
theorem Blk.belowB {w W : World} {g t B : Nat} {cs : Array Value} (h : Blk w g t cs) (hB : Below B w W) (hg : g < B) : Blk W g t cs := (hB.block g hg).trans h
theorem three {w W : World} {o o2 : Obj} (h : Below (w.heap.size + 1) ((w.alloc o).alloc o2) W) : Ext w W :=
  ((Ext.new w o).trans ((Ext.new (w.alloc o) o2).mono (by simp))).trans (h.mono (Nat.le_succ _))
theorem own_new {w W : World} {t K n : Nat} {v : Value} {xs : List Value} (h : W.ownsRow (w.heap.size + 1) t K v n xs) (hn : n ≤ 2097152) : Own (w.heap.size + 1) W.heap.size W t K v n xs := by
  have := Own.of (w := w.alloc (.cells #[] 0)) (by simpa using h) hn
  simpa using this
theorem ver_at {xs : List Version} {ys : List (Version × Value)} (hys : ys.map Prod.fst = xs) {lo hi : Nat} {w W : World} {b off : Nat} (hin : ∀ p ∈ ys, Sl lo hi w 2 p.2 p.1.state.length (flat Setting.enc p.1.state) ∧ Shape p.2 p.1.state.length)
    (hc : ∀ j u, (flat Version.enc ys)[j]? = some u → w.cell? ⟨b, off + j, none⟩ = some u) (hW : Ext w W) (hb : b < w.heap.size) (i : Nat) (hlt : i < xs.length) :
    ∃ A c, W.cell? ⟨b, off + i * 4, none⟩ = some (.int .i64 xs[i].number) ∧ W.cell? ⟨b, off + i * 4 + 1, none⟩ = some (.int .i64 xs[i].parent) ∧ W.cell? ⟨b, off + i * 4 + 2, none⟩ = some (.string xs[i].memo) ∧ W.cell? ⟨b, off + i * 4 + 3, none⟩ = some (.slice A xs[i].state.length c) ∧
      Sl lo hi W 2 (.slice A xs[i].state.length c) xs[i].state.length (flat Setting.enc xs[i].state) ∧ Shape (.slice A xs[i].state.length c) xs[i].state.length := by
  obtain ⟨hl, hg⟩ := fst_get hys
  have hiy : i < ys.length := by omega
  have hh := (bcell hW).1
  have hs := hin ys[i] (List.getElem_mem hiy)
  have e0 := (hh b (off + (i * 4 + 0)) hb).trans (cell_flat Version.len hc i hiy 0 _ (by omega) rfl)
  have e1 := (hh b (off + (i * 4 + 1)) hb).trans (cell_flat Version.len hc i hiy 1 _ (by omega) rfl)
  have e2 := (hh b (off + (i * 4 + 2)) hb).trans (cell_flat Version.len hc i hiy 2 _ (by omega) rfl)
  have e3 := (hh b (off + (i * 4 + 3)) hb).trans (cell_flat Version.len hc i hiy 3 _ (by omega) rfl)
  rw [hg i hiy hlt] at e0 e1 e2 hs
  obtain ⟨hs, hsh⟩ := hs
  have hs' := hs
  obtain ⟨_, _, A, c, he, _⟩ := hs
  rw [he] at e3 hs' hsh
  exact ⟨A, c, e0, e1, e2, e3, hs'.ext hW, hsh⟩
set_option maxRecDepth 100000 in
set_option maxHeartbeats 2000000 in
theorem l27Own (xs : List Version) (lo hi : Nat) (v : Value) (w : World) (hv : SlVS lo hi w v xs) (hn : totN nV xs + xs.length ≤ 1048576) :
    Calls Try.prog 84 #[v] w fun e w' => (∃ v' ys, e = .returned v' ∧ ys.map Prod.fst = xs ∧ GrowN nV 69 61 w.heap.size w' v' ys) ∧ Ext w w' := by
  obtain ⟨ps, hps, ⟨hhi, _, A, c, rfl, hnc, hcm, hcell⟩, _, hin⟩ := hv
  have HP := hid hps
  clear hps
  go_enter Try.func84, Try.ntmps84
  go_wp2
  go_loopw [3, 4] (fun u i wr => ∃ (k : Nat) (ys : List (Version × Value)), k ≤ xs.length ∧ i = .int .i64 k ∧ Hid (ys.map Prod.fst = xs.take k) ∧ Hid (GrowN nV 69 61 w.heap.size wr u ys) ∧ Ext w wr) (fun _ i _ => xs.length - (intOf i).toNat)
  case atStart => exact ⟨0, [], Nat.zero_le _, rfl, hid rfl, hid (GrowN.empty (Nat.le_refl _)), Ext.new _ _⟩
  case round =>
    obtain ⟨k, ys, hk, rfl, hys, HG, hE⟩ := hrel
    by_cases hlt : k < xs.length
    · obtain ⟨b, off, rfl, hb1, hb2, hc⟩ := hcell (by omega)
      have hbw : b < w.heap.size := by omega
      obtain ⟨Au, cu, c0, c1, c2, c3, hu, hush⟩ := ver_at HP.out hin hc hE hbw k hlt
      have hsn : xs[k].state.length ≤ 1048576 := by have : xs[k].state.length ≤ totN nV xs := totN_mem nV xs k hlt; omega
      have hyl : Hid (ys.length = k) := hid (by have := congrArg List.length hys.out; simpa [Nat.min_eq_left hk] using this)
      have hyl2 : ys.length ≤ 1048576 := by have := hyl.out; omega
      have HSN := hid (show ys.map Prod.fst ++ [xs[k]] = xs.take (k + 1) by rw [hys.out, List.take_succ_eq_append_getElem hlt])
      have HU := hid hu
      have HUS := hid hush
      have hbr : b < wr.heap.size := Nat.lt_of_lt_of_le hbw hE.size
      clear hc hu hush
      generalize xs[k] = x at *
      go_wp2_with (first
        | (at_builtin; refine wp_appendN (World.alloc _ _) rfl (.tmp 17) (.tmp 19) _ rfl (wr.heap.size + 1) 61 2 24 _ Try.underlying25 infoSetting rfl (by omega) (by omega) _ 0 [] (own_emptyB (by simp) (by simp)) rfl _ _ x.state.length _ _ (HU.out.ext (Ext.tr (Ext.new _ _) (Ext.new _ _))) HUS.out rfl (setting_one _) (by omega) (by simp; try omega) ?_; intro v4 w4 ho4 hb4; rw [Nat.zero_add, List.nil_append] at ho4; obtain ⟨A4, c4, rfl⟩ := row_slice ho4; have HB4 := ((Blk.new wr _ _).ext (Ext.new _ _)).belowB hb4 (Nat.lt_succ_self _); have n0 : w4.cell? ⟨wr.heap.size, 0, none⟩ = some (.int .i64 x.number) := HB4.cell 0; have n1 : w4.cell? ⟨wr.heap.size, 1, none⟩ = some (.int .i64 x.parent) := HB4.cell 1; have n2 : w4.cell? ⟨wr.heap.size, 2, none⟩ = some (.string x.memo) := HB4.cell 2; have n3 : w4.cell? ⟨wr.heap.size, 3, none⟩ = some (.slice Au x.state.length cu) := HB4.cell 3; have f3 := HB4.frozen 3; clear HB4; have HW4 := hid (three hb4); have HO5 := hid (own_new (row_set (m := 3) (u := .slice A4 x.state.length c4) ho4 (Nat.lt_succ_self _)) (by omega)); have HW5 := hid (store_ext (a := 3) HW4.out (Nat.le_refl _) (.slice A4 x.state.length c4)))
        | (at_builtin; refine wp_grow (World.setCell _ _ _) w4.heap.size (by simp) rfl (.tmp 22) (.tmp 24) _ rfl w.heap.size 69 56 _ Try.underlying33 infoVersion rfl (by decide) (by omega) 61 _ ys (HG.out.ext HW5.out) rfl (x, .slice A4 x.state.length c4) rfl (one_ver _ rfl) _ rfl rfl (by omega) (HO5.out.more (by have := HG.out.1; omega) (Nat.le_refl _) (Nat.le_refl _)) (HG.out.later HO5.out (Nat.le_succ _)).1 (HG.out.later HO5.out (Nat.le_succ _)).2 ?_; intro v6 w6 hG6 hb6))
      go_roundw
      case rel => exact ⟨k + 1, ys ++ [(x, .slice A4 x.state.length c4)], by omega, by go_num, hid (by rw [List.map_append]; exact HSN.out), hid hG6, Below.trans (Ext.tr hE HW5.out) hb6⟩
      case measure => simp [intOf]; omega
    · obtain rfl : k = xs.length := by omega
      go_wp2
      go_ret
      exact ⟨⟨_, ys, rfl, by rw [hys.out, List.take_length], HG.out⟩, hE⟩
end Go.Proofs.Ythffakaddohlnaa
