/- slices.Insert of one drill. -/
import Derived.Test.YtibmcailjodpkaaAddC
namespace Go.Proofs.Ytibmcailjodpkaa
set_option linter.unusedVariables false
open Go.RowKit
theorem one_drill (x : Drill) : ∀ y ∈ Drill.enc x, y.oneCell' = true := fun y h => by
  simp only [Drill.enc, List.mem_cons, List.not_mem_nil, or_false] at h
  rcases h with rfl | rfl | rfl | rfl | rfl <;> rfl
theorem one_flat (xs : List Drill) : ∀ y ∈ flat Drill.enc xs, y.oneCell' = true := fun y hy => by
  unfold flat at hy
  obtain ⟨x, _, h⟩ := List.mem_flatMap.1 hy
  exact one_drill x y h
theorem flen (xs : List Drill) : (flat Drill.enc xs).length = xs.length * 5 := flat_length (K := 5) (enc := Drill.enc) (fun _ => rfl) xs
theorem row_shape {w : World} {base e K n g cap : Nat} {xs : List Value} (h : w.ownsRow base e K (.slice (some ⟨g, 0, none⟩) n cap) n xs) : w.shape? g = some (e, cap * K) := by
  rcases h.2 with ⟨h', _⟩ | ⟨g', cap', cur, h', hb, hg, hnc, hcm, hcs, htake⟩
  · simp at h'
  · simp only [Value.slice.injEq, Option.some.injEq, Addr.mk.injEq, and_true, true_and] at h'
    obtain ⟨rfl, rfl⟩ := h'
    simp [World.shape?, hg, hcs]
theorem drewSet (b : Nat) : ∀ (vs : List Value) (o : Nat) (w : World), (w.setCells b o vs).drew = w.drew.setCells b o vs
  | [], _, _ => rfl
  | v :: r, o, w => by rw [World.setCells, World.setCells, drewSet b r]; rfl
set_option maxRecDepth 100000 in
set_option maxHeartbeats 2000000 in
theorem insShift (xs : List Drill) (x : Drill) (k base g cap gx : Nat) (w : World) (hk : k < xs.length) (hl : xs.length ≤ 32) (hroom : xs.length + 1 ≤ cap) (hcm : cap ≤ maxLen) (hbw : base ≤ w.heap.size) (hbg : base ≤ g) (hne : gx ≠ g)
    (hown : w.ownsRow base 52 5 (.slice (some ⟨g, 0, none⟩) xs.length cap) xs.length (flat Drill.enc xs)) (hx : Blk w gx 52 #[.int .i64 x.day, .string x.crew, .int .i64 x.persons, .int .i64 x.seconds, .int .i64 x.missing]) :
    Calls Try.prog 69 #[.slice (some ⟨g, 0, none⟩) xs.length cap, .int .i64 k, .slice (some ⟨gx, 0, none⟩) 1 1] w fun e w' => (∃ v', e = .returned v' ∧ w'.ownsRow base 52 5 v' (insAt xs k x).length (flat Drill.enc (insAt xs k x))) ∧ Below base w w' := by
  obtain ⟨zs, hzs, hR⟩ := row_more hown hroom
  have hFl := flen xs
  have hsz : (Try.prog.info? 52).map (·.size) = some 5 := by
    obtain ⟨i, i1, i2, i3, i4⟩ := info_parts infoDrill
    rw [i1]; simp [i3]
  have hgw : g < w.heap.size := (hown.lt g rfl).2
  have hsb : w.shape? g = some (52, cap * 5) := row_shape hown
  have hsa : w.shape? gx = some (52, 5) := by unfold Blk at hx; simp [World.shape?, hx]
  have hov : ∀ o lb cb, (callFunc 84 #[.slice (some ⟨gx, 0, none⟩) 1 1, .slice (some ⟨g, o, none⟩) lb cb]).run Try.prog w = .ok (.value (.bool false)) w := fun o lb cb => by
    rw [run_callFunc_extern Try.func84 (by kernel_rfl) (by kernel_rfl) (by kernel_rfl) (e := Extern.SlicesOverlaps.overlaps #[25, 25] #[4]) (by kernel_rfl),
      Lib.run_overlaps_apart w 25 4 52 Try.underlying25 5 (fun w => by go_simp) ⟨gx, 0, none⟩ ⟨g, o, none⟩ 1 1 lb cb hne 52 52 5 (cap * 5) hsa hsb (by omega) (hx.frozen 0) (hx.frozen 5)]
    rfl
  have hzs' : (flat Drill.enc xs ++ zs).length = xs.length * 5 + 5 := by rw [List.length_append, hFl, hzs]
  have hdl : ((flat Drill.enc xs).drop (k * 5)).length = (xs.length - k) * 5 := by rw [List.length_drop, hFl, Nat.sub_mul]
  have cellR : ∀ j, j < xs.length * 5 + 5 → (w.cell? ⟨g, j, none⟩).isSome = true := fun j hj => by
    rw [row_cell hR (j := j) (u := (flat Drill.enc xs ++ zs)[j]'(by omega)) (List.getElem?_eq_getElem (by omega))]; rfl
  have hcp1 : ∀ ty dc sc, (Builtin.copy_ #[25, 25] ty #[.slice (some ⟨g, (k + 1) * 5, none⟩) (xs.length - k) dc, .slice (some ⟨g, k * 5, none⟩) (xs.length + 1 - k) sc]).run Try.prog w.drew = .ok (goInt (Nat.min (xs.length + 1 - k) (xs.length - k))) (w.drew.setCells g ((k + 1) * 5) ((flat Drill.enc xs).drop (k * 5))) := fun ty dc sc =>
    run_copy_K w.drew _ _ ty 52 5 g ((k + 1) * 5) _ dc ⟨g, k * 5, none⟩ _ sc ((flat Drill.enc xs).drop (k * 5)) Try.underlying25 hsz (by rw [hdl]; congr 1; simp only [Nat.min_def]; split <;> omega)
      (fun j v hj => by
        rw [Addr.add_lit]
        rw [List.getElem?_drop] at hj
        exact row_cell hR (j := k * 5 + j) (by rw [List.getElem?_append_left (by
          rcases Nat.lt_or_ge (k * 5 + j) (flat Drill.enc xs).length with h | h
          · exact h
          · rw [List.getElem?_eq_none h] at hj; cases hj)]; exact hj))
      (fun j hj => cellR _ (by rw [hdl] at hj; omega)) (fun j _ => hR.frozenAt _) (fun v hv => one_flat xs v (List.mem_of_mem_drop hv))
  have hR1 : (w.setCells g ((k + 1) * 5) ((flat Drill.enc xs).drop (k * 5))).ownsRow base 52 5 (.slice (some ⟨g, 0, none⟩) (xs.length + 1) cap) (xs.length + 1) (lay (flat Drill.enc xs ++ zs) ((k + 1) * 5) ((flat Drill.enc xs).drop (k * 5))) := row_lay _ _ _ _ hR (by rw [hdl, hzs']; omega)
  have hl1 : (lay (flat Drill.enc xs ++ zs) ((k + 1) * 5) ((flat Drill.enc xs).drop (k * 5))).length = xs.length * 5 + 5 := by rw [lay_len (by rw [hdl, hzs']; omega), hzs']
  have hcp2 : ∀ W : World, (∀ p, W.cell? p = (w.setCells g ((k + 1) * 5) ((flat Drill.enc xs).drop (k * 5))).cell? p) → (∀ p, W.frozen? p = (w.setCells g ((k + 1) * 5) ((flat Drill.enc xs).drop (k * 5))).frozen? p) → ∀ ty dc, (Builtin.copy_ #[25, 25] ty #[.slice (some ⟨g, k * 5, none⟩) (xs.length + 1 - k) dc, .slice (some ⟨gx, 0, none⟩) 1 1]).run Try.prog W = .ok (goInt (Nat.min 1 (xs.length + 1 - k))) (W.setCells g (k * 5) (Drill.enc x)) := fun W hWc hWf ty dc =>
    run_copy_K W _ _ ty 52 5 g (k * 5) _ dc ⟨gx, 0, none⟩ 1 1 (Drill.enc x) Try.underlying25 hsz (by show 5 = _; simp only [Nat.min_def]; split <;> omega)
      (fun j v hj => by
        rw [Addr.add_lit, hWc, World.cell?_setCells_out g _ _ _ _ (fun h _ => absurd h hne), Nat.zero_add, hx.cell]
        simpa [Drill.enc] using hj)
      (fun j hj => by
        have hj5 : j < 5 := hj
        rw [hWc, row_cell hR1 (j := k * 5 + j) (u := (lay (flat Drill.enc xs ++ zs) ((k + 1) * 5) ((flat Drill.enc xs).drop (k * 5)))[k * 5 + j]'(by omega)) (List.getElem?_eq_getElem (by omega))]; rfl)
      (fun j _ => by rw [hWf]; exact hR1.frozenAt _) (one_drill x)
  have hR2 : ((w.setCells g ((k + 1) * 5) ((flat Drill.enc xs).drop (k * 5))).setCells g (k * 5) (Drill.enc x)).ownsRow base 52 5 (.slice (some ⟨g, 0, none⟩) (insAt xs k x).length cap) (insAt xs k x).length (flat Drill.enc (insAt xs k x)) := by
    have := row_lay (Drill.enc x) (k * 5) _ _ hR1 (by rw [hl1]; show k * 5 + 5 ≤ _; omega)
    rw [lay_shift hFl hzs rfl hk] at this
    rw [insAt_flat, insAt_len xs k x (by omega)]; exact this
  have HR2 := hid hR2
  have HC2 := hcp2 (w.drew.setCells g ((k + 1) * 5) ((flat Drill.enc xs).drop (k * 5))) (fun p => by rw [← drewSet]; rfl) (fun p => by rw [← drewSet]; rfl)
  clear hcp2
  have hkn : (k : Int) < xs.length := by omega
  have hz2 : ¬ ((k : Int) = (xs.length : Int)) := by omega
  have hz2b : ((k : Int) == (xs.length : Int)) = false := by rw [beq_eq_false_iff_ne]; exact hz2
  have hcap' : ¬ ((cap : Int) < (xs.length : Int) + 1) := by omega
  have hb2 : ¬ (cap = k + 1) := by omega
  have hb4 : ¬ (cap = k) := by omega
  have hkk : (k : Int) + 1 ≤ (xs.length : Int) + 1 := by omega
  have htn : ((k : Int) + 1).toNat = k + 1 := by omega
  have hw1 : IntKind.i64.wrap ((k : Int) + 1) = (k : Int) + 1 := by rw [IntKind.wrap_i64]; omega
  have hb1 : (0 : Int) ≤ (k : Int) + 1 := by omega
  have hb3 : (k : Int) ≤ (xs.length : Int) + 1 := by omega
  obtain ⟨W1, hW1⟩ : ∃ W1, W1 = w.setCells g ((k + 1) * 5) ((flat Drill.enc xs).drop (k * 5)) := ⟨_, rfl⟩
  clear hown hR hR1 hR2 cellR
  go_enter Try.func69, Try.ntmps69
  go_wp2_with (simp only [hov])
  go_region_law (refine step_copyR rfl _ _ 25 25 rfl (.slice (some ⟨g, (k + 1) * 5, none⟩) (xs.length - k) (cap - (k + 1))) (.slice (some ⟨g, k * 5, none⟩) (xs.length + 1 - k) (cap - k)) (by simp [Act.eval, Act.put]) (by simp [Act.eval, Act.put]) (hcp1 _ _ _) ?_)
  go_wp2_with (at_builtin; refine wpList_copyR _ rfl _ _ 25 25 rfl _ _ rfl rfl (HC2 _ _) ?_)
  go_ret
  refine ⟨⟨_, rfl, ?_⟩, ?_⟩
  · have := HR2.out
    have h2 := ownD this 1
    rw [show ∀ W : World, W.drewN 1 = W.drew from fun _ => rfl, drewSet, drewSet] at h2
    rw [insAt_len xs k x (by omega)] at h2 ⊢
    exact h2
  · exact setCells_below hbg _ _ (setCells_below hbg _ _ (Below.refl _ _).drew)
set_option maxRecDepth 100000 in
set_option maxHeartbeats 1000000 in
theorem insEnd (xs : List Drill) (x : Drill) (base gx : Nat) (v : Value) (w : World) (hl : xs.length ≤ 32) (hbw : base ≤ w.heap.size)
    (hown : w.ownsRow base 52 5 v xs.length (flat Drill.enc xs)) (hx : Blk w gx 52 #[.int .i64 x.day, .string x.crew, .int .i64 x.persons, .int .i64 x.seconds, .int .i64 x.missing]) :
    Calls Try.prog 69 #[v, .int .i64 xs.length, .slice (some ⟨gx, 0, none⟩) 1 1] w fun e w' => (∃ v', e = .returned v' ∧ w'.ownsRow base 52 5 v' (insAt xs xs.length x).length (flat Drill.enc (insAt xs xs.length x))) ∧ Below base w w' := by
  have hsl : Sl 0 w.heap.size w 5 (.slice (some ⟨gx, 0, none⟩) 1 1) 1 (Drill.enc x) :=
    ⟨Nat.le_refl _, rfl, _, 1, rfl, Nat.le_refl _, by decide, fun _ => ⟨gx, 0, rfl, Nat.zero_le _, hx.lt, fun j u hu => by rw [Nat.zero_add, hx.cell]; simpa [Drill.enc] using hu⟩⟩
  have HO := hid hown
  have hfin : ∀ (v' : Value) (W : World), W.ownsRow base 52 5 v' (xs.length + 1) (flat Drill.enc xs ++ Drill.enc x) → W.ownsRow base 52 5 v' (insAt xs xs.length x).length (flat Drill.enc (insAt xs xs.length x)) := fun v' W h => by
    rw [insAt_len xs xs.length x (Nat.le_refl _), insAt_flat, List.drop_eq_nil_of_le (by rw [flen]; exact Nat.le_refl _), List.append_nil, List.take_of_length_le (by rw [flen]; exact Nat.le_refl _)]; exact h
  have hcase : (v = .slice none 0 0 ∧ xs.length = 0) ∨ ∃ g cap, v = .slice (some ⟨g, 0, none⟩) xs.length cap ∧ xs.length ≤ cap ∧ cap ≤ maxLen := by
    rcases hown.2 with ⟨rfl, h0⟩ | ⟨g, cap, cur, rfl, _, _, h1, h2, _⟩
    · exact .inl ⟨rfl, h0⟩
    · exact .inr ⟨g, cap, rfl, h1, h2⟩
  rcases hcase with ⟨rfl, h0⟩ | ⟨g, cap, rfl, hc1, hc2⟩
  · obtain rfl : xs = [] := List.eq_nil_of_length_eq_zero h0
    have hf0 : ∀ (v' : Value) (W : World), W.ownsRow base 52 5 v' (0 + 1) ([] ++ Drill.enc x) → W.ownsRow base 52 5 v' (insAt [] ([] : List Drill).length x).length (flat Drill.enc (insAt [] ([] : List Drill).length x)) := hfin
    change Calls Try.prog 69 #[.slice none 0 0, .int .i64 0, .slice (some ⟨gx, 0, none⟩) 1 1] w _
    have hO : w.ownsRow base 52 5 (.slice none 0 0) 0 [] := World.ownsRow_nil _ _ _ _
    clear hown HO hl hfin
    go_enter Try.func69, Try.ntmps69
    go_wp2_with (at_builtin; refine wp_appendN w rfl (.tmp 23) (.tmp 24) _ rfl base 52 5 48 _ Try.underlying25 infoDrill rfl (by omega) (by omega) _ _ _ hO rfl _ _ _ _ _ hsl (.inr ⟨_, _, _, rfl⟩) rfl (one_drill x) (by omega) hbw ?_; intro v' w' ho' hb')
    go_ret
    exact ⟨⟨_, rfl, hf0 _ _ ho'⟩, hb'⟩
  · have hc3 : (xs.length : Int) ≤ xs.length := Int.le_refl _
    go_enter Try.func69, Try.ntmps69
    go_wp2_with (at_builtin; refine wp_appendN w rfl (.tmp 23) (.tmp 24) _ rfl base 52 5 48 _ Try.underlying25 infoDrill rfl (by omega) (by omega) _ _ _ HO.out rfl _ _ _ _ _ hsl (.inr ⟨_, _, _, rfl⟩) rfl (one_drill x) (by omega) hbw ?_; intro v' w' ho' hb')
    all_goals (go_ret; exact ⟨⟨_, rfl, hfin _ _ ho'⟩, hb'⟩)
end Go.Proofs.Ytibmcailjodpkaa
