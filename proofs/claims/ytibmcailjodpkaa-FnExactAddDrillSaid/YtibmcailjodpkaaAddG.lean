/- slices.Insert of one drill where there is no room. -/
import Derived.Test.YtibmcailjodpkaaAddJ
namespace Go.Proofs.Ytibmcailjodpkaa
set_option linter.unusedVariables false
open Go.RowKit
set_option maxRecDepth 100000 in
set_option maxHeartbeats 2000000 in
theorem insGrow (xs : List Drill) (x : Drill) (k base g cap gx : Nat) (w : World) (hk : k < xs.length) (hl : xs.length ≤ 32) (hnc : xs.length ≤ cap) (hroom : cap < xs.length + 1) (hbw : base ≤ w.heap.size) (hne : gx ≠ g)
    (hown : w.ownsRow base 52 5 (.slice (some ⟨g, 0, none⟩) xs.length cap) xs.length (flat Drill.enc xs)) (hx : Blk w gx 52 #[.int .i64 x.day, .string x.crew, .int .i64 x.persons, .int .i64 x.seconds, .int .i64 x.missing]) :
    Calls Try.prog 69 #[.slice (some ⟨g, 0, none⟩) xs.length cap, .int .i64 k, .slice (some ⟨gx, 0, none⟩) 1 1] w fun e w' => (∃ v', e = .returned v' ∧ w'.ownsRow base 52 5 v' (insAt xs k x).length (flat Drill.enc (insAt xs k x))) ∧ Below base w w' := by
  obtain rfl : cap = xs.length := by omega
  have hFl := flen xs
  obtain ⟨i0, hi0, hz0, hzs, hzb⟩ := info_parts infoDrill
  have hsz : (Try.prog.info? 52).map (·.size) = some 5 := by rw [hi0]; simp [hzs]
  have hgw : g < w.heap.size := (hown.lt g rfl).2
  have hgxw : gx < w.heap.size := hx.lt
  have hkk : (xs.length : Int) + 1 - (k : Int) = ((xs.length + 1 - k : Nat) : Int) := by omega
  have hik : k + (xs.length + 1 - k) = xs.length + 1 := by omega
  have hTl : ((flat Drill.enc xs).take (k * 5)).length = k * 5 := by rw [List.length_take, hFl]; omega
  have hdl : ((flat Drill.enc xs).drop (k * 5)).length = (xs.length - k) * 5 := by rw [List.length_drop, hFl, Nat.sub_mul]
  have hold : (Builtin.firstCells i0.size k (.slice (some ⟨g, 0, none⟩) k xs.length)).run Try.prog w.drew = .ok ((flat Drill.enc xs).take (k * 5)).toArray w.drew := by
    rw [hzs]
    exact run_firstCells_some w.drew 5 k ⟨g, 0, none⟩ k xs.length ((flat Drill.enc xs).take (k * 5)) hTl (fun j v hj => by
      rw [Addr.add_lit, Nat.zero_add]
      rw [List.getElem?_take] at hj
      split at hj
      · exact row_cell hown hj
      · cases hj)
  obtain ⟨Z1, hZ1⟩ : ∃ Z1, Z1 = Builtin.zeroCells (Value.agg #[.int .i64 0, .string ⟨#[]⟩, .int .i64 0, .int .i64 0, .int .i64 0]).cells (xs.length + 1 - k) := ⟨_, rfl⟩
  obtain ⟨G, hG⟩ : ∃ G, G = grownCap w (xs.length + 1) xs.length 52 := ⟨_, rfl⟩
  obtain ⟨Z2, hZ2⟩ : ∃ Z2, Z2 = Builtin.zeroCells (Value.agg #[.int .i64 0, .string ⟨#[]⟩, .int .i64 0, .int .i64 0, .int .i64 0]).cells (G - (xs.length + 1)) := ⟨_, rfl⟩
  have hZ1l : Z1.size = (xs.length + 1 - k) * 5 := by rw [hZ1, size_zeroCells]; rfl
  have hZ2l : Z2.size = (G - (xs.length + 1)) * 5 := by rw [hZ2, size_zeroCells]; rfl
  have hZ1t : Z1.toList.length = (xs.length + 1 - k) * 5 := by rw [Array.length_toList]; exact hZ1l
  have hGn : xs.length + 1 ≤ G := by rw [hG]; exact grownCap_ge w _ _ _
  have hGm : G ≤ maxLen := by rw [hG]; exact grownCap_le_maxLen w (xs.length + 1) xs.length 52 (by unfold maxLen; omega)
  have hrz : ∀ ty, (Builtin.append_ #[25, 3] ty #[.slice (some ⟨g, 0, none⟩) k xs.length, .int .i64 ((xs.length : Int) + 1 - (k : Int))]).run Try.prog w =
      .ok (.slice (some ⟨w.heap.size, 0, none⟩) (xs.length + 1) G) (w.drew.alloc (.cells (((flat Drill.enc xs).take (k * 5)).toArray ++ Z1 ++ Z2) 52)) := fun ty => by
    have h := Lib.run_append_grow_zeros w 25 3 ty 52 i0 _ .i64 .i64 Try.underlying25 Try.underlying3 hi0 hz0 (some ⟨g, 0, none⟩) k xs.length ((flat Drill.enc xs).take (k * 5)) hold (xs.length + 1 - k) (by omega) (by omega) (by omega) (by omega) (by rw [hzb]; omega) (by rw [hzb, hik]; exact growslice_fits (by omega) (by omega))
    rw [hik, ← hG] at h
    rw [hkk, hZ1, hZ2]
    exact h
  obtain ⟨ee, hE⟩ : ∃ ee, ee = Drill.enc x := ⟨_, rfl⟩
  have hE5 : ee.length = 5 := by rw [hE]; rfl
  have hE1 : ∀ y ∈ ee, y.oneCell' = true := by rw [hE]; exact one_drill x
  have hEx : ∀ j v, ee[j]? = some v → w.cell? ⟨gx, j, none⟩ = some v := fun j v hj => by rw [hE] at hj; rw [hx.cell]; simpa [Drill.enc] using hj
  obtain ⟨W1, hW1⟩ : ∃ W1, W1 = w.drew.alloc (.cells (((flat Drill.enc xs).take (k * 5)).toArray ++ Z1 ++ Z2) 52) := ⟨_, rfl⟩
  have hsw : w.drew.heap.size = w.heap.size := rfl
  have hR0 : W1.ownsRow base 52 5 (.slice (some ⟨w.heap.size, 0, none⟩) (xs.length + 1) G) (xs.length + 1) ((flat Drill.enc xs).take (k * 5) ++ Z1.toList) := by
    rw [hW1]
    refine ⟨by rw [List.length_append, hTl, Array.length_toList, hZ1l]; omega, .inr ⟨w.heap.size, G, _, rfl, hbw, heap_alloc_new w.drew _, hGn, hGm, ?_, ?_⟩⟩
    · simp only [Array.size_append, List.size_toArray, hTl, hZ1l, hZ2l]; omega
    · have e1 : (((flat Drill.enc xs).take (k * 5)).toArray ++ Z1 ++ Z2).toList = (flat Drill.enc xs).take (k * 5) ++ Z1.toList ++ Z2.toList := by simp
      have e2 : ((flat Drill.enc xs).take (k * 5) ++ Z1.toList).length = (xs.length + 1) * 5 := by rw [List.length_append, hTl, hZ1t]; omega
      rw [e1, List.take_append_of_le_length (by rw [e2]; exact Nat.le_refl _), List.take_of_length_le (by rw [e2]; exact Nat.le_refl _)]
  have hB1 : Below base w W1 := by rw [hW1]; exact (Below.refl _ _).drew.alloc (by rw [hsw]; exact hbw) _
  have hgx1 : ∀ j, W1.cell? ⟨gx, j, none⟩ = w.cell? ⟨gx, j, none⟩ := fun j => by rw [hW1]; exact World.cell?_alloc_past (w := w.drew) _ gx j hgxw
  have hg1 : ∀ j, W1.cell? ⟨g, j, none⟩ = w.cell? ⟨g, j, none⟩ := fun j => by rw [hW1]; exact World.cell?_alloc_past (w := w.drew) _ g j hgw
  rw [← hW1] at hrz
  have hA1 : ((flat Drill.enc xs).take (k * 5) ++ Z1.toList).length = xs.length * 5 + 5 := by rw [List.length_append, hTl, Array.length_toList, hZ1l]; omega
  have hcpA : ∀ ty dc, (Builtin.copy_ #[25, 25] ty #[.slice (some ⟨w.heap.size, k * 5, none⟩) (xs.length + 1 - k) dc, .slice (some ⟨gx, 0, none⟩) 1 1]).run Try.prog W1 = .ok (goInt (Nat.min 1 (xs.length + 1 - k))) (W1.setCells w.heap.size (k * 5) (ee)) := fun ty dc =>
    run_copy_K W1 _ _ ty 52 5 w.heap.size (k * 5) _ dc ⟨gx, 0, none⟩ 1 1 (ee) Try.underlying25 hsz (by rw [hE5]; simp only [Nat.min_def]; split <;> omega)
      (fun j v hj => by
        rw [Addr.add_lit, hgx1, Nat.zero_add]
        exact hEx j v hj)
      (fun j hj => by
        have hj5 : j < 5 := by rw [hE5] at hj; exact hj
        rw [row_cell hR0 (j := k * 5 + j) (u := ((flat Drill.enc xs).take (k * 5) ++ Z1.toList)[k * 5 + j]'(by omega)) (List.getElem?_eq_getElem (by omega))]; rfl)
      (fun j _ => hR0.frozenAt _) hE1
  have hR1 : (W1.setCells w.heap.size (k * 5) (ee)).ownsRow base 52 5 (.slice (some ⟨w.heap.size, 0, none⟩) (xs.length + 1) G) (xs.length + 1) (lay ((flat Drill.enc xs).take (k * 5) ++ Z1.toList) (k * 5) (ee)) := row_lay _ _ _ _ hR0 (by rw [hA1, hE5]; omega)
  have hl1 : (lay ((flat Drill.enc xs).take (k * 5) ++ Z1.toList) (k * 5) (ee)).length = xs.length * 5 + 5 := by rw [lay_len (by rw [hA1, hE5]; omega), hA1]
  have hR1d : (W1.setCells w.heap.size (k * 5) ee).drew.ownsRow base 52 5 (.slice (some ⟨w.heap.size, 0, none⟩) (xs.length + 1) G) (xs.length + 1) (lay ((flat Drill.enc xs).take (k * 5) ++ Z1.toList) (k * 5) ee) := ownD hR1 1
  have hgN : g ≠ w.heap.size := by omega
  have hcpB : ∀ ty dc sc, (Builtin.copy_ #[25, 25] ty #[.slice (some ⟨w.heap.size, (k + 1) * 5, none⟩) (xs.length - k) dc, .slice (some ⟨g, k * 5, none⟩) (xs.length - k) sc]).run Try.prog (W1.setCells w.heap.size (k * 5) (ee)).drew = .ok (goInt (Nat.min (xs.length - k) (xs.length - k))) ((W1.setCells w.heap.size (k * 5) (ee)).drew.setCells w.heap.size ((k + 1) * 5) ((flat Drill.enc xs).drop (k * 5))) := fun ty dc sc =>
    run_copy_K _ _ _ ty 52 5 w.heap.size ((k + 1) * 5) _ dc ⟨g, k * 5, none⟩ _ sc ((flat Drill.enc xs).drop (k * 5)) Try.underlying25 hsz (by rw [hdl]; congr 1; simp only [Nat.min_def]; split <;> omega)
      (fun j v hj => by
        rw [Addr.add_lit]
        have h1 : (W1.setCells w.heap.size (k * 5) (ee)).drew.cell? ⟨g, k * 5 + j, none⟩ = W1.cell? ⟨g, k * 5 + j, none⟩ := World.cell?_setCells_out w.heap.size (ee) (k * 5) W1 ⟨g, k * 5 + j, none⟩ (fun h _ => absurd h hgN)
        rw [h1, hg1]
        rw [List.getElem?_drop] at hj
        exact row_cell hown hj)
      (fun j hj => by
        rw [hdl] at hj
        have h1 := row_cell hR1 (j := (k + 1) * 5 + j) (u := (lay ((flat Drill.enc xs).take (k * 5) ++ Z1.toList) (k * 5) (ee))[(k + 1) * 5 + j]'(by omega)) (List.getElem?_eq_getElem (by omega))
        have h2 : (W1.setCells w.heap.size (k * 5) (ee)).drew.cell? ⟨w.heap.size, (k + 1) * 5 + j, none⟩ = (W1.setCells w.heap.size (k * 5) (ee)).cell? ⟨w.heap.size, (k + 1) * 5 + j, none⟩ := World.cell?_drew _ _
        rw [h2, h1]; rfl)
      (fun j _ => hR1d.frozenAt _) (fun v hv => one_flat xs v (List.mem_of_mem_drop hv))
  have HR2 : Hid (((W1.setCells w.heap.size (k * 5) (ee)).drew.setCells w.heap.size ((k + 1) * 5) ((flat Drill.enc xs).drop (k * 5))).ownsRow base 52 5 (.slice (some ⟨w.heap.size, 0, none⟩) (xs.length + 1) G) (xs.length + 1) (flat Drill.enc (insAt xs k x))) := by
    refine hid ?_
    have hR1d : (W1.setCells w.heap.size (k * 5) (ee)).drew.ownsRow base 52 5 (.slice (some ⟨w.heap.size, 0, none⟩) (xs.length + 1) G) (xs.length + 1) (lay ((flat Drill.enc xs).take (k * 5) ++ Z1.toList) (k * 5) (ee)) := hR1
    have := row_lay ((flat Drill.enc xs).drop (k * 5)) ((k + 1) * 5) _ _ hR1d (by rw [hl1, hdl]; omega)
    rw [lay_fill hTl hZ1t hE5 hdl hk] at this
    rw [insAt_flat, ← hE]; exact this
  have HB1 := hid hB1
  have hkn : (k : Int) < xs.length := by omega
  have hz2 : ¬ ((k : Int) = (xs.length : Int)) := by omega
  have hz2b : ((k : Int) == (xs.length : Int)) = false := by rw [beq_eq_false_iff_ne]; exact hz2
  have hcap' : (xs.length : Int) < (xs.length : Int) + 1 := by omega
  have hGi : ¬ (G = k) := by omega
  have hGim : ¬ (G = k + 1) := by omega
  have hci : ¬ (xs.length = k) := by omega
  have hw1 : IntKind.i64.wrap ((k : Int) + 1) = (k : Int) + 1 := by rw [IntKind.wrap_i64]; omega
  have hb1 : (0 : Int) ≤ (k : Int) + 1 := by omega
  have hb3 : (k : Int) ≤ (xs.length : Int) + 1 := by omega
  have hk2 : (k : Int) ≤ (xs.length : Int) := by omega
  have hk3 : k ≤ xs.length := by omega
  have hkk1 : (k : Int) + 1 ≤ (xs.length : Int) + 1 := by omega
  have htn : ((k : Int) + 1).toNat = k + 1 := by omega
  have hGm63 : G ≤ 9223372036854775807 := by unfold maxLen at hGm; omega
  clear hE hEx hE1 hZ1t hown hold hkk hik hR0 hR1 hR1d hB1 hW1 hgx1 hg1 hZ1 hZ2 hG hZ1l hZ2l hA1 hl1 hx hTl hdl hFl
  go_enter Try.func69, Try.ntmps69
  go_wp2_with (first
    | (at_builtin; refine Lib.wpList_append_run _ rfl _ _ _ _ rfl _ _ rfl rfl _ _ (hrz _) ?_)
    | (at_builtin; refine wpList_copyR _ rfl _ _ 25 25 rfl _ _ rfl rfl (hcpA _ _) ?_))
  go_region_law (refine step_copyR rfl _ _ 25 25 rfl (.slice (some ⟨w.heap.size, (k + 1) * 5, none⟩) (xs.length - k) (G - (k + 1))) (.slice (some ⟨g, k * 5, none⟩) (xs.length - k) (xs.length - k)) (by simp [Act.eval, Act.put]) (by simp [Act.eval, Act.put]) (hcpB _ _ _) ?_)
  go_wp2
  go_ret
  refine ⟨⟨_, rfl, ?_⟩, ?_⟩
  · rw [insAt_len xs k x (by omega)]; exact HR2.out
  · exact setCells_below hbw _ _ (setCells_below hbw _ _ HB1.out).drew
end Go.Proofs.Ytibmcailjodpkaa
