/- AddDrill of the note. -/
import Derived.Test.YtibmcailjodpkaaAdd1
import Derived.Test.YtibmcailjodpkaaRowX
import Derived.Test.YtibmcailjodpkaaAppN
namespace Go.Proofs.Ytibmcailjodpkaa
set_option linter.unusedVariables false
open Go.RowKit
theorem drill_one (xs : List Drill) : ∀ y ∈ flat Drill.enc xs, y.oneCell' = true := fun y hy => by
  unfold flat at hy
  obtain ⟨x, _, h⟩ := List.mem_flatMap.1 hy
  simp only [Drill.enc, List.mem_cons, List.not_mem_nil, or_false] at h
  rcases h with rfl | rfl | rfl | rfl | rfl <;> rfl
theorem drill_len (x : Drill) : (Drill.enc x).length = 5 := rfl
theorem DrillAt.ext {w W : World} {b o : Nat} {x : Drill} (h : DrillAt w b o x) (hb : b < w.heap.size) (hE : Ext w W) : DrillAt W b o x := by
  obtain ⟨c0, c1, c2, c3, c4⟩ := h
  have hh := (bcell hE).1
  exact ⟨(hh _ _ hb).trans c0, (hh _ _ hb).trans c1, (hh _ _ hb).trans c2, (hh _ _ hb).trans c3, (hh _ _ hb).trans c4⟩
theorem sl_takeD {lo hi n c g o i : Nat} {w : World} {xs : List Drill} (h : Sl lo hi w 5 (.slice (some ⟨g, o, none⟩) n c) n (flat Drill.enc xs)) (hi' : i ≤ n) : Sl lo hi w 5 (.slice (some ⟨g, o, none⟩) i c) i (flat Drill.enc (xs.take i)) := by
  obtain ⟨h1, h2, A, c', h3, h4, h5, h6⟩ := h
  simp only [Value.slice.injEq] at h3
  obtain ⟨rfl, _, rfl⟩ := h3
  rw [flat_take drill_len]
  refine ⟨h1, by rw [List.length_take, h2]; have := Nat.mul_le_mul_right 5 hi'; omega, _, c, rfl, by omega, h5, fun hi0 => ?_⟩
  obtain ⟨b, off, e, h7, h8, h9⟩ := h6 (by omega)
  refine ⟨b, off, e, h7, h8, fun j u hu => h9 j u ?_⟩
  rw [List.getElem?_take] at hu
  split at hu
  · exact hu
  · cases hu
theorem sl_dropD {lo hi n c g o i : Nat} {w : World} {xs : List Drill} (h : Sl lo hi w 5 (.slice (some ⟨g, o, none⟩) n c) n (flat Drill.enc xs)) (hi' : i ≤ n) : Sl lo hi w 5 (.slice (some ⟨g, o + i * 5, none⟩) (n - i) (c - i)) (n - i) (flat Drill.enc (xs.drop i)) := by
  obtain ⟨h1, h2, A, c', h3, h4, h5, h6⟩ := h
  simp only [Value.slice.injEq] at h3
  obtain ⟨rfl, _, rfl⟩ := h3
  rw [flat_drop drill_len]
  refine ⟨h1, by rw [List.length_drop, h2, Nat.sub_mul], _, c - i, rfl, by omega, by omega, fun hi0 => ?_⟩
  obtain ⟨b, off, e, h7, h8, h9⟩ := h6 (by omega)
  simp only [Option.some.injEq, Addr.mk.injEq, and_true] at e
  obtain ⟨rfl, rfl⟩ := e
  refine ⟨g, o + i * 5, rfl, h7, h8, fun j u hu => ?_⟩
  rw [List.getElem?_drop] at hu
  have := h9 (i * 5 + j) u hu
  rw [Nat.add_assoc]; exact this
theorem put_rowD {w : World} {base b' e k m : Nat} {v : Value} {xs : List Drill} {x : Drill} (h : w.ownsRow base e 5 v (k + 1 + m) (flat Drill.enc (xs.take k) ++ Drill.enc x ++ flat Drill.enc (xs.drop k))) (hp : posD xs x = k) (hm : m = xs.length - k) (hk : k ≤ xs.length) (hb : b' ≤ base) : w.ownsRow b' e 5 v (insD xs x).length (flat Drill.enc (insD xs x)) := by
  have e1 : (insD xs x).length = k + 1 + m := by rw [insD_len]; omega
  have e2 : flat Drill.enc (insD xs x) = flat Drill.enc (xs.take k) ++ Drill.enc x ++ flat Drill.enc (xs.drop k) := by
    unfold insD; rw [hp, flat_app]
    show _ ++ flat Drill.enc (x :: xs.drop k) = _
    unfold flat; rw [List.flatMap_cons, List.append_assoc]
  rw [e1, e2]
  refine ⟨h.1, ?_⟩
  rcases h.2 with h0 | ⟨g, cap, cur, e3, hbg, r⟩
  · exact .inl h0
  · exact .inr ⟨g, cap, cur, e3, Nat.le_trans hb hbg, r⟩
theorem sl_nilD {hi : Nat} {w : World} (A : Option Addr) (o c : Nat) (hc : c ≤ maxLen) (hh : hi ≤ w.heap.size) (xs : List Drill) (hx : xs = []) (m : Nat) (hm : m = 0) : Sl 0 hi w 5 (.slice A m c) m (flat Drill.enc xs) := by
  subst hx; subst hm
  exact ⟨hh, rfl, _, c, rfl, Nat.zero_le _, hc, fun h => absurd h (by omega)⟩
theorem keepA {B : Nat} {w W : World} (h : Below B w W) (hB : B ≤ w.heap.size) (o : Obj) : Below B w (W.alloc o) := h.alloc (Nat.le_trans hB h.size) o
theorem DrillAt.below {w W : World} {b o B : Nat} {x : Drill} (h : DrillAt w b o x) (hE : Below B w W) (hb : b < B := by omega) : DrillAt W b o x := by
  obtain ⟨c0, c1, c2, c3, c4⟩ := h
  have hh : ∀ q, W.cell? ⟨b, q, none⟩ = w.cell? ⟨b, q, none⟩ := fun q => World.cell?_of_block (w := w) (hE.block b hb)
  exact ⟨(hh _).trans c0, (hh _).trans c1, (hh _).trans c2, (hh _).trans c3, (hh _).trans c4⟩
theorem qE {P : Program} {f : FuncId} {args : Array Value} {w : World} {v v' : Value} (h : Calls P f args w fun e w' => e = .returned v ∧ ∃ n, w' = w.drewN n) (hv : v = v') : Calls P f args w fun e w' => e = .returned v' ∧ Ext w w' := h.mono fun _ _ ⟨h1, n, h2⟩ => ⟨by rw [h1, hv], h2 ▸ Ext.drewN w n⟩
theorem sl_dropEnd (xs : List Drill) (b off c : Nat) (hc : c ≤ maxLen) : ∀ W : World, Sl 0 0 W 5 (.slice (some ⟨b, off, none⟩) 0 c) 0 (flat Drill.enc (xs.drop xs.length)) := fun W => by
  rw [List.drop_length]
  exact sl_nilD _ 0 c hc (Nat.zero_le _) [] rfl 0 rfl
theorem rowZ {w : World} {base e k m : Nat} {v : Value} {a1 b1 c1 : List Value} (h : w.ownsRow base e 5 v (0 + k + 1 + m) ([] ++ a1 ++ b1 ++ c1)) : w.ownsRow base e 5 v (k + 1 + m) (a1 ++ b1 ++ c1) := by
  rw [Nat.zero_add, List.nil_append] at h; exact h
set_option maxRecDepth 100000 in
set_option maxHeartbeats 1000000 in
theorem specAddNil (x : Drill) (w : World) (hsx : x.crew.size ≤ maxLen) :
    Calls Try.prog 36 #[.slice none 0 0, .agg #[.int .i64 x.day, .string x.crew, .int .i64 x.persons, .int .i64 x.seconds, .int .i64 x.missing]] w fun e w' => (∃ v', e = .returned (.tuple #[v', .int .i64 (addR [] x).2]) ∧ Own w.heap.size w'.heap.size w' 52 5 v' (addR [] x).1.length (flat Drill.enc (addR [] x).1)) ∧ Ext w w' := by
  have h1 : drillsB ([] : List Drill) = true := by decide
  have hP : Hid (posD [] x = 0) := hid (posD_eq (xs := []) (by simp) (fun q hq _ => absurd hq (by simp)) (fun h => absurd h (by simp)))
  have hasF : hasD [] x = false := hasD_end hP.out (by simp)
  have hv : ∀ W : World, Sl 0 0 W 5 (.slice none 0 0) 0 (flat Drill.enc []) := fun W => sl_nilD none 0 0 (by decide) (Nat.zero_le _) [] rfl 0 rfl
  go_enter Try.func36, Try.ntmps36
  go_wp2_with fail
  generalize hG : World.alloc _ _ = wz
  have hE1 : Ext w wz := by rw [← hG]; exact Ext.new _ _
  have HX : Hid (DrillAt wz w.heap.size 0 x) := by refine hid ?_; subst hG; exact ⟨by go_simp, by go_simp, by go_simp, by go_simp, by go_simp⟩
  have hxl : w.heap.size < wz.heap.size := by rw [← hG]; simp
  clear hG
  have HOK := hid (l28Ok [] 0 0 (.slice none 0 0) wz (hv wz) (by simp) (by simp))
  cases h2 : drillB x
  · have HQ := hid (addR_b h1 h2)
    go_wp2_with (first | (go_at_call 43; refine (cv HOK.out (vb h1)).mono ?_; rintro e w1 ⟨rfl, hE⟩) | (go_at_call 66; refine (cv (l28One _ _ x _ hsx (HX.out.ext hxl hE)) (vb h2)).mono ?_; rintro e w2 ⟨rfl, m, rfl⟩))
    go_ret2
    exact ⟨⟨_, by rw [HQ.out]; rfl, by rw [HQ.out]; exact Own.nil _ _ (Ext.tr hE1 (Ext.tr hE (Ext.drewN _ _)))⟩, Ext.tr hE1 (Ext.tr hE (Ext.drewN _ _))⟩
  go_wp2_with (first | (go_at_call 43; refine (cv HOK.out (vb h1)).mono ?_; rintro e w1 ⟨rfl, hE⟩) | (go_at_call 66; refine (cv (l28One _ _ x _ hsx (HX.out.ext hxl hE)) (vb h2)).mono ?_; rintro e w2 ⟨rfl, m, rfl⟩))
  have hE2 : Ext wz (w1.drewN m) := Ext.tr hE (Ext.drewN _ _)
  generalize w1.drewN m = w2 at *
  go_loopw [6] (fun i wr => i = .int .i64 0 ∧ Ext wz wr) (fun _ _ => 0)
  case atStart => exact ⟨rfl, hE2⟩
  case round =>
    obtain ⟨rfl, hEr⟩ := hrel
    have hEw := hEr
    have hzw := Ext.tr hE1 hEw
    have hzs := hEw.size
    have HEW := hid hEw
    have HZW := hid hzw
    have HQ := hid (addR_e h1 h2 hasF (by simp))
    go_wp2_with (first
    | (at_builtin; refine wp_appendN (wr.alloc _) rfl (.tmp 39) (.tmp 42) _ rfl wz.heap.size 52 5 48 _ Try.underlying25 infoDrill rfl (by omega) (by omega) _ 0 [] (own_empty _ _ _ _ hzs) rfl _ _ 0 _ _ (hv _) (.inl rfl) rfl (drill_one _) (by omega) (by simp; omega) ?_; intro v4 w4 ho4 hb4; have hE4 := Below.trans (keepA (Below.refl wz.heap.size _) hzs _) hb4; obtain ⟨q0, q1, q2, q3, q4⟩ := DrillAt.below (HX.out.ext hxl HEW.out) hE4)
    | (at_builtin; refine wp_append1 w4 rfl (.tmp 44) (.tmp 46) _ rfl wz.heap.size 52 5 48 _ Try.underlying25 infoDrill rfl (by omega) (by omega) _ _ _ ho4 rfl [.int .i64 x.day, .string x.crew, .int .i64 x.persons, .int .i64 x.seconds, .int .i64 x.missing] rfl (by simp [Value.oneCell']) _ rfl rfl (by omega) (Nat.le_trans hzs hE4.size) ?_; intro v5 w5 ho5 hb5; have hE5 := hE4.trans hb5)
    | (at_builtin; refine wp_appendN w5 rfl (.tmp 48) (.tmp 51) _ rfl wz.heap.size 52 5 48 _ Try.underlying25 infoDrill rfl (by omega) (by omega) _ _ _ ho5 rfl _ _ 0 _ _ (hv _) (.inl rfl) rfl (drill_one _) (by omega) (Nat.le_trans hzs hE5.size) ?_; intro v6 w6 ho6 hb6))
    go_ret2
    have hE6 : Ext w w6 := Ext.tr hE1 (Below.trans HEW.out (hE5.trans hb6))
    exact ⟨⟨_, by rw [HQ.out]; rfl, by rw [HQ.out]; exact Own.of (put_rowD (xs := []) (x := x) (k := 0) ho6 hP.out rfl (by simp) hE1.size) (by rw [insD_len]; simp)⟩, hE6⟩
set_option maxRecDepth 100000 in
set_option maxHeartbeats 1000000 in
theorem specAddSome (xs : List Drill) (x : Drill) (lo hi b off c : Nat) (w : World) (hv : Sl lo hi w 5 (.slice (some ⟨b, off, none⟩) xs.length c) xs.length (flat Drill.enc xs)) (hs : ∀ y ∈ xs, y.crew.size ≤ maxLen) (hn : xs.length ≤ 1048576) (hsx : x.crew.size ≤ maxLen) :
    Calls Try.prog 36 #[.slice (some ⟨b, off, none⟩) xs.length c, .agg #[.int .i64 x.day, .string x.crew, .int .i64 x.persons, .int .i64 x.seconds, .int .i64 x.missing]] w fun e w' => (∃ v', e = .returned (.tuple #[v', .int .i64 (addR xs x).2]) ∧ Own w.heap.size w'.heap.size w' 52 5 v' (addR xs x).1.length (flat Drill.enc (addR xs x).1)) ∧ Ext w w' := by
  have hv0 := hv
  obtain ⟨hhi, _, A, c', he, hnc, hcm, hcell⟩ := hv0
  simp only [Value.slice.injEq, true_and] at he
  obtain ⟨rfl, rfl⟩ := he
  go_enter Try.func36, Try.ntmps36
  go_wp2_with fail
  generalize hG : World.alloc _ _ = wz
  have hE1 : Ext w wz := by rw [← hG]; exact Ext.new _ _
  have HX : Hid (DrillAt wz w.heap.size 0 x) := by refine hid ?_; subst hG; exact ⟨by go_simp, by go_simp, by go_simp, by go_simp, by go_simp⟩
  have hxl : w.heap.size < wz.heap.size := by rw [← hG]; simp
  clear hG
  have HOK := hid (l28Ok xs _ _ _ _ (hv.ext hE1) hs hn)
  cases h1 : drillsB xs
  · have HQ := hid (addR_a x h1)
    go_wp2_with (first | (go_at_call 43; refine (cv HOK.out (vb h1)).mono ?_; rintro e w1 ⟨rfl, hE⟩))
    go_ret2
    exact ⟨⟨_, by rw [HQ.out]; rfl, by rw [HQ.out]; exact Own.nil _ _ (Ext.tr hE1 hE)⟩, Ext.tr hE1 hE⟩
  have hl32 : xs.length ≤ 32 := by unfold drillsB at h1; simp at h1; exact h1.1
  cases h2 : drillB x
  · have HQ := hid (addR_b h1 h2)
    go_wp2_with (first | (go_at_call 43; refine (cv HOK.out (vb h1)).mono ?_; rintro e w1 ⟨rfl, hE⟩) | (go_at_call 66; refine (cv (l28One _ _ x _ hsx (HX.out.ext hxl hE)) (vb h2)).mono ?_; rintro e w2 ⟨rfl, m, rfl⟩))
    go_ret2
    exact ⟨⟨_, by rw [HQ.out]; rfl, by rw [HQ.out]; exact Own.nil _ _ (Ext.tr hE1 (Ext.tr hE (Ext.drewN _ _)))⟩, Ext.tr hE1 (Ext.tr hE (Ext.drewN _ _))⟩
  go_wp2_with (first | (go_at_call 43; refine (cv HOK.out (vb h1)).mono ?_; rintro e w1 ⟨rfl, hE⟩) | (go_at_call 66; refine (cv (l28One _ _ x _ hsx (HX.out.ext hxl hE)) (vb h2)).mono ?_; rintro e w2 ⟨rfl, m, rfl⟩))
  have hE2 : Ext wz (w1.drewN m) := Ext.tr hE (Ext.drewN _ _)
  generalize w1.drewN m = w2 at *
  go_loopw [6] (fun i wr => ∃ k : Nat, k ≤ xs.length ∧ i = .int .i64 k ∧ Hid (∀ q (hq : q < xs.length), q < k → drillLt xs[q] x = true) ∧ Ext wz wr) (fun i _ => xs.length - (intOf i).toNat)
  case atStart => exact ⟨0, Nat.zero_le _, rfl, hid (fun q hq h => absurd h (by omega)), hE2⟩
  case round =>
    obtain ⟨k, hk, rfl, hall, hEr⟩ := hrel
    have hxr := HX.out.ext hxl hEr
    have hhiz : hi ≤ wz.heap.size := Nat.le_trans hhi hE1.size
    by_cases hlt : k < xs.length
    · obtain ⟨b', off', he', hb1, hb2, hc⟩ := hcell (by omega)
      simp only [Option.some.injEq, Addr.mk.injEq, and_true] at he'
      obtain ⟨rfl, rfl⟩ := he'
      have hbw : b < w.heap.size := by omega
      have hki : (k : Int) < xs.length := by omega
      have AT : Hid (∀ W, Ext wz W → DrillAt W b (off + k * 5) xs[k]) := hid (fun W hW => by
        obtain ⟨c0, c1, c2, c3, c4⟩ := Drill.cells hc k hlt
        have hh := (bcell (Ext.tr hE1 hW)).1
        exact ⟨(hh _ _ hbw).trans c0, (hh _ _ hbw).trans c1, (hh _ _ hbw).trans c2, (hh _ _ hbw).trans c3, (hh _ _ hbw).trans c4⟩)
      clear hc hxr
      cases hl : drillLt xs[k] x
      rotate_left
      · go_wp2_with (go_at_call 67; refine (cv (l28Before _ _ _ _ xs[k] x _ (AT.out _ hEr) (HX.out.ext hxl hEr)) (vb hl)).mono ?_; rintro e w3 ⟨rfl, m3, rfl⟩)
        go_roundw
        case rel => exact ⟨k + 1, by omega, by go_num, hid (fun q hq h => by rcases Nat.lt_succ_iff_lt_or_eq.1 h with h3 | rfl; exact hall.out q hq h3; exact hl), Ext.tr hEr (Ext.drewN _ _)⟩
        case measure => simp [intOf]; omega
      · have hP := hid (posD_eq (x := x) (Nat.le_of_lt hlt) hall.out (fun _ => hl))
        cases hg : drillLt x xs[k]
        · have HQ := hid (addR_c h1 h2 (show hasD xs x = true by rw [hasD_at hP.out hlt, hg]; rfl))
          go_wp2_with (first | (go_at_call 67; with_reducible refine (qE (l28Before b (off + k * 5) w.heap.size 0 xs[k] x _ (AT.out _ hEr) (HX.out.ext hxl hEr)) (vb hl)).mono ?_; rintro e w3 ⟨rfl, hE3⟩) | (go_at_call 67; with_reducible refine (qE (l28Before w.heap.size 0 b (off + k * 5) x xs[k] _ (HX.out.ext hxl (Ext.tr hEr hE3)) (AT.out _ (Ext.tr hEr hE3))) (vb hg)).mono ?_; rintro e w7 ⟨rfl, hE7⟩; have hEw := Ext.tr hEr (Ext.tr hE3 hE7); have hzs := hEw.size; have HEW := hid hEw))
          go_ret2
          exact ⟨⟨_, by rw [HQ.out]; rfl, by rw [HQ.out]; exact Own.nil _ _ (Ext.tr hE1 hEw)⟩, Ext.tr hE1 hEw⟩
        · have hasF : hasD xs x = false := by rw [hasD_at hP.out hlt, hg]; rfl
          have hck : ¬ c = k := by omega
          by_cases h32 : xs.length = 32
          · have HQ := hid (addR_d h1 h2 hasF h32)
            have h32' : ((xs.length : Int) == 32) = true := by rw [h32]; rfl
            clear h32
            go_wp2_with (first | (go_at_call 67; with_reducible refine (qE (l28Before b (off + k * 5) w.heap.size 0 xs[k] x _ (AT.out _ hEr) (HX.out.ext hxl hEr)) (vb hl)).mono ?_; rintro e w3 ⟨rfl, hE3⟩) | (go_at_call 67; with_reducible refine (qE (l28Before w.heap.size 0 b (off + k * 5) x xs[k] _ (HX.out.ext hxl (Ext.tr hEr hE3)) (AT.out _ (Ext.tr hEr hE3))) (vb hg)).mono ?_; rintro e w7 ⟨rfl, hE7⟩; have hEw := Ext.tr hEr (Ext.tr hE3 hE7); have hzs := hEw.size; have HEW := hid hEw))
            go_ret2
            exact ⟨⟨_, by rw [HQ.out]; rfl, by rw [HQ.out]; exact Own.nil _ _ (Ext.tr hE1 hEw)⟩, Ext.tr hE1 hEw⟩
          · have HQ := hid (addR_e h1 h2 hasF h32)
            have h32' : ((xs.length : Int) == 32) = false := by rw [beq_eq_false_iff_ne]; omega
            clear h32
            go_wp2_with (first
              | (go_at_call 67; with_reducible refine (qE (l28Before b (off + k * 5) w.heap.size 0 xs[k] x _ (AT.out _ hEr) (HX.out.ext hxl hEr)) (vb hl)).mono ?_; rintro e w3 ⟨rfl, hE3⟩)
              | (go_at_call 67; with_reducible refine (qE (l28Before w.heap.size 0 b (off + k * 5) x xs[k] _ (HX.out.ext hxl (Ext.tr hEr hE3)) (AT.out _ (Ext.tr hEr hE3))) (vb hg)).mono ?_; rintro e w7 ⟨rfl, hE7⟩; have hEw := Ext.tr hEr (Ext.tr hE3 hE7); have hzs := hEw.size; have HEW := hid hEw)
              | (at_builtin; refine wp_appendN (World.alloc _ _) rfl (.tmp 39) (.tmp 42) _ rfl wz.heap.size 52 5 48 _ Try.underlying25 infoDrill rfl (by omega) (by omega) _ 0 [] (own_empty _ _ _ _ hzs) rfl _ _ k _ _ (sl_takeD (hv.ext (Ext.tr (Ext.tr hE1 HEW.out) (Ext.new _ _))) (Nat.le_of_lt hlt)) (.inr ⟨_, _, _, rfl⟩) rfl (drill_one _) (by omega) (by simp; omega) ?_; intro v4 w4 ho4 hb4; have hE4 := Below.trans (keepA (Below.refl wz.heap.size _) hzs _) hb4; have HE4 := hid hE4; have HSL := hid ((hv.ext (Ext.tr hE1 HEW.out)).below hE4 hhiz hE4.size); obtain ⟨q0, q1, q2, q3, q4⟩ := DrillAt.below (HX.out.ext hxl HEW.out) hE4)
              | (at_builtin; refine wp_append1 w4 rfl (.tmp 44) (.tmp 46) _ rfl wz.heap.size 52 5 48 _ Try.underlying25 infoDrill rfl (by omega) (by omega) _ _ _ ho4 rfl [.int .i64 x.day, .string x.crew, .int .i64 x.persons, .int .i64 x.seconds, .int .i64 x.missing] rfl (by simp [Value.oneCell']) _ rfl rfl (by omega) (Nat.le_trans hzs HE4.out.size) ?_; intro v5 w5 ho5 hb5; have hE5 := HE4.out.trans hb5; have HS5 := hid (HSL.out.below hb5 hhiz hb5.size))
              | (at_builtin; refine wp_appendN w5 rfl (.tmp 48) (.tmp 51) _ rfl wz.heap.size 52 5 48 _ Try.underlying25 infoDrill rfl (by omega) (by omega) _ _ _ ho5 rfl _ _ (xs.length - k) _ _ (sl_dropD HS5.out (Nat.le_of_lt hlt)) (.inr ⟨_, _, _, rfl⟩) rfl (drill_one _) (by omega) (Nat.le_trans hzs hE5.size) ?_; intro v6 w6 ho6 hb6))
            go_ret2
            have hE6 : Ext w w6 := Ext.tr hE1 (Below.trans HEW.out (hE5.trans hb6))
            exact ⟨⟨_, by rw [HQ.out]; rfl, by rw [HQ.out]; exact Own.of (put_rowD (xs := xs) (x := x) (k := k) (m := xs.length - k) (rowZ ho6) hP.out (by omega) (by omega) hE1.size) (by rw [insD_len]; omega)⟩, hE6⟩
    · obtain rfl : k = xs.length := by omega
      have hP := hid (posD_eq (x := x) (Nat.le_refl _) hall.out (fun h => absurd h (by omega)))
      have hasF : hasD xs x = false := hasD_end hP.out hlt
      have hEw := hEr
      have hzs := hEw.size
      have HEW := hid hEw
      by_cases hck : c = xs.length
      · subst hck
        have HZ := hid (sl_dropEnd xs b off 0 (Nat.zero_le _))
        by_cases h32 : xs.length = 32
        · have HQ := hid (addR_d h1 h2 hasF h32)
          have h32' : ((xs.length : Int) == 32) = true := by rw [h32]; rfl
          clear h32
          go_wp2_with (fail)
          go_ret2
          exact ⟨⟨_, by rw [HQ.out]; rfl, by rw [HQ.out]; exact Own.nil _ _ (Ext.tr hE1 hEw)⟩, Ext.tr hE1 hEw⟩
        · have HQ := hid (addR_e h1 h2 hasF h32)
          have h32' : ((xs.length : Int) == 32) = false := by rw [beq_eq_false_iff_ne]; omega
          clear h32
          go_wp2_with (first
            | (at_builtin; refine wp_appendN (World.alloc _ _) rfl (.tmp 39) (.tmp 42) _ rfl wz.heap.size 52 5 48 _ Try.underlying25 infoDrill rfl (by omega) (by omega) _ 0 [] (own_empty _ _ _ _ hzs) rfl _ _ xs.length _ _ (sl_takeD (hv.ext (Ext.tr (Ext.tr hE1 HEW.out) (Ext.new _ _))) (Nat.le_refl _)) (.inr ⟨_, _, _, rfl⟩) rfl (drill_one _) (by omega) (by simp; omega) ?_; intro v4 w4 ho4 hb4; have hE4 := Below.trans (keepA (Below.refl wz.heap.size _) hzs _) hb4; have HE4 := hid hE4; have HSL := hid ((hv.ext (Ext.tr hE1 HEW.out)).below hE4 hhiz hE4.size); obtain ⟨q0, q1, q2, q3, q4⟩ := DrillAt.below (HX.out.ext hxl HEW.out) hE4)
            | (at_builtin; refine wp_append1 w4 rfl (.tmp 44) (.tmp 46) _ rfl wz.heap.size 52 5 48 _ Try.underlying25 infoDrill rfl (by omega) (by omega) _ _ _ ho4 rfl [.int .i64 x.day, .string x.crew, .int .i64 x.persons, .int .i64 x.seconds, .int .i64 x.missing] rfl (by simp [Value.oneCell']) _ rfl rfl (by omega) (Nat.le_trans hzs HE4.out.size) ?_; intro v5 w5 ho5 hb5; have hE5 := HE4.out.trans hb5; have HS5 := hid (HSL.out.below hb5 hhiz hb5.size))
            | (at_builtin; refine wp_appendN w5 rfl (.tmp 48) (.tmp 51) _ rfl wz.heap.size 52 5 48 _ Try.underlying25 infoDrill rfl (by omega) (by omega) _ _ _ ho5 rfl _ _ (0) _ _ (HZ.out _) (.inr ⟨_, _, _, rfl⟩) rfl (drill_one _) (by omega) (Nat.le_trans hzs hE5.size) ?_; intro v6 w6 ho6 hb6))
          go_ret2
          have hE6 : Ext w w6 := Ext.tr hE1 (Below.trans HEW.out (hE5.trans hb6))
          exact ⟨⟨_, by rw [HQ.out]; rfl, by rw [HQ.out]; exact Own.of (put_rowD (xs := xs) (x := x) (k := xs.length) (m := 0) (rowZ ho6) hP.out (by omega) (by omega) hE1.size) (by rw [insD_len]; omega)⟩, hE6⟩
      · have HZ := hid (sl_dropEnd xs b (off + xs.length * 5) (c - xs.length) (by omega))
        by_cases h32 : xs.length = 32
        · have HQ := hid (addR_d h1 h2 hasF h32)
          have h32' : ((xs.length : Int) == 32) = true := by rw [h32]; rfl
          clear h32
          go_wp2_with (fail)
          go_ret2
          exact ⟨⟨_, by rw [HQ.out]; rfl, by rw [HQ.out]; exact Own.nil _ _ (Ext.tr hE1 hEw)⟩, Ext.tr hE1 hEw⟩
        · have HQ := hid (addR_e h1 h2 hasF h32)
          have h32' : ((xs.length : Int) == 32) = false := by rw [beq_eq_false_iff_ne]; omega
          clear h32
          go_wp2_with (first
            | (at_builtin; refine wp_appendN (World.alloc _ _) rfl (.tmp 39) (.tmp 42) _ rfl wz.heap.size 52 5 48 _ Try.underlying25 infoDrill rfl (by omega) (by omega) _ 0 [] (own_empty _ _ _ _ hzs) rfl _ _ xs.length _ _ (sl_takeD (hv.ext (Ext.tr (Ext.tr hE1 HEW.out) (Ext.new _ _))) (Nat.le_refl _)) (.inr ⟨_, _, _, rfl⟩) rfl (drill_one _) (by omega) (by simp; omega) ?_; intro v4 w4 ho4 hb4; have hE4 := Below.trans (keepA (Below.refl wz.heap.size _) hzs _) hb4; have HE4 := hid hE4; have HSL := hid ((hv.ext (Ext.tr hE1 HEW.out)).below hE4 hhiz hE4.size); obtain ⟨q0, q1, q2, q3, q4⟩ := DrillAt.below (HX.out.ext hxl HEW.out) hE4)
            | (at_builtin; refine wp_append1 w4 rfl (.tmp 44) (.tmp 46) _ rfl wz.heap.size 52 5 48 _ Try.underlying25 infoDrill rfl (by omega) (by omega) _ _ _ ho4 rfl [.int .i64 x.day, .string x.crew, .int .i64 x.persons, .int .i64 x.seconds, .int .i64 x.missing] rfl (by simp [Value.oneCell']) _ rfl rfl (by omega) (Nat.le_trans hzs HE4.out.size) ?_; intro v5 w5 ho5 hb5; have hE5 := HE4.out.trans hb5; have HS5 := hid (HSL.out.below hb5 hhiz hb5.size))
            | (at_builtin; refine wp_appendN w5 rfl (.tmp 48) (.tmp 51) _ rfl wz.heap.size 52 5 48 _ Try.underlying25 infoDrill rfl (by omega) (by omega) _ _ _ ho5 rfl _ _ (0) _ _ (HZ.out _) (.inr ⟨_, _, _, rfl⟩) rfl (drill_one _) (by omega) (Nat.le_trans hzs hE5.size) ?_; intro v6 w6 ho6 hb6))
          go_ret2
          have hE6 : Ext w w6 := Ext.tr hE1 (Below.trans HEW.out (hE5.trans hb6))
          exact ⟨⟨_, by rw [HQ.out]; rfl, by rw [HQ.out]; exact Own.of (put_rowD (xs := xs) (x := x) (k := xs.length) (m := 0) (rowZ ho6) hP.out (by omega) (by omega) hE1.size) (by rw [insD_len]; omega)⟩, hE6⟩
theorem specAddDrill (xs : List Drill) (x : Drill) (lo hi : Nat) (v : Value) (w : World) (hv : Sl lo hi w 5 v xs.length (flat Drill.enc xs)) (hsh : Shape v xs.length) (hs : ∀ y ∈ xs, y.crew.size ≤ maxLen) (hn : xs.length ≤ 1048576) (hsx : x.crew.size ≤ maxLen) :
    Calls Try.prog 36 #[v, .agg #[.int .i64 x.day, .string x.crew, .int .i64 x.persons, .int .i64 x.seconds, .int .i64 x.missing]] w fun e w' => (∃ v', e = .returned (.tuple #[v', .int .i64 (addR xs x).2]) ∧ Own w.heap.size w'.heap.size w' 52 5 v' (addR xs x).1.length (flat Drill.enc (addR xs x).1)) ∧ Ext w w' := by
  obtain ⟨_, _, A, c, he, _, _, _⟩ := id hv
  rcases hsh with rfl | ⟨b, off, c', rfl⟩
  · simp only [Value.slice.injEq] at he
    obtain rfl : xs = [] := List.eq_nil_of_length_eq_zero he.2.1.symm
    exact specAddNil x w hsx
  · exact specAddSome xs x lo hi b off c' w hv hs hn hsx
end Go.Proofs.Ytibmcailjodpkaa
