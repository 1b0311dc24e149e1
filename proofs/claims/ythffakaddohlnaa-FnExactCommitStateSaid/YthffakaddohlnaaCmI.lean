/- CommitState of the program. -/
import Derived.Test.YthffakaddohlnaaCmA
import Derived.Lib.LazyBuf
namespace Go.Proofs.Ythffakaddohlnaa
set_option linter.unusedVariables false
open Go.RowKit
set_option maxRecDepth 100000 in
set_option maxHeartbeats 1000000 in
theorem cloneSet (xs : List Setting) (lo hi : Nat) (v : Value) (w : World) (hv : Sl lo hi w 2 v xs.length (flat Setting.enc xs)) (hsh : Shape v xs.length) (hn : xs.length ≤ 2097152) :
    Calls Try.prog 86 #[v] w fun e w' => (∃ v', e = .returned v' ∧ w'.ownsRow w.heap.size 61 2 v' xs.length (flat Setting.enc xs)) ∧ Ext w w' := by
  have hv0 := hv
  obtain ⟨_, hl, A, c, he, _, _, _⟩ := hv0
  have qT : ∀ (w : World) (a : Option Addr) (n c n' c' : Nat), (binOp .eql 25 (.slice a n c) (.slice none n' c')).run Try.prog w = .ok (.bool a.isNone) w := fun w a n c n' c' => Lib.run_eql_slice_nil w _ _ a n c n' c' Try.underlying25
  rcases hsh with rfl | ⟨b, off, c', rfl⟩
  · simp only [Value.slice.injEq] at he
    obtain ⟨rfl, h0, rfl⟩ := he
    have h1 : flat Setting.enc xs = [] := List.eq_nil_of_length_eq_zero (by omega)
    have HL := hid h0
    have H1 := hid h1
    clear h0 h1
    go_enter Try.func86, Try.ntmps86
    go_wp2
    go_ret
    exact ⟨⟨_, rfl, by rw [H1.out, ← HL.out]; exact World.ownsRow_nil _ _ _ _⟩, Below.refl _ _⟩
  · have hsh : Shape (.slice (some ⟨b, off, none⟩) xs.length c') xs.length := .inr ⟨b, off, c', rfl⟩
    clear he
    go_enter Try.func86, Try.ntmps86
    go_wp2_with (at_builtin; refine wp_appendN (w.alloc _) rfl (.tmp 5) (.tmp 6) _ rfl w.heap.size 61 2 24 _ Try.underlying25 infoSetting rfl (by omega) (by omega) _ 0 [] (own_empty w _ _ _ (Nat.le_refl _)) rfl _ _ _ _ _ (hv.ext (Ext.new _ _)) hsh rfl (setting_one xs) (by omega) (by simp) ?_; intro v' w' ho' hb')
    go_ret
    exact ⟨⟨_, rfl, by simpa using ho'⟩, (Ext.new w _).trans hb'⟩
theorem sl_wide {lo hi k n : Nat} {w : World} {v : Value} {xs : List Value} (h : Sl lo hi w k v n xs) : Sl 0 w.heap.size w k v n xs := by
  obtain ⟨h1, h2, A, c, h3, h4, h5, h6⟩ := h
  refine ⟨Nat.le_refl _, h2, A, c, h3, h4, h5, fun h0 => ?_⟩
  obtain ⟨b, off, e1, _, e3, e4⟩ := h6 h0
  exact ⟨b, off, e1, Nat.zero_le _, by omega, e4⟩
theorem own_sim {w W : World} {o : Obj} {t K n : Nat} {v : Value} {xs : List Value} (h : W.ownsRow (w.alloc o).heap.size t K v n xs) : W.ownsRow (w.heap.size + 1) t K v n xs := by simpa using h
theorem row_formN {w : World} {base e K n : Nat} {v : Value} {xs : List Value} (h : w.ownsRow base e K v n xs) (hn : 0 < n) : ∃ g cap, v = .slice (some ⟨g, 0, none⟩) n cap ∧ w.ownsRow base e K (.slice (some ⟨g, 0, none⟩) n cap) n xs := by
  rcases h.2 with ⟨_, h0⟩ | ⟨g, cap, cur, rfl, _⟩
  · subst h0; omega
  · exact ⟨g, cap, rfl, h⟩
theorem ver_one {lo hi : Nat} {w : World} {ys : List (Version × Value)} (h : ∀ p ∈ ys, Sl lo hi w 2 p.2 p.1.state.length (flat Setting.enc p.1.state) ∧ Shape p.2 p.1.state.length) : ∀ y ∈ flat Version.enc ys, y.oneCell' = true := fun y hy => by
  unfold flat at hy
  obtain ⟨p, hp, h1⟩ := List.mem_flatMap.1 hy
  obtain ⟨⟨_, _, A, c, he, _⟩, _⟩ := h p hp
  refine one_ver p ?_ y h1
  rw [he]; rfl
set_option maxRecDepth 100000 in
set_option maxHeartbeats 1000000 in
theorem cloneVer (ys : List (Version × Value)) (n : Nat) (hyn : ys.length = n) (lo hi : Nat) (v : Value) (w : World) (hv : Sl lo hi w 4 v n (flat Version.enc ys)) (hsh : Shape v n) (hn : n ≤ 1048576) (h1 : ∀ y ∈ flat Version.enc ys, y.oneCell' = true) :
    Calls Try.prog 85 #[v] w fun e w' => (∃ v', e = .returned v' ∧ w'.ownsRow w.heap.size 69 4 v' n (flat Version.enc ys)) ∧ Ext w w' := by
  have hv0 := hv
  obtain ⟨_, hl, A, c, he, _, _, _⟩ := hv0
  have qT : ∀ (w : World) (a : Option Addr) (n c n' c' : Nat), (binOp .eql 33 (.slice a n c) (.slice none n' c')).run Try.prog w = .ok (.bool a.isNone) w := fun w a n c n' c' => Lib.run_eql_slice_nil w _ _ a n c n' c' Try.underlying33
  rcases hsh with rfl | ⟨b, off, c', rfl⟩
  · simp only [Value.slice.injEq] at he
    obtain ⟨rfl, h0, rfl⟩ := he
    have h1 : flat Version.enc ys = [] := List.eq_nil_of_length_eq_zero (by omega)
    have HL := hid h0
    have H1 := hid h1
    clear h0 h1
    go_enter Try.func85, Try.ntmps85
    go_wp2
    go_ret
    exact ⟨⟨_, rfl, by rw [H1.out, ← HL.out]; exact World.ownsRow_nil _ _ _ _⟩, Below.refl _ _⟩
  · have hsh : Shape (.slice (some ⟨b, off, none⟩) n c') n := .inr ⟨b, off, c', rfl⟩
    clear he
    go_enter Try.func85, Try.ntmps85
    go_wp2_with (at_builtin; refine wp_appendN (w.alloc _) rfl (.tmp 5) (.tmp 6) _ rfl w.heap.size 69 4 56 _ Try.underlying33 infoVersion rfl (by omega) (by omega) _ 0 [] (own_empty w _ _ _ (Nat.le_refl _)) rfl _ _ _ _ _ (hv.ext (Ext.new _ _)) hsh rfl h1 (by omega) (by simp) ?_; intro v' w' ho' hb')
    go_ret
    exact ⟨⟨_, rfl, by simpa using ho'⟩, (Ext.new w _).trans hb'⟩
theorem withFull (xs : List Version) (parent : Int) (memo : ByteArray) (lo hi : Nat) (v v2 : Value) (w : World) (hv : SlV lo hi w v xs) (hl : xs.length = 32) :
    Calls Try.prog 74 #[v, .int .i64 parent, .string memo, v2] w fun e w' => e = .returned (.tuple #[.slice none 0 0, .int .i64 5]) ∧ Ext w w' := by
  obtain ⟨ps, hps, ⟨hhi, _, A, c, rfl, hnc, hcm, _⟩, _⟩ := hv.opn
  have hl' : ((xs.length : Int) == 32) = true := by rw [hl]; rfl
  clear hl hps
  go_enter Try.func74, Try.ntmps74
  go_wp2
  go_ret2
  exact ⟨rfl, Below.refl _ _⟩
set_option maxRecDepth 100000 in
set_option maxHeartbeats 2000000 in
theorem withVersion (xs : List Version) (parent : Int) (memo : ByteArray) (st : List Setting) (lo hi lo2 hi2 : Nat) (v v2 : Value) (w : World) (hv : SlVS lo hi w v xs) (hn : totN nV xs + xs.length ≤ 1048576) (hl : ¬ xs.length = 32) (hl2 : xs.length ≤ 32) (hv2 : Sl lo2 hi2 w 2 v2 st.length (flat Setting.enc st)) (hsh : Shape v2 st.length) (hn2 : st.length ≤ 1048576) :
    Calls Try.prog 74 #[v, .int .i64 parent, .string memo, v2] w fun e w' => (∃ v' ys, e = .returned (.tuple #[v', .int .i64 0]) ∧ ys.map Prod.fst = addV xs parent memo st ∧ GrowN nV 69 61 w.heap.size w' v' ys) ∧ Ext w w' := by
  have hl' : ((xs.length : Int) == 32) = false := by rw [beq_eq_false_iff_ne]; omega
  obtain ⟨ps, hps, hvs, hvsh, hin⟩ := hv
  have hvs0 := hvs
  obtain ⟨hhi, _, A, c, rfl, hnc, hcm, _⟩ := hvs0
  obtain ⟨_, _, A2, c2, rfl, _, _, _⟩ := id hv2
  have hpl : ps.length = xs.length := lenOf hps
  have HPS := hid hps
  have HPL := hid hpl
  have HONE := hid (ver_one hin)
  clear hps hpl
  go_enter Try.func74, Try.ntmps74
  go_wp2_with (first
    | (go_at_call 85; refine (cloneVer ps xs.length HPL.out _ _ _ _ hvs hvsh (by omega) HONE.out).mono ?_; rintro e w5 ⟨⟨v5, rfl, ho5⟩, hE5⟩)
    | (at_builtin; refine wp_append1 w5 rfl (.tmp 17) (.tmp 25) _ rfl w.heap.size 69 4 56 _ Try.underlying33 infoVersion rfl (by omega) (by omega) _ _ _ ho5 rfl [.int .i64 ((xs.length : Int) + 1), .int .i64 parent, .string memo, .slice A2 st.length c2] rfl (by simp [Value.oneCell']) _ rfl rfl (by omega) hE5.size ?_; intro v6 w6 ho6 hb6; obtain ⟨g6, c6, rfl, ho7⟩ := row_formN ho6 (by omega)))
  have hEw6 : Ext w w6 := hE5.trans hb6
  have HEW := hid hEw6
  obtain ⟨zs, hzs⟩ : ∃ zs : List (Version × Value), zs = ps ++ [(⟨(xs.length : Int) + 1, parent, memo, st⟩, .slice A2 st.length c2)] := ⟨_, rfl⟩
  have hzl : zs.map Prod.fst = addV xs parent memo st := by rw [hzs, List.map_append, HPS.out]; rfl
  have hfl : flat Version.enc ps ++ [.int .i64 ((xs.length : Int) + 1), .int .i64 parent, .string memo, .slice A2 st.length c2] = flat Version.enc zs := by rw [hzs, flat_snoc]; rfl
  rw [hfl] at ho7
  have hLl : (addV xs parent memo st).length = xs.length + 1 := by unfold addV; simp
  have htot := addV_tot xs parent memo st
  have hin6 : ∀ p ∈ zs, Sl 0 w6.heap.size w6 2 p.2 p.1.state.length (flat Setting.enc p.1.state) ∧ Shape p.2 p.1.state.length := fun p hp => by
    rw [hzs, List.mem_append] at hp
    rcases hp with hp | hp
    · exact ⟨sl_wide ((hin p hp).1.ext hEw6), (hin p hp).2⟩
    · simp at hp; subst hp
      exact ⟨sl_wide (hv2.ext hEw6), hsh⟩
  obtain ⟨_, _, A6, c6', he6, _, _, hcell6⟩ := Sl.of_own ho7 (by unfold maxLen; omega)
  simp only [Value.slice.injEq, true_and] at he6
  obtain ⟨rfl, rfl⟩ := he6
  obtain ⟨b6, o6, he6, _, hb6w, hc6⟩ := hcell6 (by omega)
  simp only [Option.some.injEq, Addr.mk.injEq, and_true] at he6
  obtain ⟨rfl, rfl⟩ := he6
  have HC6 := hid hc6
  have HZL := hid hzl
  have HL := hid hLl
  have htot2 : totN nV (addV xs parent memo st) ≤ 2097152 := by rw [htot]; omega
  have HIN := hid hin6
  clear ho6 ho7 hc6 hcell6 hzl hLl hin6 hin hvs hfl hzs hb6 htot
  generalize hLL : addV xs parent memo st = L at *
  go_loopw [10, 28] (fun u i wr => ∃ (k : Nat) (ys : List (Version × Value)), k ≤ xs.length + 1 ∧ i = .int .i64 k ∧ Hid (ys.map Prod.fst = L.take k) ∧ Hid (GrowN nV 69 61 w6.heap.size wr u ys) ∧ Ext w6 wr) (fun _ i _ => xs.length + 1 - (intOf i).toNat)
  case atStart => exact ⟨0, [], Nat.zero_le _, rfl, hid rfl, hid (GrowN.nil (Nat.le_refl _)), Below.refl _ _⟩
  case round =>
    obtain ⟨k, ys, hk, rfl, hys, HG, hE⟩ := hrel
    by_cases hlt : k < xs.length + 1
    · have hkL : k < L.length := by have := HL.out; omega
      obtain ⟨Au, cu, c0, c1, c2, c3, hu, hush⟩ := ver_at HZL.out HIN.out HC6.out hE hb6w k hkL
      have hki : (k : Int) < (xs.length : Int) + 1 := by omega
      have hsn : L[k].state.length ≤ 2097152 := by have h9 : L[k].state.length ≤ totN nV L := totN_mem nV L k hkL; omega
      have hyl : Hid (ys.length = k) := hid (by have := congrArg List.length hys.out; rw [List.length_map, List.length_take] at this; omega)
      have hyl2 : ys.length ≤ 1048576 := by have := hyl.out; omega
      have HSN := hid (show ys.map Prod.fst ++ [L[k]] = L.take (k + 1) by rw [hys.out, List.take_succ_eq_append_getElem hkL])
      have HU := hid hu
      have HUS := hid hush
      have hbr : g6 < wr.heap.size := Nat.lt_of_lt_of_le hb6w hE.size
      rw [Nat.zero_add] at c0 c1 c2 c3
      clear hu hush
      generalize L[k] = x at *
      go_wp2_with (first
        | (go_at_call 86; refine (cloneSet x.state _ _ _ _ (HU.out.ext (Ext.new _ _)) HUS.out hsn).mono ?_; rintro e w4 ⟨⟨v4, rfl, ho4'⟩, hE4⟩; have ho4 := own_sim ho4'; clear ho4'; obtain ⟨A4, c4, rfl⟩ := row_slice ho4; have HB4 := (Blk.new wr _ _).ext hE4; have n0 : w4.cell? ⟨wr.heap.size, 0, none⟩ = some (.int .i64 x.number) := HB4.cell 0; have n1 : w4.cell? ⟨wr.heap.size, 1, none⟩ = some (.int .i64 x.parent) := HB4.cell 1; have n2 : w4.cell? ⟨wr.heap.size, 2, none⟩ = some (.string x.memo) := HB4.cell 2; have n3 : w4.cell? ⟨wr.heap.size, 3, none⟩ = some (.slice Au x.state.length cu) := HB4.cell 3; have f3 := HB4.frozen 3; clear HB4; have HW4 := hid (Ext.tr (Ext.new wr _) hE4); have HO5 := hid (own_new (row_set (m := 3) (u := .slice A4 x.state.length c4) ho4 (Nat.lt_succ_self _)) (by omega)); have HW5 := hid (store_ext (a := 3) HW4.out (Nat.le_refl _) (.slice A4 x.state.length c4)))
        | (at_builtin; refine wp_grow (World.setCell _ _ _) w4.heap.size (by simp) rfl (.tmp 36) (.tmp 38) _ rfl w6.heap.size 69 56 _ Try.underlying33 infoVersion rfl (by decide) (by omega) 61 _ ys (HG.out.ext HW5.out) rfl (x, .slice A4 x.state.length c4) rfl (one_ver _ rfl) _ rfl rfl (by omega) (HO5.out.more (by have := HG.out.1; omega) (Nat.le_refl _) (Nat.le_refl _)) (HG.out.later HO5.out (Nat.le_succ _)).1 (HG.out.later HO5.out (Nat.le_succ _)).2 ?_; intro v8 w8 hG8 hb8))
      go_roundw
      case rel => exact ⟨k + 1, ys ++ [(x, .slice A4 x.state.length c4)], by omega, by go_num, hid (by rw [List.map_append]; exact HSN.out), hid hG8, Below.trans (Ext.tr hE HW5.out) hb8⟩
      case measure => simp [intOf]; omega
    · obtain rfl : k = xs.length + 1 := by omega
      have hki : ¬ ((xs.length : Int) + 1 < (xs.length : Int) + 1) := by omega
      go_wp2
      go_ret2
      exact ⟨⟨_, rfl, ys, by rw [hys.out, ← HL.out, List.take_length], HG.out.low (Below.size HEW.out)⟩, Ext.tr HEW.out hE⟩
set_option maxRecDepth 100000 in
set_option maxHeartbeats 2000000 in
theorem implCommitState (xs : List Version) (parent : Int) (memo : ByteArray) (st : List Setting) (lo hi lo2 hi2 : Nat) (v v2 : Value) (w : World) (hv : SlVS lo hi w v xs) (hs : ∀ x ∈ xs, okV x) (hn : totN nV xs + xs.length ≤ 1048576) (hsm : memo.size ≤ maxLen) (hv2 : Sl lo2 hi2 w 2 v2 st.length (flat Setting.enc st)) (hsh : Shape v2 st.length) (hst : ∀ x ∈ st, x.name.size ≤ maxLen) (hn2 : st.length ≤ 1048576) :
    Calls Try.prog 43 #[v, .int .i64 parent, .string memo, v2] w fun e w' => (∃ v', e = .returned (.tuple #[v', .int .i64 (commitR xs parent memo st).2]) ∧ OwnV w.heap.size w'.heap.size w' v' (commitR xs parent memo st).1) ∧ Ext w w' := by
  obtain ⟨_, _, ⟨_, _, A, c, he, hnc, hcm, _⟩, _, _⟩ := id hv
  subst he
  cases h1 : histB xs
  · have HQ := hid (commitR_a (parent := parent) (show (histB xs && memoB memo && stateOkB st) = false by rw [h1]; rfl))
    go_enter Try.func43, Try.ntmps43
    go_wp2_with (first | (go_at_call 25; refine (cv (implValidHistory xs _ _ _ _ hv.sl hs hn) (vb h1)).mono ?_; rintro e w1 ⟨rfl, hE⟩))
    go_ret2
    exact ⟨⟨_, by rw [HQ.out]; rfl, by rw [HQ.out]; exact OwnN.nil _ _ _ (hE)⟩, hE⟩
  have hl32 := hist_len h1
  cases h2 : memoB memo
  · have HQ := hid (commitR_a (parent := parent) (show (histB xs && memoB memo && stateOkB st) = false by rw [h1, h2]; rfl))
    go_enter Try.func43, Try.ntmps43
    go_wp2_with (first | (go_at_call 25; refine (cv (implValidHistory xs _ _ _ _ hv.sl hs hn) (vb h1)).mono ?_; rintro e w1 ⟨rfl, hE⟩) | (go_at_call 59; refine (cv (memoValid memo _ hsm) (vb h2)).mono ?_; rintro e w2 ⟨rfl, hw2⟩; subst hw2))
    go_ret2
    exact ⟨⟨_, by rw [HQ.out]; rfl, by rw [HQ.out]; exact OwnN.nil _ _ _ (hE)⟩, hE⟩
  cases h3 : stateOkB st
  · have HQ := hid (commitR_a (parent := parent) (show (histB xs && memoB memo && stateOkB st) = false by rw [h1, h2, h3]; rfl))
    go_enter Try.func43, Try.ntmps43
    go_wp2_with (first | (go_at_call 25; refine (cv (implValidHistory xs _ _ _ _ hv.sl hs hn) (vb h1)).mono ?_; rintro e w1 ⟨rfl, hE⟩) | (go_at_call 59; refine (cv (memoValid memo _ hsm) (vb h2)).mono ?_; rintro e w2 ⟨rfl, hw2⟩; subst hw2) | (go_at_call 18; refine (cv (stateImpl st _ _ _ _ (hv2.ext hE) hst hn2) (vb h3)).mono ?_; rintro e w3 ⟨rfl, hE3⟩; have HE := hid (Ext.tr hE hE3)))
    go_ret2
    exact ⟨⟨_, by rw [HQ.out]; rfl, by rw [HQ.out]; exact OwnN.nil _ _ _ (HE.out)⟩, HE.out⟩
  have H0 := hid (show (histB xs && memoB memo && stateOkB st) = true by rw [h1, h2, h3]; rfl)
  cases hN : inB parent 0 xs.length
  · have HQ := hid (commitR_b H0.out hN)
    go_enter Try.func43, Try.ntmps43
    go_wp2_with (first | (go_at_call 25; refine (cv (implValidHistory xs _ _ _ _ hv.sl hs hn) (vb h1)).mono ?_; rintro e w1 ⟨rfl, hE⟩) | (go_at_call 59; refine (cv (memoValid memo _ hsm) (vb h2)).mono ?_; rintro e w2 ⟨rfl, hw2⟩; subst hw2) | (go_at_call 18; refine (cv (stateImpl st _ _ _ _ (hv2.ext hE) hst hn2) (vb h3)).mono ?_; rintro e w3 ⟨rfl, hE3⟩; have HE := hid (Ext.tr hE hE3)) | (go_at_call 58; refine (cv (within _ _ _ _) (vb hN)).mono ?_; rintro e w4 ⟨rfl, hw4⟩; subst hw4))
    go_ret2
    exact ⟨⟨_, by rw [HQ.out]; rfl, by rw [HQ.out]; exact OwnN.nil _ _ _ (HE.out)⟩, HE.out⟩
  by_cases h32 : xs.length = 32
  · have HQ := hid (commitR_c H0.out hN h32)
    have H32 := hid h32
    clear h32
    go_enter Try.func43, Try.ntmps43
    go_wp2_with (first | (go_at_call 25; refine (cv (implValidHistory xs _ _ _ _ hv.sl hs hn) (vb h1)).mono ?_; rintro e w1 ⟨rfl, hE⟩) | (go_at_call 59; refine (cv (memoValid memo _ hsm) (vb h2)).mono ?_; rintro e w2 ⟨rfl, hw2⟩; subst hw2) | (go_at_call 18; refine (cv (stateImpl st _ _ _ _ (hv2.ext hE) hst hn2) (vb h3)).mono ?_; rintro e w3 ⟨rfl, hE3⟩; have HE := hid (Ext.tr hE hE3)) | (go_at_call 58; refine (cv (within _ _ _ _) (vb hN)).mono ?_; rintro e w4 ⟨rfl, hw4⟩; subst hw4) | (go_at_call 74; refine (withFull xs parent memo _ _ _ v2 _ (hv.sl.ext HE.out) H32.out).mono ?_; rintro e w5 ⟨rfl, hE5⟩))
    go_ret2
    exact ⟨⟨_, by rw [HQ.out]; rfl, by rw [HQ.out]; exact OwnN.nil _ _ _ (Ext.tr HE.out hE5)⟩, Ext.tr HE.out hE5⟩
  · have HQ := hid (commitR_d H0.out hN h32)
    go_enter Try.func43, Try.ntmps43
    go_wp2_with (first | (go_at_call 25; refine (cv (implValidHistory xs _ _ _ _ hv.sl hs hn) (vb h1)).mono ?_; rintro e w1 ⟨rfl, hE⟩) | (go_at_call 59; refine (cv (memoValid memo _ hsm) (vb h2)).mono ?_; rintro e w2 ⟨rfl, hw2⟩; subst hw2) | (go_at_call 18; refine (cv (stateImpl st _ _ _ _ (hv2.ext hE) hst hn2) (vb h3)).mono ?_; rintro e w3 ⟨rfl, hE3⟩; have HE := hid (Ext.tr hE hE3)) | (go_at_call 58; refine (cv (within _ _ _ _) (vb hN)).mono ?_; rintro e w4 ⟨rfl, hw4⟩; subst hw4) | (go_at_call 74; refine (withVersion xs parent memo st _ _ _ _ _ v2 _ (hv.ext HE.out) hn h32 hl32 (hv2.ext HE.out) hsh hn2).mono ?_; rintro e w5 ⟨⟨v5, ys, rfl, hys, hG5⟩, hE5⟩))
    go_ret2
    exact ⟨⟨_, by rw [HQ.out]; rfl, by rw [HQ.out]; exact addV_own (hG5.low (Below.size HE.out)) hys hn hn2 hl32⟩, Ext.tr HE.out hE5⟩
end Go.Proofs.Ythffakaddohlnaa
