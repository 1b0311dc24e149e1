/- Contracts of DoCheck in both packages: the public functions. -/
import Derived.Test.YtcocdigcmcpefaaT25
namespace Go.Proofs.Ytcocdigcmcpefaa
set_option linter.unusedVariables false
open Go.RowKit
theorem row_open {w : World} {base e K n : Nat} {v : Value} {xs : List Value} (h : w.ownsRow base e K v n xs) (j : Nat) (hj : j < n * K) : ∃ g cap u, v = .slice (some ⟨g, 0, none⟩) n cap ∧ base ≤ g ∧ w.cell? ⟨g, j, none⟩ = some u ∧ w.frozen? ⟨g, j, none⟩ = false ∧ n ≤ cap := by
  rcases h.2 with ⟨_, h0⟩ | ⟨g, cap, cur, rfl, hbg, hg, hnc, hcm, hcs, htake⟩
  · subst h0; omega
  · have hjc : j < cur.size := by
      rw [hcs]; exact Nat.lt_of_lt_of_le hj (Nat.mul_le_mul_right _ hnc)
    refine ⟨g, cap, cur[j], rfl, hbg, ?_, frozen_of_row w g j cur e hg, hnc⟩
    rw [cell_of_row w g j cur e (0, 0) hg, Array.getElem?_eq_getElem hjc]
theorem store_ext {w W : World} {g a : Nat} (h : Ext w W) (hg : w.heap.size ≤ g) (v : Value) : Ext w (W.setCell ⟨g, a, none⟩ v) :=
  ((KeepI.refl w.heap.size (g + 1) W).set_ (g := g) (m := a) hg (by omega) v).ext h (Nat.le_refl _)
theorem row_base {w : World} {base base' e K n : Nat} {v : Value} {xs : List Value} (h : w.ownsRow base e K v n xs) (hb : base' ≤ base) : w.ownsRow base' e K v n xs := by
  refine ⟨h.1, ?_⟩
  rcases h.2 with h0 | ⟨g, cap, cur, e1, e2, e3⟩
  · exact .inl h0
  · exact .inr ⟨g, cap, cur, e1, Nat.le_trans hb e2, e3⟩
def idIx (xs : List Check) (id : ByteArray) : Int := findIx (fun x => decide (x.id.toList = id.toList)) xs
def lastAt (xs : List Check) (k : Nat) : Int := ((xs[k]?).map Check.last).getD 0
def setAt (xs : List Check) (k : Nat) (day : Int) : List Check := match xs[k]? with | none => xs | some x => xs.set k { x with last := day }
theorem setAt_len (xs : List Check) (k : Nat) (day : Int) : (setAt xs k day).length = xs.length := by unfold setAt; split <;> simp
theorem flat_setAt {xs : List Check} {k : Nat} (h : k < xs.length) (day : Int) : flat Check.enc (setAt xs k day) = (flat Check.enc xs).set (k * 3 + 2) (.int .i64 day) := by
  unfold setAt
  rw [List.getElem?_eq_getElem h]
  show flat Check.enc (xs.set k { xs[k] with last := day }) = _
  induction xs generalizing k with
  | nil => simp at h
  | cons x xs ih =>
    cases k with
    | zero => simp [flat, Check.enc]
    | succ k =>
      have h1 := ih (k := k) (by simpa using h)
      have e1 : flat Check.enc (x :: xs) = Check.enc x ++ flat Check.enc xs := by simp [flat]
      have e2 : ∀ y ys, flat Check.enc (y :: ys) = Check.enc y ++ flat Check.enc ys := fun y ys => by simp [flat]
      simp only [List.set_cons_succ, List.getElem_cons_succ]
      rw [e2, h1, e1, List.set_append_right _ _ (by rw [Check.len]; omega), Check.len, show (k + 1) * 3 + 2 - 3 = k * 3 + 2 by omega]
def doneR (xs : List Check) (id : ByteArray) (day : Int) : List Check × Int :=
  if checksOkB xs then (if inB day 0 100000 then (if idIx xs id < 0 then ([], 3) else (if day < lastAt xs (idIx xs id).toNat then ([], 6) else (setAt xs (idIx xs id).toNat day, 0))) else ([], 2)) else ([], 1)
theorem done_no {xs : List Check} (id : ByteArray) (day : Int) (h : checksOkB xs = false) : doneR xs id day = ([], 1) := by unfold doneR; rw [h]; rfl
theorem done_range {xs : List Check} (id : ByteArray) {day : Int} (h : checksOkB xs = true) (h2 : inB day 0 100000 = false) : doneR xs id day = ([], 2) := by unfold doneR; rw [h, h2]; rfl
theorem done_none {xs : List Check} {id : ByteArray} {day : Int} (h : checksOkB xs = true) (h2 : inB day 0 100000 = true) (h3 : idIx xs id < 0) : doneR xs id day = ([], 3) := by unfold doneR; rw [h, h2, if_pos h3]; rfl
theorem done_state {xs : List Check} {id : ByteArray} {day : Int} (h : checksOkB xs = true) (h2 : inB day 0 100000 = true) (k : Nat) (hk : k < xs.length) (e : idIx xs id = (k : Int)) (h4 : day < xs[k].last) : doneR xs id day = ([], 6) := by
  unfold doneR; rw [h, h2, e, if_pos rfl, if_pos rfl, if_neg (by omega)]
  have : lastAt xs (k : Int).toNat = xs[k].last := by unfold lastAt; rw [Int.toNat_natCast, List.getElem?_eq_getElem hk]; rfl
  rw [this, if_pos h4]
theorem done_ok {xs : List Check} {id : ByteArray} {day : Int} (h : checksOkB xs = true) (h2 : inB day 0 100000 = true) (k : Nat) (hk : k < xs.length) (e : idIx xs id = (k : Int)) (h4 : ¬ day < xs[k].last) : doneR xs id day = (setAt xs k day, 0) := by
  unfold doneR; rw [h, h2, e, if_pos rfl, if_pos rfl, if_neg (by omega)]
  have : lastAt xs (k : Int).toNat = xs[k].last := by unfold lastAt; rw [Int.toNat_natCast, List.getElem?_eq_getElem hk]; rfl
  rw [this, if_neg h4]; simp
theorem idIx_at {xs : List Check} {id : ByteArray} (h : ¬ idIx xs id < 0) : ∃ k : Nat, ∃ _ : k < xs.length, idIx xs id = (k : Int) := findIx_at h
set_option maxRecDepth 100000 in
set_option maxHeartbeats 2000000 in
theorem specDoCheck (xs : List Check) (id : ByteArray) (day : Int) (lo hi : Nat) (v : Value) (w : World) (hv : Sl lo hi w 3 v xs.length (flat Check.enc xs)) (hsh : Shape v xs.length) (hs : ∀ x ∈ xs, x.id.size ≤ maxLen) (hn : xs.length ≤ 1048576) :
    Calls Try.prog 23 #[v, .string id, .int .i64 day] w fun e w' => (∃ v', e = .returned (.tuple #[v', .int .i64 (doneR xs id day).2]) ∧ Own w.heap.size w'.heap.size w' 50 3 v' (doneR xs id day).1.length (flat Check.enc (doneR xs id day).1)) ∧ Ext w w' := by
  cases h1 : checksOkB xs
  · have HQ := hid (done_no id day h1)
    go_enter Try.func23, Try.ntmps23
    go_wp2_with (first | (go_at_call 31; refine (cv (checksSpec xs lo hi v _ hv hs hn) (vb h1)).mono ?_; rintro e w1 ⟨rfl, hE⟩))
    go_ret2
    exact ⟨⟨_, by rw [HQ.out]; rfl, by rw [HQ.out]; exact Own.nil _ _ hE⟩, hE⟩
  cases h2 : inB day 0 100000
  · have HQ := hid (done_range id h1 h2)
    go_enter Try.func23, Try.ntmps23
    go_wp2_with (first | (go_at_call 31; refine (cv (checksSpec xs lo hi v _ hv hs hn) (vb h1)).mono ?_; rintro e w1 ⟨rfl, hE⟩) | (go_at_call 40; refine (cv (l25Day _ _) (vb h2)).mono ?_; rintro e w' ⟨rfl, rfl⟩))
    go_ret2
    exact ⟨⟨_, by rw [HQ.out]; rfl, by rw [HQ.out]; exact Own.nil _ _ hE⟩, hE⟩
  by_cases h3 : idIx xs id < 0
  · have HQ := hid (done_none (day := day) h1 h2 h3)
    go_enter Try.func23, Try.ntmps23
    go_wp2_with (first | (go_at_call 31; refine (cv (checksSpec xs lo hi v _ hv hs hn) (vb h1)).mono ?_; rintro e w1 ⟨rfl, hE⟩) | (go_at_call 40; refine (cv (l25Day _ _) (vb h2)).mono ?_; rintro e w' ⟨rfl, rfl⟩) | (go_at_call 43; refine (cv (l25Find xs id lo hi v _ (hv.ext hE) hn) (show Value.int .i64 (findIx _ xs) = .int .i64 (idIx xs id) from rfl)).mono ?_; rintro e w' ⟨rfl, rfl⟩))
    go_ret2
    exact ⟨⟨_, by rw [HQ.out]; rfl, by rw [HQ.out]; exact Own.nil _ _ hE⟩, hE⟩
  obtain ⟨k, hk, e3⟩ := idIx_at h3
  have E3 := hid e3
  clear h3 e3
  have hv0 := hv
  have HSH := hid hsh
  obtain ⟨hhi, _, A, c, rfl, hnc, hcm, hcell⟩ := hv0
  obtain ⟨b, off, rfl, hb1, hb2, hc⟩ := hcell (by omega)
  have hbw : b < w.heap.size := by omega
  have hki : (k : Int) < xs.length := by omega
  clear hsh
  by_cases h4 : day < xs[k].last
  · have HQ := hid (done_state h1 h2 k hk E3.out h4)
    go_enter Try.func23, Try.ntmps23
    go_wp2_with (first | (go_at_call 31; refine (cv (checksSpec xs lo hi _ _ hv hs hn) (vb h1)).mono ?_; rintro e w1 ⟨rfl, hE⟩; obtain ⟨c0, c1, c2⟩ := Check.at_of hc hE hbw k hk; clear hc) | (go_at_call 40; refine (cv (l25Day _ _) (vb h2)).mono ?_; rintro e w' ⟨rfl, rfl⟩) | (go_at_call 43; refine (cv (l25Find xs id lo hi _ _ (hv.ext hE) hn) (congrArg (Value.int .i64) E3.out)).mono ?_; rintro e w' ⟨rfl, rfl⟩))
    go_ret2
    exact ⟨⟨_, by rw [HQ.out]; rfl, by rw [HQ.out]; exact Own.nil _ _ hE⟩, hE⟩
  · have HQ := hid (done_ok h1 h2 k hk E3.out h4)
    go_enter Try.func23, Try.ntmps23
    go_wp2_with (first | (go_at_call 31; refine (cv (checksSpec xs lo hi _ _ hv hs hn) (vb h1)).mono ?_; rintro e w1 ⟨rfl, hE⟩; obtain ⟨c0, c1, c2⟩ := Check.at_of hc hE hbw k hk; clear hc; have hz := hE.size) | (go_at_call 40; refine (cv (l25Day _ _) (vb h2)).mono ?_; rintro e w' ⟨rfl, rfl⟩) | (go_at_call 43; refine (cv (l25Find xs id lo hi _ _ (hv.ext hE) hn) (congrArg (Value.int .i64) E3.out)).mono ?_; rintro e w' ⟨rfl, rfl⟩) | (at_builtin; refine wp_appendN (w1.alloc _) rfl (.tmp 28) (.tmp 29) _ rfl w.heap.size 50 3 32 _ Try.underlying25 infoChk rfl (by omega) (by omega) _ 0 [] (own_empty w1 _ _ _ hz) rfl _ _ _ _ _ (hv.ext (Ext.tr hE (Ext.new _ _))) HSH.out rfl (check_one xs) (by omega) (by simp; omega) ?_; intro v' w' ho' hb'; simp only [Nat.zero_add, List.nil_append] at ho'; obtain ⟨g, cap, u0, rfl, hbg, e0, f0, hcap⟩ := row_open ho' (k * 3 + 2) (by omega)))
    go_ret2
    refine ⟨⟨_, by rw [HQ.out]; rfl, ?_⟩, store_ext ((Ext.tr hE (Ext.new _ _)).trans hb') hbg _⟩
    rw [HQ.out]
    refine Own.of ?_ (by show (setAt xs k day).length ≤ _; rw [setAt_len]; omega)
    show World.ownsRow _ _ _ _ _ (setAt xs k day).length (flat Check.enc (setAt xs k day))
    rw [setAt_len, flat_setAt hk]
    exact (ho'.stored _ _).1
set_option maxRecDepth 100000 in
set_option maxHeartbeats 2000000 in
theorem implDoCheck (xs : List Check) (id : ByteArray) (day : Int) (lo hi : Nat) (v : Value) (w : World) (hv : Sl lo hi w 3 v xs.length (flat Check.enc xs)) (hsh : Shape v xs.length) (hs : ∀ x ∈ xs, x.id.size ≤ maxLen) (hn : xs.length ≤ 1048576) :
    Calls Try.prog 24 #[v, .string id, .int .i64 day] w fun e w' => (∃ v', e = .returned (.tuple #[v', .int .i64 (doneR xs id day).2]) ∧ Own w.heap.size w'.heap.size w' 50 3 v' (doneR xs id day).1.length (flat Check.enc (doneR xs id day).1)) ∧ Ext w w' := by
  have HSH := hid hsh
  clear hsh
  have HB : Hid (∀ W, Ext w W → (W.alloc (.cells #[.string id] 9)).cell? ⟨W.heap.size, 0, none⟩ = some (.string id)) := hid fun W _ => by simp
  have hX : Calls Try.prog 44 #[v, .func (.func 45) #[] #[.pointer (some ⟨w.heap.size, 0, none⟩)]] (w.alloc (.cells #[.string id] 9)) fun e w' => e = .returned (.int .i64 (idIx xs id)) ∧ Ext (w.alloc (.cells #[.string id] 9)) w' :=
    idxEChk w.heap.size id xs lo hi v _ (by simp) (by simp) (hv.ext (Ext.new _ _)) hn
  cases h1 : checksOkB xs
  · have HQ := hid (done_no id day h1)
    go_enter Try.func24, Try.ntmps24
    go_wp2_with (first | (go_at_call 44; refine hX.mono ?_; rintro e w0 ⟨rfl, hE0⟩; replace hE0 := Ext.tr (Ext.new _ _) hE0) | (go_at_call 12; refine (cv (checksImpl xs lo hi v _ (hv.ext hE0) hs hn) (vb h1)).mono ?_; rintro e w1 ⟨rfl, hE⟩; replace hE := Ext.tr hE0 hE))
    go_ret2
    exact ⟨⟨_, by rw [HQ.out]; rfl, by rw [HQ.out]; exact Own.nil _ _ hE⟩, hE⟩
  cases h2 : inB day 0 100000
  · have HQ := hid (done_range id h1 h2)
    go_enter Try.func24, Try.ntmps24
    go_wp2_with (first | (go_at_call 44; refine hX.mono ?_; rintro e w0 ⟨rfl, hE0⟩; replace hE0 := Ext.tr (Ext.new _ _) hE0) | (go_at_call 12; refine (cv (checksImpl xs lo hi v _ (hv.ext hE0) hs hn) (vb h1)).mono ?_; rintro e w1 ⟨rfl, hE⟩; replace hE := Ext.tr hE0 hE) | (go_at_call 41; refine (cv (checkDay _ _) (vb h2)).mono ?_; rintro e w' ⟨rfl, rfl⟩))
    go_ret2
    exact ⟨⟨_, by rw [HQ.out]; rfl, by rw [HQ.out]; exact Own.nil _ _ hE⟩, hE⟩
  by_cases h3 : idIx xs id < 0
  · have HQ := hid (done_none (day := day) h1 h2 h3)
    go_enter Try.func24, Try.ntmps24
    go_wp2_with (first | (go_at_call 44; refine hX.mono ?_; rintro e w0 ⟨rfl, hE0⟩; replace hE0 := Ext.tr (Ext.new _ _) hE0) | (go_at_call 12; refine (cv (checksImpl xs lo hi v _ (hv.ext hE0) hs hn) (vb h1)).mono ?_; rintro e w1 ⟨rfl, hE⟩; replace hE := Ext.tr hE0 hE) | (go_at_call 41; refine (cv (checkDay _ _) (vb h2)).mono ?_; rintro e w' ⟨rfl, rfl⟩))
    go_ret2
    exact ⟨⟨_, by rw [HQ.out]; rfl, by rw [HQ.out]; exact Own.nil _ _ hE⟩, hE⟩
  obtain ⟨k, hk, e3⟩ := idIx_at h3
  have E3 := hid e3
  clear h3 e3
  have hv0 := hv
  obtain ⟨hhi, _, A, c, rfl, hnc, hcm, hcell⟩ := hv0
  obtain ⟨b, off, rfl, hb1, hb2, hc⟩ := hcell (by omega)
  have hbw : b < w.heap.size := by omega
  have hki : (k : Int) < xs.length := by omega
  rw [E3.out] at hX
  by_cases h4 : day < xs[k].last
  · have HQ := hid (done_state h1 h2 k hk E3.out h4)
    go_enter Try.func24, Try.ntmps24
    go_wp2_with (first | (go_at_call 44; refine hX.mono ?_; rintro e w0 ⟨rfl, hE0⟩; replace hE0 := Ext.tr (Ext.new _ _) hE0) | (go_at_call 12; refine (cv (checksImpl xs lo hi _ _ (hv.ext hE0) hs hn) (vb h1)).mono ?_; rintro e w1 ⟨rfl, hE⟩; replace hE := Ext.tr hE0 hE; obtain ⟨c0, c1, c2⟩ := Check.at_of hc hE hbw k hk; clear hc) | (go_at_call 41; refine (cv (checkDay _ _) (vb h2)).mono ?_; rintro e w' ⟨rfl, rfl⟩))
    go_ret2
    exact ⟨⟨_, by rw [HQ.out]; rfl, by rw [HQ.out]; exact Own.nil _ _ hE⟩, hE⟩
  · have HQ := hid (done_ok h1 h2 k hk E3.out h4)
    go_enter Try.func24, Try.ntmps24
    go_wp2_with (first | (go_at_call 44; refine hX.mono ?_; rintro e w0 ⟨rfl, hE0⟩; replace hE0 := Ext.tr (Ext.new _ _) hE0) | (go_at_call 12; refine (cv (checksImpl xs lo hi _ _ (hv.ext hE0) hs hn) (vb h1)).mono ?_; rintro e w1 ⟨rfl, hE⟩; replace hE := Ext.tr hE0 hE; obtain ⟨c0, c1, c2⟩ := Check.at_of hc hE hbw k hk; clear hc; have hz := hE.size) | (go_at_call 41; refine (cv (checkDay _ _) (vb h2)).mono ?_; rintro e w' ⟨rfl, rfl⟩) | (go_at_call 46; refine (cloneChk xs lo hi _ _ (hv.ext hE) HSH.out hn).mono ?_; rintro e w3 ⟨⟨v', rfl, ho'⟩, hE3⟩; obtain ⟨g, cap, u0, rfl, hbg, e0, f0, hcap⟩ := row_open ho' (k * 3 + 2) (by omega)))
    go_ret2
    refine ⟨⟨_, by rw [HQ.out]; rfl, ?_⟩, store_ext (Ext.tr hE hE3) (Nat.le_trans hz hbg) _⟩
    rw [HQ.out]
    refine Own.of ?_ (by show (setAt xs k day).length ≤ _; rw [setAt_len]; omega)
    show World.ownsRow _ _ _ _ _ (setAt xs k day).length (flat Check.enc (setAt xs k day))
    rw [setAt_len, flat_setAt hk]
    exact row_base (ho'.stored _ _).1 hz
end Go.Proofs.Ytcocdigcmcpefaa
