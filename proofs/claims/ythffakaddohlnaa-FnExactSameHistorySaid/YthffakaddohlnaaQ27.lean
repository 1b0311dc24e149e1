/- Contracts of SameState in both packages. -/
import Derived.Test.YthffakaddohlnaaXSetting
import Derived.Test.YthffakaddohlnaaOk
import Derived.Laws.StructEq
namespace Go.Proofs.Ythffakaddohlnaa
set_option linter.unusedVariables false
open Go.RowKit
open Classical in
noncomputable def sameB (xs ys : List Setting) : Bool := decide (xs = ys)
theorem same_len {xs ys : List Setting} (h : ¬ xs.length = ys.length) : sameB xs ys = false := by
  unfold sameB; simp only [decide_eq_false_iff_not]; rintro rfl; exact h rfl
theorem same_no {xs ys : List Setting} (k : Nat) (hk : k < xs.length) (hk' : k < ys.length) (h : ¬ xs[k] = ys[k]) : sameB xs ys = false := by
  unfold sameB; simp only [decide_eq_false_iff_not]; rintro rfl; exact h rfl
theorem same_yes {xs ys : List Setting} (hl : xs.length = ys.length) (h : ∀ k (hk : k < xs.length) (hk' : k < ys.length), xs[k] = ys[k]) : sameB xs ys = true := by
  unfold sameB; simp only [decide_eq_true_eq]; exact List.ext_getElem hl h
@[go_sem] theorem neqSet (a b : ByteArray) (n m : Int) (w : World) : (binOp .neq 61 (.agg #[.string a, .int .i64 n]) (.agg #[.string b, .int .i64 m])).run Try.prog w = .ok (.bool (!(a.toList == b.toList && n == m))) w := by
  rw [run_neq_struct, run_equalIn_agg _ 9999 _ _ _ (by kernel_rfl) (by kernel_rfl)]
  have p0 : (part 9 #[.string a, .int .i64 n] 0).run Try.prog w = .ok (.string a) w := by kernel_rfl
  have p1 : (part 2 #[.string a, .int .i64 n] 1).run Try.prog w = .ok (.int .i64 n) w := by kernel_rfl
  have q0 : (part 9 #[.string b, .int .i64 m] 0).run Try.prog w = .ok (.string b) w := by kernel_rfl
  have q1 : (part 2 #[.string b, .int .i64 m] 1).run Try.prog w = .ok (.int .i64 m) w := by kernel_rfl
  simp only [Program.fieldsOf, Try.underlying61, Op.eqFields, Sem.run_bind, Sem.run_ite, p0, p1, q0, q1, Result.andThen_ok, run_equalIn_string w 9998 9 a b Try.underlying9, run_equalIn_int w 9998 2 .i64 .i64 n m Try.underlying2, Sem.run_pure]
  cases h1 : (a.toList == b.toList) <;> cases h2 : (n == m) <;> simp
@[go_sem] theorem guardSet (op : BinOp) (x y : Operand) (xs ys : Array Value) (w : World) : (eqGuard op 61 x y (.agg xs) (.agg ys)).run Try.prog w = .ok () w := run_eqGuard_agg w op _ x y xs ys (by kernel_rfl)
@[go_sem] theorem eqlSet (a b : ByteArray) (n m : Int) (w : World) : (binOp .eql 61 (.agg #[.string a, .int .i64 n]) (.agg #[.string b, .int .i64 m])).run Try.prog w = .ok (.bool (a.toList == b.toList && n == m)) w := by
  have h := neqSet a b n m w
  rw [run_neq_struct] at h
  rw [run_eql_struct]
  generalize (Op.equalIn 10000 61 _ _).run Try.prog w = r at h ⊢
  cases r with
  | ok b w' => simp only [Result.andThen_ok, Result.ok.injEq, Value.bool.injEq, Bool.not_eq_eq_eq_not, Bool.not_not] at h ⊢; exact h
  | halt x w' => simp [Result.andThen] at h
@[go_sem] theorem stoodSet : Try.prog.stoodInHeld 61 = false := by kernel_rfl
@[go_sem] theorem eqGuardSet : Try.prog.eqGuardType Try.prog.depth 61 = false := by kernel_rfl
theorem toList_inj {a b : ByteArray} (h : a.toList = b.toList) : a = b := by
  rw [ByteArray.toList_eq, ByteArray.toList_eq] at h
  obtain ⟨⟨x⟩⟩ := a; obtain ⟨⟨y⟩⟩ := b; simpa using h
theorem setting_ext {x y : Setting} (h : x.name = y.name) (h2 : x.value = y.value) : x = y := by
  obtain ⟨a, n⟩ := x; obtain ⟨b, m⟩ := y
  obtain rfl : n = m := h2
  obtain rfl : a = b := h
  rfl
theorem l27Same (xs ys : List Setting) (lo hi lo' hi' : Nat) (v v' : Value) (w : World) (hv : Sl lo hi w 2 v xs.length (flat Setting.enc xs)) (hv' : Sl lo' hi' w 2 v' ys.length (flat Setting.enc ys)) (hn : xs.length ≤ 2097152) (hn' : ys.length ≤ 2097152) :
    Calls Try.prog 46 #[v, v'] w fun e w' => e = .returned (.bool (sameB xs ys)) ∧ Ext w w' := by
  obtain ⟨hhi, _, A, c, rfl, hnc, hcm, hcell⟩ := hv
  by_cases hl : xs.length = ys.length
  rotate_left
  · have hS := hid (same_len hl)
    have h5 : ¬ ((xs.length : Int) = (ys.length : Int)) := by omega
    obtain ⟨hhi', _, A', c', rfl, hnc', hcm', hcell'⟩ := hv'
    clear hcell hcell'
    go_enter Try.func46, Try.ntmps46
    go_wp2
    all_goals first | (exfalso; simp_all; done) | skip
    go_ret
    exact ⟨by rw [hS.out]; rfl, Below.refl _ _⟩
  have HL := hid hl
  rw [← hl] at hv'
  obtain ⟨hhi', _, A', c', rfl, hnc', hcm', hcell'⟩ := hv'
  clear hl
  go_enter Try.func46, Try.ntmps46
  go_wp2
  go_loopw [5] (fun i wr => ∃ (k : Nat), k ≤ xs.length ∧ i = .int .i64 k ∧ Ext w wr ∧ Hid (∀ j (h : j < xs.length) (h' : j < ys.length), j < k → xs[j] = ys[j])) (fun i _ => xs.length - (intOf i).toNat)
  case atStart => exact ⟨0, by omega, rfl, Below.refl _ _, hid (fun j h h' hj => absurd hj (by omega))⟩
  case round =>
    obtain ⟨k, hk, rfl, hE, hall⟩ := hrel
    by_cases hlt : k < xs.length
    · obtain ⟨b, off, rfl, hb1, hb2, hc⟩ := hcell (by omega)
      obtain ⟨b', off', rfl, hb1', hb2', hc'⟩ := hcell' (by omega)
      have hlk : k < ys.length := by rw [← HL.out]; exact hlt
      obtain ⟨c0, c1⟩ := Setting.at_of hc hE (by omega) k hlt
      obtain ⟨d0, d1⟩ := Setting.at_of hc' hE (by omega) k hlk
      clear hc hc' hcell hcell'
      by_cases he : xs[k] = ys[k]
      · rw [← he] at d0 d1
        go_wp2_with fail
        go_quiet (fail)
        go_wp2
        go_roundw
        case rel => exact ⟨k + 1, by omega, by go_num, Ext.tr hE (Ext.drewN _ _), hid (fun j h h' hj => by rcases Nat.lt_succ_iff_lt_or_eq.1 hj with h1 | rfl; exact hall.out j h h' h1; exact he)⟩
        case measure => simp [intOf]; omega
      · have hS := hid (same_no k hlt hlk he)
        by_cases hN : xs[k].name.toList = ys[k].name.toList
        · have hV : ¬ xs[k].value = ys[k].value := fun hV => he (by have := toList_inj hN; exact setting_ext this hV)
          clear he
          go_wp2_with fail
          go_quiet (fail)
          go_wp2
          go_ret
          exact ⟨by rw [hS.out]; rfl, Ext.tr hE (Ext.drewN _ _)⟩
        · clear he
          go_wp2_with fail
          go_quiet (fail)
          go_wp2
          go_ret
          exact ⟨by rw [hS.out]; rfl, Ext.tr hE (Ext.drewN _ _)⟩
    · obtain rfl : k = xs.length := by omega
      go_wp2
      go_ret
      exact ⟨ret_bool (same_yes HL.out (fun k h h' => hall.out k h h' h)).symm, hE⟩
theorem equalSet (xs ys : List Setting) (lo hi lo' hi' : Nat) (v v' : Value) (w : World) (hv : Sl lo hi w 2 v xs.length (flat Setting.enc xs)) (hv' : Sl lo' hi' w 2 v' ys.length (flat Setting.enc ys)) (hn : xs.length ≤ 2097152) (hn' : ys.length ≤ 2097152) :
    Calls Try.prog 48 #[v, v'] w fun e w' => e = .returned (.bool (sameB xs ys)) ∧ Ext w w' := by
  obtain ⟨hhi, _, A, c, rfl, hnc, hcm, hcell⟩ := hv
  by_cases hl : xs.length = ys.length
  rotate_left
  · have hS := hid (same_len hl)
    have h5 : ¬ ((xs.length : Int) = (ys.length : Int)) := by omega
    obtain ⟨hhi', _, A', c', rfl, hnc', hcm', hcell'⟩ := hv'
    clear hcell hcell'
    go_enter Try.func48, Try.ntmps48
    go_wp2
    all_goals first | (exfalso; simp_all; done) | skip
    go_ret
    exact ⟨by rw [hS.out]; rfl, Below.refl _ _⟩
  have HL := hid hl
  rw [← hl] at hv'
  obtain ⟨hhi', _, A', c', rfl, hnc', hcm', hcell'⟩ := hv'
  clear hl
  go_enter Try.func48, Try.ntmps48
  go_wp2
  go_loopw [13] (fun i wr => ∃ (k : Nat), k ≤ xs.length ∧ i = .int .i64 k ∧ Ext w wr ∧ Hid (∀ j (h : j < xs.length) (h' : j < ys.length), j < k → xs[j] = ys[j])) (fun i _ => xs.length - (intOf i).toNat)
  case atStart => exact ⟨0, by omega, rfl, Below.refl _ _, hid (fun j h h' hj => absurd hj (by omega))⟩
  case round =>
    obtain ⟨k, hk, rfl, hE, hall⟩ := hrel
    by_cases hlt : k < xs.length
    · obtain ⟨b, off, rfl, hb1, hb2, hc⟩ := hcell (by omega)
      obtain ⟨b', off', rfl, hb1', hb2', hc'⟩ := hcell' (by omega)
      have hlk : k < ys.length := by rw [← HL.out]; exact hlt
      obtain ⟨c0, c1⟩ := Setting.at_of hc hE (by omega) k hlt
      obtain ⟨d0, d1⟩ := Setting.at_of hc' hE (by omega) k hlk
      clear hc hc' hcell hcell'
      by_cases he : xs[k] = ys[k]
      · rw [← he] at d0 d1
        go_wp2_with fail
        go_quiet (fail)
        go_wp2
        go_roundw
        case rel => exact ⟨k + 1, by omega, by go_num, Ext.tr hE (Ext.drewN _ _), hid (fun j h h' hj => by rcases Nat.lt_succ_iff_lt_or_eq.1 hj with h1 | rfl; exact hall.out j h h' h1; exact he)⟩
        case measure => simp [intOf]; omega
      · have hS := hid (same_no k hlt hlk he)
        by_cases hN : xs[k].name.toList = ys[k].name.toList
        · have hV : ¬ xs[k].value = ys[k].value := fun hV => he (by have := toList_inj hN; exact setting_ext this hV)
          clear he
          go_wp2_with fail
          go_quiet (fail)
          go_wp2
          go_ret
          exact ⟨by rw [hS.out]; rfl, Ext.tr hE (Ext.drewN _ _)⟩
        · clear he
          go_wp2_with fail
          go_quiet (fail)
          go_wp2
          go_ret
          exact ⟨by rw [hS.out]; rfl, Ext.tr hE (Ext.drewN _ _)⟩
    · obtain rfl : k = xs.length := by omega
      go_wp2
      go_ret
      exact ⟨ret_bool (same_yes HL.out (fun k h h' => hall.out k h h' h)).symm, hE⟩
theorem specSameState (xs ys : List Setting) (lo hi lo' hi' : Nat) (v v' : Value) (w : World) (hv : Sl lo hi w 2 v xs.length (flat Setting.enc xs)) (hv' : Sl lo' hi' w 2 v' ys.length (flat Setting.enc ys)) (hn : xs.length ≤ 2097152) (hn' : ys.length ≤ 2097152) :
    Calls Try.prog 13 #[v, v'] w fun e w' => e = .returned (.bool (sameB xs ys)) ∧ Ext w w' := by
  go_enter Try.func13, Try.ntmps13
  go_wp2_with (go_at_call 46; refine (l27Same xs ys lo hi lo' hi' v v' _ hv hv' hn hn').mono ?_; rintro e w2 ⟨rfl, hE⟩)
  go_ret
  exact ⟨rfl, hE⟩
theorem implSameState (xs ys : List Setting) (lo hi lo' hi' : Nat) (v v' : Value) (w : World) (hv : Sl lo hi w 2 v xs.length (flat Setting.enc xs)) (hv' : Sl lo' hi' w 2 v' ys.length (flat Setting.enc ys)) (hn : xs.length ≤ 2097152) (hn' : ys.length ≤ 2097152) :
    Calls Try.prog 15 #[v, v'] w fun e w' => e = .returned (.bool (sameB xs ys)) ∧ Ext w w' := by
  go_enter Try.func15, Try.ntmps15
  go_wp2_with (go_at_call 48; refine (equalSet xs ys lo hi lo' hi' v v' _ hv hv' hn hn').mono ?_; rintro e w2 ⟨rfl, hE⟩)
  go_ret
  exact ⟨rfl, hE⟩
end Go.Proofs.Ythffakaddohlnaa
