/- The steps of a way through a mine: the plain words; small callees of IsSafeRoute in both packages. -/
import Derived.Test.YtlilmopcikogpaaMCrew
import Derived.Test.YtlilmopcikogpaaWithin
import Derived.IntWalk
namespace Go.Proofs.Ytlilmopcikogpaa
set_option linter.unusedVariables false
open Go.RowKit
theorem vi {k : IntKind} {a b : Int} (h : a = b) : Value.int k a = Value.int k b := by rw [h]
def rtAt (L : List Int) (p : Nat) : Int := L.getD p 0
theorem rtAt_of {L : List Int} {p : Nat} (h : p < L.length) : L[p] = rtAt L p := by unfold rtAt; rw [List.getD_eq_getElem?_getD, List.getElem?_eq_getElem h]; rfl
theorem divUp (a b : Int) (w : World) (ha : 0 ≤ a ∧ a ≤ 50000000) (hb : 1 ≤ b ∧ b ≤ 100000) : Calls Try.prog 86 #[.int .i64 a, .int .i64 b] w fun e w' => e = .returned (.int .i64 ((a + b - 1) / b)) ∧ w = w' := by
  obtain ⟨ha1, ha2⟩ := ha
  obtain ⟨hb1, hb2⟩ := hb
  have hd : 0 ≤ (a + b - 1) / b := Int.ediv_nonneg (by omega) (by omega)
  have hd2 : (a + b - 1) / b ≤ a + b - 1 := Int.ediv_le_self _ (by omega)
  have hb0 : ¬ b = 0 := by omega
  go_enter Try.func86, Try.ntmps86
  go_wp2
  go_ret
  exact ⟨rfl, rfl⟩
def walkI (a : Airway) (sp : Int) : Int := (100 * a.leng + sp - 1) / sp
theorem walkI_bd {a : Airway} {sp : Int} (ha : airB a = true) (h1 : 10 ≤ sp) (h2 : sp ≤ 300) : 0 ≤ walkI a sp ∧ walkI a sp ≤ 1000299 := by
  obtain ⟨_, _, hl, _⟩ := airB_bd ha
  unfold walkI
  exact ⟨Int.ediv_nonneg (by omega) (by omega), Int.le_trans (Int.ediv_le_self _ (by omega)) (by omega)⟩
theorem l19Walk (a : Airway) (sp : Int) (b o : Nat) (w : World) (ha : airB a = true) (h1 : 10 ≤ sp) (h2 : sp ≤ 300) (hx : Airway.At w b o a) :
    Calls Try.prog 93 #[.pointer (some ⟨b, o, none⟩), .int .i64 sp] w fun e w' => e = .returned (.int .i64 (walkI a sp)) ∧ w = w' := by
  obtain ⟨_, _, hl, _⟩ := airB_bd ha
  obtain ⟨hl1, hl2⟩ := hl
  obtain ⟨hw1, hw2⟩ := walkI_bd ha h1 h2
  obtain ⟨c0, c1, c2, c3, c4, c5, c6⟩ := hx
  unfold walkI at hw1 hw2
  have hb0 : ¬ sp = 0 := by omega
  go_enter Try.func93, Try.ntmps93
  go_wp2
  go_ret
  exact ⟨rfl, rfl⟩
set_option maxRecDepth 100000 in
theorem walkTimeI (a : Airway) (sp : Int) (w : World) (ha : airB a = true) (h1 : 10 ≤ sp) (h2 : sp ≤ 300) :
    Calls Try.prog 98 #[.agg #[.string a.id, .int .i64 a.frm, .int .i64 a.tt, .int .i64 a.leng, .int .i64 a.sec, .int .i64 a.fric, .int .i64 a.shock], .int .i64 sp] w fun e w' => e = .returned (.int .i64 (walkI a sp)) ∧ Ext w w' := by
  obtain ⟨_, _, hl, _⟩ := airB_bd ha
  obtain ⟨hl1, hl2⟩ := hl
  go_enter Try.func98, Try.ntmps98
  go_wp2_with (go_at_call 86; refine (divUp _ _ _ ⟨by omega, by omega⟩ ⟨by omega, by omega⟩).mono ?_; rintro e w' ⟨rfl, rfl⟩)
  go_ret
  exact ⟨rfl, by go_tidy; go_grown⟩
def othV (a : Airway) (n : Int) : Int := if a.frm = n then a.tt else if a.tt = n then a.frm else 0
def othB (a : Airway) (n : Int) : Bool := decide (a.frm = n) || decide (a.tt = n)
set_option maxRecDepth 100000 in
theorem otherI (a : Airway) (n : Int) (w : World) :
    Calls Try.prog 97 #[.agg #[.string a.id, .int .i64 a.frm, .int .i64 a.tt, .int .i64 a.leng, .int .i64 a.sec, .int .i64 a.fric, .int .i64 a.shock], .int .i64 n] w fun e w' => e = .returned (.tuple #[.int .i64 (othV a n), .bool (othB a n)]) ∧ Ext w w' := by
  by_cases h1 : a.frm = n
  · have HQ := hid (show othV a n = a.tt ∧ othB a n = true by unfold othV othB; simp [h1])
    have e1 : (n == a.frm) = true := by simp [h1]
    clear h1
    go_enter Try.func97, Try.ntmps97
    go_wp2
    go_ret2
    exact ⟨by rw [HQ.out.1, HQ.out.2]; rfl, by go_tidy; go_grown⟩
  · have e1 : (n == a.frm) = false := by simp; exact fun h => h1 h.symm
    by_cases h2 : a.tt = n
    · have HQ := hid (show othV a n = a.frm ∧ othB a n = true by unfold othV othB; simp [h1, h2])
      have e2 : (n == a.tt) = true := by simp [h2]
      clear h1 h2
      go_enter Try.func97, Try.ntmps97
      go_wp2
      go_ret2
      exact ⟨by rw [HQ.out.1, HQ.out.2]; rfl, by go_tidy; go_grown⟩
    · have HQ := hid (show othV a n = 0 ∧ othB a n = false by unfold othV othB; simp [h1, h2])
      have e2 : (n == a.tt) = false := by simp; exact fun h => h2 h.symm
      clear h1 h2
      go_enter Try.func97, Try.ntmps97
      go_wp2
      go_ret2
      exact ⟨by rw [HQ.out.1, HQ.out.2]; rfl, by go_tidy; go_grown⟩
def mayB (L : List Int) (n : Nat) (t : Int) : Bool := decide (rtAt L n < 0) || decide (t < rtAt L n)
theorem rt_cell {lo hi n : Nat} {w : World} {v : Value} {xs : List Int} (h : Sl lo hi w 1 v n (flat encI xs)) (k : Nat) (hk : k < xs.length) (hn : xs.length = n) : ∃ b off c, v = .slice (some ⟨b, off, none⟩) n c ∧ b < hi ∧ w.cell? ⟨b, off + k, none⟩ = some (.int .i64 (rtAt xs k)) := by
  obtain ⟨h1, h2, A, c', rfl, h4, h5, h6⟩ := h
  obtain ⟨b, off, rfl, h7, h8, h9⟩ := h6 (by omega)
  exact ⟨b, off, c', rfl, h8, by rw [← rtAt_of hk]; exact cellsI h9 k hk⟩
theorem l19Safe (L : List Int) (n : Nat) (t : Int) (lo hi : Nat) (v : Value) (w : World) (hv : Sl lo hi w 1 v L.length (flat encI L)) (hn : n < L.length) :
    Calls Try.prog 55 #[v, .int .i64 n, .int .i64 t] w fun e w' => e = .returned (.bool (mayB L n t)) ∧ w = w' := by
  obtain ⟨b, o, c, rfl, hb, c0⟩ := rt_cell hv n hn rfl
  have hni : (n : Int) < L.length := by omega
  go_enter Try.func55, Try.ntmps55
  go_wp2
  all_goals (go_ret; refine ⟨ret_bool ?_, rfl⟩; go_tidy; unfold mayB; grind)
set_option maxRecDepth 100000 in
theorem mayBeI (j : Int) (vA : Value) (bl : Int) (L : List Int) (n : Nat) (t : Int) (lo hi : Nat) (v : Value) (w : World) (hv : Sl lo hi w 1 v L.length (flat encI L)) (hn : n < L.length) :
    Calls Try.prog 59 #[.agg #[.int .i64 j, vA, v, .int .i64 bl], .int .i64 n, .int .i64 t] w fun e w' => e = .returned (.bool (mayB L n t)) ∧ Ext w w' := by
  have hh := hv.1
  obtain ⟨b, o, c, rfl, hb, c0⟩ := rt_cell hv n hn rfl
  have hbw : b < w.heap.size := by omega
  have hni : (n : Int) < L.length := by omega
  go_enter Try.func59, Try.ntmps59
  go_wp2
  all_goals (go_ret; refine ⟨ret_bool ?_, by go_tidy; go_grown⟩; go_tidy; unfold mayB; grind)
end Go.Proofs.Ytlilmopcikogpaa
