/- slices.Clone and slices.Insert on drills. -/
import Derived.Test.YtibmcailjodpkaaAddB
import Derived.Test.YtibmcailjodpkaaRowX
import Derived.Lib.LazyBuf
import Derived.Laws.Externs
import Derived.Lib.AppendZeros
namespace Go.Proofs.Ytibmcailjodpkaa
set_option linter.unusedVariables false
open Go.RowKit
section
variable {P : Program}
theorem wp_copyR (w : World) {o : Oper} {a : Act} {K : Act → World → Prop} {Q : Exit → Act → World → Prop} (d s : Operand) (t t' : TypeId)
    (ho : o.op = .call { callee := .builtin .copy, args := #[d, s], argTypes := #[t, t'] }) (v u : Value) (hd : a.eval d = v) (hs : a.eval s = u) {v' : Value} {w' : World}
    (hr : (Builtin.copy_ #[t, t'] o.type #[v, u]).run P w = .ok v' w') (h : K (a.put o.dst v') w') : o.wp P a w K Q := by
  unfold Oper.wp execOp
  simp only [ho, resolve, invoke, builtin, Sem.run_bind, Sem.run_pure, Result.andThen_ok, List.map_toArray, List.map_cons, List.map_nil, hd, hs, hr]
  exact h
theorem wpList_copyR (w : World) {ops : Array Oper} {rest : List Oper} {o : Oper} {a : Act} {Q : Exit → Act → World → Prop} (hgd : o.guard = none) (d s : Operand) (t t' : TypeId)
    (ho : o.op = .call { callee := .builtin .copy, args := #[d, s], argTypes := #[t, t'] }) (v u : Value) (hd : a.eval d = v) (hs : a.eval s = u) {v' : Value} {w' : World}
    (hr : (Builtin.copy_ #[t, t'] o.type #[v, u]).run P w = .ok v' w') (h : wpList P ops Q rest (a.put o.dst v') w') : wpList P ops Q (o :: rest) a w :=
  wpList_plain hgd fun _ hK => wp_copyR w d s t t' ho v u hd hs hr (hK _ _ h)
theorem step_copyR {ops : Array Oper} {o : Oper} {a : Act} {w : World} {K : Act → World → Prop} {Q : Exit → Act → World → Prop} {E : Prop}
    (hg : o.guard = none) (d x : Operand) (dT sT : TypeId) (hop : o.op = Op.call { callee := Callee.builtin Builtin.copy, args := #[d, x], argTypes := #[dT, sT] })
    (v u : Value) (hd : a.eval d = v) (hx : a.eval x = u) {v' : Value} {w' : World} (hr : (Builtin.copy_ #[dT, sT] o.type #[v, u]).run P w = .ok v' w') (hK : K (a.put o.dst v') w') :
    if Region.wanted o (yielded ops a.tmps) = true then Oper.wp P o a w K Q else E := by
  have hw : Region.wanted o (yielded ops a.tmps) = true := by simp [Region.wanted, hg]
  rw [if_pos hw]
  unfold Oper.wp
  simp [execOp, hop, resolve, invoke, builtin, hd, hx, hr, Result.andThen]
  exact hK
end
set_option maxRecDepth 100000 in
set_option maxHeartbeats 1000000 in
theorem cloneD (xs : List Drill) (lo hi : Nat) (v : Value) (w : World) (hv : Sl lo hi w 5 v xs.length (flat Drill.enc xs)) (hsh : Shape v xs.length) (hn : xs.length ≤ 1048576) :
    Calls Try.prog 70 #[v] w fun e w' => (∃ v', e = .returned v' ∧ w'.ownsRow w.heap.size 52 5 v' xs.length (flat Drill.enc xs)) ∧ Ext w w' := by
  have hv0 := hv
  obtain ⟨_, hl, A, c, he, _, _, _⟩ := hv0
  have qT : ∀ (w : World) (a : Option Addr) (n c n' c' : Nat), (binOp .eql 25 (.slice a n c) (.slice none n' c')).run Try.prog w = .ok (.bool a.isNone) w := fun w a n c n' c' => Lib.run_eql_slice_nil w _ _ a n c n' c' Try.underlying25
  have one : ∀ y ∈ flat Drill.enc xs, y.oneCell' = true := fun y hy => by
    unfold flat at hy
    obtain ⟨x, _, h⟩ := List.mem_flatMap.1 hy
    simp only [Drill.enc, List.mem_cons, List.not_mem_nil, or_false] at h
    rcases h with rfl | rfl | rfl | rfl | rfl <;> rfl
  rcases hsh with rfl | ⟨b, off, c', rfl⟩
  · simp only [Value.slice.injEq] at he
    obtain ⟨rfl, h0, rfl⟩ := he
    have h1 : flat Drill.enc xs = [] := List.eq_nil_of_length_eq_zero (by omega)
    have HL := hid h0
    have H1 := hid h1
    clear h0 h1
    go_enter Try.func70, Try.ntmps70
    go_wp2
    go_ret
    exact ⟨⟨_, rfl, by rw [H1.out, ← HL.out]; exact World.ownsRow_nil _ _ _ _⟩, Below.refl _ _⟩
  · have hsh : Shape (.slice (some ⟨b, off, none⟩) xs.length c') xs.length := .inr ⟨b, off, c', rfl⟩
    clear he
    go_enter Try.func70, Try.ntmps70
    go_wp2_with (at_builtin; refine wp_appendN (w.alloc _) rfl (.tmp 5) (.tmp 6) _ rfl w.heap.size 52 5 48 _ Try.underlying25 infoDrill rfl (by omega) (by omega) _ 0 [] (own_empty w _ _ _ (Nat.le_refl _)) rfl _ _ _ _ _ (hv.ext (Ext.new _ _)) hsh rfl one (by omega) (by simp) ?_; intro v' w' ho' hb')
    go_ret
    exact ⟨⟨_, rfl, by simpa using ho'⟩, (Ext.new w _).trans hb'⟩
def insAt (xs : List Drill) (k : Nat) (x : Drill) : List Drill := xs.take k ++ x :: xs.drop k
theorem insAt_flat (xs : List Drill) (k : Nat) (x : Drill) : flat Drill.enc (insAt xs k x) = (flat Drill.enc xs).take (k * 5) ++ Drill.enc x ++ (flat Drill.enc xs).drop (k * 5) := by
  unfold insAt
  rw [flat_app]
  show _ ++ flat Drill.enc (x :: xs.drop k) = _
  rw [← flat_take (K := 5) (fun _ => rfl), ← flat_drop (K := 5) (fun _ => rfl)]
  unfold flat; rw [List.flatMap_cons, List.append_assoc]
theorem lay_end {A V : List Value} {o : Nat} (h : A.length = o + V.length) : lay A o V = A.take o ++ V := by
  unfold lay; rw [List.drop_eq_nil_of_le (by omega), List.append_nil]
/-- what stood behind is moved up, then the new one laid in -/
theorem lay_shift {F zs E : List Value} {n k : Nat} (hF : F.length = n * 5) (hz : zs.length = 5) (hE : E.length = 5) (hk : k < n) : lay (lay (F ++ zs) ((k + 1) * 5) (F.drop (k * 5))) (k * 5) E = F.take (k * 5) ++ E ++ F.drop (k * 5) := by
  have h1 : (F.drop (k * 5)).length = n * 5 - k * 5 := by rw [List.length_drop, hF]
  have e1 : (k + 1) * 5 = k * 5 + 5 := by omega
  have h2 : k * 5 + 5 ≤ n * 5 := by omega
  have hin : lay (F ++ zs) (k * 5 + 5) (F.drop (k * 5)) = (F ++ zs).take (k * 5 + 5) ++ F.drop (k * 5) := lay_end (by rw [List.length_append, h1]; omega)
  rw [e1, hin]
  unfold lay
  have h3 : ((F ++ zs).take (k * 5 + 5)).length = k * 5 + 5 := by rw [List.length_take, List.length_append]; omega
  have h4 : ((F ++ zs).take (k * 5 + 5) ++ F.drop (k * 5)).take (k * 5) = F.take (k * 5) := by
    rw [List.take_append_of_le_length (by omega), List.take_take, Nat.min_eq_left (by omega), List.take_append_of_le_length (by omega)]
  have h5 : ((F ++ zs).take (k * 5 + 5) ++ F.drop (k * 5)).drop (k * 5 + 5) = F.drop (k * 5) := by
    rw [List.drop_append_of_le_length (by omega), List.drop_eq_nil_of_le (by omega), List.nil_append]
  rw [h4, hE, h5]
/-- .. or a new row is filled -/
theorem lay_fill {A Z E B : List Value} {n k : Nat} (hA : A.length = k * 5) (hZ : Z.length = (n + 1 - k) * 5) (hE : E.length = 5) (hB : B.length = (n - k) * 5) (hk : k < n) : lay (lay (A ++ Z) (k * 5) E) ((k + 1) * 5) B = A ++ E ++ B := by
  have e1 : (k + 1) * 5 = k * 5 + 5 := by omega
  have e2 : (n + 1 - k) * 5 = (n - k) * 5 + 5 := by omega
  have h1 : lay (A ++ Z) (k * 5) E = A ++ E ++ Z.drop 5 := by
    unfold lay
    rw [← hA, List.take_left, hE, List.drop_append, List.drop_eq_nil_of_le (by omega), List.nil_append]
    congr 2; omega
  rw [h1, e1, lay_end (by simp; omega)]
  rw [List.take_append_of_le_length (by simp; omega), List.take_of_length_le (by simp; omega)]
theorem ownLen {w : World} {base e K n m : Nat} {v : Value} {xs ys : List Value} (h : w.ownsRow base e K v n xs) (hn : n = m) (hx : xs = ys) : w.ownsRow base e K v m ys := hn ▸ hx ▸ h
theorem insAt_len (xs : List Drill) (k : Nat) (x : Drill) (hk : k ≤ xs.length) : (insAt xs k x).length = xs.length + 1 := by unfold insAt; simp; omega
theorem setCells_below {B g : Nat} {a w : World} (hg : B ≤ g) (vs : List Value) (o : Nat) (h : Below B a w) : Below B a (w.setCells g o vs) := below_setCells hg _ _ _ h
end Go.Proofs.Ytibmcailjodpkaa
