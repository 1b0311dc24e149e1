/- append of one element to a slice of the call's own; the list of the indices that pass a test. Plain; over any program. -/
import Derived.Test.YtopjccbjdcoanaaDoorOk
namespace Go.Proofs.YtopjccbjdcoanaaDoor
set_option linter.unusedVariables false
open Go.RowKit
section
variable {P : Program} {ops : Array Oper} {rest : List Oper} {o : Oper} {a : Act} {Q : Exit → Act → World → Prop}
theorem wp_append1 (W : World) (hgd : o.guard = none) (s x : Operand) (t : TypeId) (ho : o.op = .call { callee := .builtin .append, args := #[s, x], argTypes := #[t, t] })
    (base e K bytes : Nat) (z : Value) (ht : P.underlying t = some (.slice e)) (hinfo : (P.info? e).map (fun i => (i.zero, i.size, i.bytes)) = some (some z, K, bytes)) (hz : z.cells.size = K) (hK : 0 < K) (hb : bytes ≤ 1024)
    (v : Value) (n : Nat) (xs : List Value) (hown : W.ownsRow base e K v n xs) (hs : a.eval s = v) (us : List Value) (hl : us.length = K) (h1 : ∀ u ∈ us, u.oneCell' = true) (cs : Array Value) (hcs : cs = us.toArray)
    (hx : a.eval x = .slice (some ⟨W.heap.size, 0, none⟩) 1 1) (hn : n ≤ 2097152) (hbase : base ≤ W.heap.size)
    (h : ∀ v' w', w'.ownsRow base e K v' (n + 1) (xs ++ us) → Below base W w' → wpList P ops Q rest (a.put o.dst v') w') : wpList P ops Q (o :: rest) a (W.alloc (.cells cs e)) := by
  subst hcs
  obtain ⟨i, i1, i2, i3, i4⟩ := info_parts hinfo
  have hgb : ∀ k, v.ownBlock = some k → base ≤ k := fun k hk => (hown.lt k hk).1
  refine wpList_append_own _ hgd s x t ho base e i z K bytes ht i1 i2 i3 i4 hz hK v n xs hs (hown.alloc _) ⟨W.heap.size, 0, none⟩ 1 1 us hx (by omega) ?_ h1 (by unfold maxLen; omega) ?_ (by simp; omega) ?_
  · intro j u hu
    have hadd : (⟨W.heap.size, 0, none⟩ : Addr).add j = ⟨W.heap.size, j, none⟩ := by unfold Addr.add; split <;> simp_all
    rw [hadd, cell_of_row _ W.heap.size j us.toArray e (0, 0) (heap_alloc_new W _)]
    simpa using hu
  · have : (n + 1) * bytes ≤ 2097153 * 1024 := Nat.mul_le_mul (by omega) hb
    omega
  · intro v' w' ho' hg _
    exact h v' w' ho' (((Below.refl base W).alloc hbase _).grown hg (by simp; omega) hgb)
end
/-- the indices below n that pass -/
def ixs (p : Nat → Bool) (n : Nat) : List Int := ((List.range n).filter p).map Int.ofNat
theorem ixs_yes (p : Nat → Bool) (n : Nat) (h : p n = true) : ixs p (n + 1) = ixs p n ++ [(n : Int)] := by
  unfold ixs; rw [List.range_succ, List.filter_append, List.map_append]; simp [h]
theorem ixs_no (p : Nat → Bool) (n : Nat) (h : p n = false) : ixs p (n + 1) = ixs p n := by
  unfold ixs; rw [List.range_succ, List.filter_append, List.map_append]; simp [h]
theorem ixs_len (p : Nat → Bool) (n : Nat) : (ixs p n).length ≤ n := by
  unfold ixs; rw [List.length_map]; exact Nat.le_trans (List.length_filter_le _ _) (by simp)
theorem flat_snoc {α : Type} (enc : α → List Value) (xs : List α) (x : α) : flat enc (xs ++ [x]) = flat enc xs ++ enc x := by unfold flat; simp
theorem own_empty (w : World) (base e K : Nat) (hb : base ≤ w.heap.size) : (w.alloc (.cells #[] e)).ownsRow base e K (.slice (some ⟨w.heap.size, 0, none⟩) 0 0) 0 [] :=
  w.ownsRow_made #[] 0 hb (Nat.zero_le _) (by simp)
theorem ownD {w : World} {base e K n : Nat} {v : Value} {xs : List Value} (h : w.ownsRow base e K v n xs) (m : Nat) : (w.drewN m).ownsRow base e K v n xs := h
theorem ownE {w w' : World} {base e K n : Nat} {v : Value} {xs : List Value} (h : w.ownsRow base e K v n xs) (hE : Ext w w') : w'.ownsRow base e K v n xs :=
  h.kept (row := none) ⟨hE.os, hE.tape, hE.output, hE.size, fun k hk _ => hE.block k hk⟩ (by cases hv : v.ownBlock <;> simp)
def tst {α : Type} (xs : List α) (p : α → Bool) (i : Nat) : Bool := (xs[i]?.map p).getD false
theorem tst_at {α : Type} (xs : List α) (p : α → Bool) (i : Nat) (h : i < xs.length) : tst xs p i = p xs[i] := by unfold tst; rw [List.getElem?_eq_getElem h]; rfl
theorem Own.nil {w w' : World} (t K : Nat) (hE : Ext w w') : Own w.heap.size w'.heap.size w' t K (.slice none 0 0) 0 [] := ⟨Nat.le_refl _, by omega, by simp, .inl ⟨rfl, rfl⟩⟩
end Go.Proofs.YtopjccbjdcoanaaDoor
