/- append of a whole slice onto an owned slice. -/
import Derived.Test.YtopjccbjdcoanaaApp2
import Derived.Laws.AppendOwnNone
namespace Go.Proofs.Ytopjccbjdcoanaa
set_option linter.unusedVariables false
open Go.RowKit
/-- nil, or a slice with an address -/
def Shape (u : Value) (m : Nat) : Prop := u = .slice none 0 0 ∨ ∃ b off c, u = .slice (some ⟨b, off, none⟩) m c
theorem Own.shape {lo hi t K n : Nat} {w : World} {v : Value} {xs : List Value} (h : Own lo hi w t K v n xs) : Shape v n := by
  obtain ⟨_, _, _, ⟨rfl, rfl⟩ | ⟨g, c, cs, rfl, _⟩⟩ := h
  · exact .inl rfl
  · exact .inr ⟨g, 0, c, rfl⟩
section
variable {P : Program} {ops : Array Oper} {rest : List Oper} {o : Oper} {a : Act} {Q : Exit → Act → World → Prop}
theorem wp_appendN (W : World) (hgd : o.guard = none) (s x : Operand) (t : TypeId) (ho : o.op = .call { callee := .builtin .append, args := #[s, x], argTypes := #[t, t] })
    (base e K bytes : Nat) (z : Value) (ht : P.underlying t = some (.slice e)) (hinfo : (P.info? e).map (fun i => (i.zero, i.size, i.bytes)) = some (some z, K, bytes)) (hz : z.cells.size = K) (hK : 0 < K) (hb : bytes ≤ 1024)
    (v : Value) (n : Nat) (xs : List Value) (hown : W.ownsRow base e K v n xs) (hs : a.eval s = v)
    (lo hi m : Nat) (u : Value) (ys : List Value) (hu : Sl lo hi W K u m ys) (hsh : Shape u m) (hx : a.eval x = u) (h1 : ∀ y ∈ ys, y.oneCell' = true)
    (hn : n + m ≤ 2097152) (hbase : base ≤ W.heap.size)
    (h : ∀ v' w', w'.ownsRow base e K v' (n + m) (xs ++ ys) → Below base W w' → wpList P ops Q rest (a.put o.dst v') w') : wpList P ops Q (o :: rest) a W := by
  obtain ⟨i, i1, i2, i3, i4⟩ := info_parts hinfo
  have hgb : ∀ k, v.ownBlock = some k → base ≤ k := fun k hk => (hown.lt k hk).1
  obtain ⟨_, hl, A, c, he, hnc, hcm, hcell⟩ := hu
  rcases hsh with rfl | ⟨b, off, c', rfl⟩
  · simp only [Value.slice.injEq] at he
    obtain ⟨rfl, rfl, rfl⟩ := he
    have hy : ys = [] := List.eq_nil_of_length_eq_zero (by simpa using hl)
    subst hy
    refine wpList_append_own_none hgd s x t ho base e i K ht i1 v n xs hs hown hx (h v W ?_ (Below.refl _ _))
    simpa using hown
  · simp only [Value.slice.injEq] at he
    obtain ⟨rfl, _, rfl⟩ := he
    refine wpList_append_own_at _ hgd s x t ho base e i z K bytes ht i1 i2 i3 i4 hz hK v n xs hs hown ⟨b, off, none⟩ m c' ys hx hl ?_ h1 (by unfold maxLen; omega) ?_ hbase ?_
    · intro j y hy
      have hadd : (⟨b, off, none⟩ : Addr).add j = ⟨b, off + j, none⟩ := by unfold Addr.add; split <;> simp_all
      rw [hadd]
      have hm : 0 < m := by
        rcases Nat.eq_zero_or_pos m with h0 | h0
        · subst h0
          have : ys = [] := List.eq_nil_of_length_eq_zero (by simpa using hl)
          subst this; simp at hy
        · exact h0
      obtain ⟨b', off', hbe, _, _, hc⟩ := hcell hm
      simp only [Option.some.injEq, Addr.mk.injEq] at hbe
      obtain ⟨rfl, rfl, _⟩ := hbe
      exact hc j y hy
    · have : (n + m) * bytes ≤ 2097152 * 1024 := Nat.mul_le_mul hn hb
      omega
    · intro v' w' ho' hg _ _
      exact h v' w' ho' ((Below.refl base W).grown hg hbase hgb)
end
end Go.Proofs.Ytopjccbjdcoanaa
