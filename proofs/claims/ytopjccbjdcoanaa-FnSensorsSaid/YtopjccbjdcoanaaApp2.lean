/- append onto one owned slice, beside another owned slice that lies apart. -/
import Derived.Test.YtopjccbjdcoanaaApp
import Derived.Maps.AppendAt
namespace Go.Proofs.Ytopjccbjdcoanaa
set_option linter.unusedVariables false
open Go.RowKit
def Apart (v u : Value) : Prop := ∀ g, v.ownBlock = some g → u.ownBlock = some g → False
theorem Apart.symm {v u : Value} (h : Apart v u) : Apart u v := fun g h1 h2 => h g h2 h1
theorem Apart.new {W : World} {base e K n : Nat} {u : Value} {ys : List Value} (hu : W.ownsRow base e K u n ys) (v : Value) (hv : ∀ g, v.ownBlock = some g → W.heap.size ≤ g) : Apart v u := fun g h1 h2 => by
  have := hv g h1
  have := (hu.lt g h2).2
  omega
section
variable {P : Program} {ops : Array Oper} {rest : List Oper} {o : Oper} {a : Act} {Q : Exit → Act → World → Prop}
theorem wp_append2 (W : World) (b0 : Nat) (hb0 : b0 = W.heap.size) (hgd : o.guard = none) (s x : Operand) (t : TypeId) (ho : o.op = .call { callee := .builtin .append, args := #[s, x], argTypes := #[t, t] })
    (base e K bytes : Nat) (z : Value) (ht : P.underlying t = some (.slice e)) (hinfo : (P.info? e).map (fun i => (i.zero, i.size, i.bytes)) = some (some z, K, bytes)) (hz : z.cells.size = K) (hK : 0 < K) (hb : bytes ≤ 1024)
    (v : Value) (n : Nat) (xs : List Value) (hown : W.ownsRow base e K v n xs) (hs : a.eval s = v) (us : List Value) (hl : us.length = K) (h1 : ∀ u ∈ us, u.oneCell' = true) (cs : Array Value) (hcs : cs = us.toArray)
    (hx : a.eval x = .slice (some ⟨b0, 0, none⟩) 1 1) (hn : n ≤ 2097152) (hbase : base ≤ W.heap.size)
    (base2 e2 K2 m : Nat) (u : Value) (ys : List Value) (hu : W.ownsRow base2 e2 K2 u m ys) (hap : Apart v u)
    (h : ∀ v' w', w'.ownsRow base e K v' (n + 1) (xs ++ us) → Below base W w' → w'.ownsRow base2 e2 K2 u m ys → Apart v' u → wpList P ops Q rest (a.put o.dst v') w') : wpList P ops Q (o :: rest) a (W.alloc (.cells cs e)) := by
  subst hb0
  subst hcs
  obtain ⟨i, i1, i2, i3, i4⟩ := info_parts hinfo
  have hgb : ∀ k, v.ownBlock = some k → base ≤ k := fun k hk => (hown.lt k hk).1
  refine wpList_append_own_at _ hgd s x t ho base e i z K bytes ht i1 i2 i3 i4 hz hK v n xs hs (hown.alloc _) ⟨W.heap.size, 0, none⟩ 1 1 us hx (by omega) ?_ h1 (by unfold maxLen; omega) ?_ (by simp; omega) ?_
  · intro j u hu
    have hadd : (⟨W.heap.size, 0, none⟩ : Addr).add j = ⟨W.heap.size, j, none⟩ := by unfold Addr.add; split <;> simp_all
    rw [hadd, cell_of_row _ W.heap.size j us.toArray e (0, 0) (heap_alloc_new W _)]
    simpa using hu
  · have : (n + 1) * bytes ≤ 2097153 * 1024 := Nat.mul_le_mul (by omega) hb
    omega
  · intro v' w' ho' hg _ hat
    refine h v' w' ho' (((Below.refl base W).alloc hbase _).grown hg (by simp; omega) hgb) ((hu.alloc _).kept hg ?_) ?_
    · cases hq : u.ownBlock with
      | none => exact .inl rfl
      | some g => exact .inr fun e => hap g e.symm hq
    · intro g g1 g2
      rcases hat with hat | hat
      · exact hap g (hat ▸ g1) g2
      · rw [hat] at g1
        have := (hu.lt g g2).2
        simp at g1
        omega
end
end Go.Proofs.Ytopjccbjdcoanaa
