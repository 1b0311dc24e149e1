/- append to a slice of the call's own whose elements hold, each, an owned slice. -/
import Derived.Test.YtopjccbjdcoanaaNest
namespace Go.Proofs.Ytopjccbjdcoanaa
set_option linter.unusedVariables false
open Go.RowKit
/-- v holds the elements ys; their inner slices are owned; no two blocks are one -/
def GrowN {α : Type} (N : Nest α) (t t2 : TypeId) (lo : Nat) (w : World) (v : Value) (ys : List (α × Value)) : Prop :=
  lo ≤ w.heap.size ∧ w.ownsRow lo t N.K v ys.length (flat N.enc ys) ∧ (∀ p ∈ ys, Own lo w.heap.size w t2 N.k p.2 (N.n p.1) (N.sub p.1)) ∧ (v :: ys.map Prod.snd).Pairwise Apart
section
variable {α : Type} {N : Nest α} {t t2 lo : Nat} {w w' : World} {v : Value} {ys : List (α × Value)}
theorem GrowN.nil (h : lo ≤ w.heap.size) : GrowN N t t2 lo w (.slice none 0 0) ([] : List (α × Value)) := ⟨h, World.ownsRow_nil _ _ _ _, (fun p hp => absurd hp (by simp)), by simp⟩
theorem GrowN.empty (h : lo ≤ w.heap.size) : GrowN N t t2 lo (w.alloc (.cells #[] t)) (.slice (some ⟨w.heap.size, 0, none⟩) 0 0) ([] : List (α × Value)) := ⟨by simp; omega, own_empty _ _ _ _ h, (fun p hp => absurd hp (by simp)), by simp⟩
theorem GrowN.ext (h : GrowN N t t2 lo w v ys) (hE : Ext w w') : GrowN N t t2 lo w' v ys := by
  obtain ⟨h0, h1, h2, h3⟩ := h
  exact ⟨Nat.le_trans h0 hE.size, ownE h1 hE, fun p hp => ((h2 p hp).ext hE).more (Nat.le_refl _) hE.size (Nat.le_refl _), h3⟩
/-- a slice in a block that came later lies apart -/
theorem GrowN.later {lo' hi' K' n' : Nat} {t' : TypeId} {W : World} {u : Value} {xs : List Value} (h : GrowN N t t2 lo w v ys) (hu : Own lo' hi' W t' K' u n' xs) (hl : w.heap.size ≤ lo') : Apart v u ∧ ∀ q ∈ ys, Apart q.2 u :=
  ⟨fun g g1 g2 => by have := (h.2.1.lt g g1).2; have := hu.blk g g2; omega, fun q hq => (h.2.2.1 q hq).apart hu (.inl hl)⟩
/-- the blocks that a growing step leaves alone -/
theorem Own.grownBy {lo hi K n : Nat} {t : TypeId} {w w' : World} {v u : Value} {xs : List Value} (h : Own lo hi w t K u n xs) (hg : w.grownBy w' v.ownBlock) (ha : Apart v u) : Own lo hi w' t K u n xs := by
  obtain ⟨h0, hn, hl, ⟨rfl, rfl⟩ | ⟨g', c, cs, rfl, h4, h5, h6, h7, h8, h9⟩⟩ := h
  · exact ⟨Nat.le_trans h0 hg.size, hn, hl, .inl ⟨rfl, rfl⟩⟩
  · have hne : some g' ≠ v.ownBlock := fun e => ha g' e.symm rfl
    exact ⟨Nat.le_trans h0 hg.size, hn, hl, .inr ⟨g', c, cs, rfl, h4, h5, h6, h7, (hg.block g' (by omega) hne).trans h8, h9⟩⟩
end
section
variable {P : Program} {ops : Array Oper} {rest : List Oper} {o : Oper} {a : Act} {Q : Exit → Act → World → Prop} {α : Type} {N : Nest α}
theorem wp_grow (W : World) (b0 : Nat) (hb0 : b0 = W.heap.size) (hgd : o.guard = none) (s x : Operand) (t : TypeId) (ho : o.op = .call { callee := .builtin .append, args := #[s, x], argTypes := #[t, t] })
    (lo e bytes : Nat) (z : Value) (ht : P.underlying t = some (.slice e)) (hinfo : (P.info? e).map (fun i => (i.zero, i.size, i.bytes)) = some (some z, N.K, bytes)) (hz : z.cells.size = N.K) (hK : 0 < N.K) (hb : bytes ≤ 1024)
    (t2 : TypeId) (v : Value) (ys : List (α × Value)) (hG : GrowN N e t2 lo W v ys) (hs : a.eval s = v) (p : α × Value) (hl : (N.enc p).length = N.K) (h1 : ∀ u ∈ N.enc p, u.oneCell' = true) (cs : Array Value) (hcs : cs = (N.enc p).toArray)
    (hx : a.eval x = .slice (some ⟨b0, 0, none⟩) 1 1) (hn : ys.length ≤ 2097152)
    (hu : Own lo W.heap.size W t2 N.k p.2 (N.n p.1) (N.sub p.1)) (hav : Apart v p.2) (hau : ∀ q ∈ ys, Apart q.2 p.2)
    (h : ∀ v' w', GrowN N e t2 lo w' v' (ys ++ [p]) → Below lo W w' → wpList P ops Q rest (a.put o.dst v') w') : wpList P ops Q (o :: rest) a (W.alloc (.cells cs e)) := by
  subst hb0
  subst hcs
  obtain ⟨hbase, hown, hin, hap⟩ := hG
  obtain ⟨i, i1, i2, i3, i4⟩ := info_parts hinfo
  have hgb : ∀ k, v.ownBlock = some k → lo ≤ k := fun k hk => (hown.lt k hk).1
  have hall : ∀ q ∈ ys ++ [p], Own lo W.heap.size W t2 N.k q.2 (N.n q.1) (N.sub q.1) := fun q hq => by
    rw [List.mem_append] at hq
    rcases hq with hq | hq
    · exact hin q hq
    · simp at hq; subst hq; exact hu
  have hva : ∀ q ∈ ys ++ [p], Apart v q.2 := fun q hq => by
    rw [List.mem_append] at hq
    rcases hq with hq | hq
    · exact (List.pairwise_cons.1 hap).1 _ (List.mem_map_of_mem hq)
    · simp at hq; subst hq; exact hav
  refine wpList_append_own_at _ hgd s x t ho lo e i z N.K bytes ht i1 i2 i3 i4 hz hK v ys.length (flat N.enc ys) hs (hown.alloc _) ⟨W.heap.size, 0, none⟩ 1 1 (N.enc p) hx (by omega) ?_ h1 (by unfold maxLen; omega) ?_ (by simp; omega) ?_
  · intro j u hu
    have hadd : (⟨W.heap.size, 0, none⟩ : Addr).add j = ⟨W.heap.size, j, none⟩ := by unfold Addr.add; split <;> simp_all
    rw [hadd, cell_of_row _ W.heap.size j (N.enc p).toArray e (0, 0) (heap_alloc_new W _)]
    simpa using hu
  · have : (ys.length + 1) * bytes ≤ 2097153 * 1024 := Nat.mul_le_mul (by omega) hb
    omega
  · intro v' w' ho' hg _ hat
    have hsz : W.heap.size + 1 ≤ w'.heap.size := by have := hg.size; simpa using this
    have hva' : ∀ q ∈ ys ++ [p], Apart v' q.2 := fun q hq g g1 g2 => by
      rcases hat with hat | hat
      · exact hva q hq g (hat ▸ g1) g2
      · rw [hat] at g1
        have := ((hall q hq).blk g g2).2
        simp at g1
        omega
    refine h v' w' ⟨Nat.le_trans hbase (by omega), ?_, fun q hq => (((hall q hq).ext (Ext.new W _)).grownBy hg (hva q hq)).more (Nat.le_refl _) (by omega) (Nat.le_refl _), ?_⟩ (((Below.refl lo W).alloc hbase _).grown hg (by simp; omega) hgb)
    · rw [flat_snoc, List.length_append]; exact ho'
    · rw [List.pairwise_cons]
      refine ⟨fun u hu => ?_, ?_⟩
      · obtain ⟨q, hq, rfl⟩ := List.mem_map.1 hu
        exact hva' q hq
      · rw [List.map_append, List.pairwise_append]
        refine ⟨(List.pairwise_cons.1 hap).2, by simp, fun a ha b hb => ?_⟩
        simp at hb; subst hb
        obtain ⟨q, hq, rfl⟩ := List.mem_map.1 ha
        exact hau q hq
end
/-- what has grown, as the answer of a call -/
theorem GrowN.own {α : Type} {N : Nest α} {t t2 : TypeId} {w w' : World} {v : Value} {ys : List (α × Value)} {xs : List α} (h : GrowN N t t2 w.heap.size w' v ys) (hx : ys.map Prod.fst = xs) (h1 : xs.length ≤ 2097152) (h2 : totN N xs ≤ 2097152) : OwnN N t t2 w.heap.size w'.heap.size w' v xs := by
  obtain ⟨h0, ho, hin, hap⟩ := h
  have hl : ys.length = xs.length := by rw [← hx]; simp
  rw [hl] at ho
  exact ⟨Nat.le_refl _, ⟨h1, h2⟩, ys, hx, Own.of ho h1, hin, hap⟩
end Go.Proofs.Ytopjccbjdcoanaa
