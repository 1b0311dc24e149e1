/- append to a slice of the call's own whose elements hold owned slices, as one step of a region that draws its order. -/
import Derived.Test.YthffakaddohlnaaApp3
import Derived.Deep.RegionHeld3
namespace Go.Proofs.Ythffakaddohlnaa
set_option linter.unusedVariables false
open Go.RowKit
theorem GrowN.low {α : Type} {N : Nest α} {t t2 lo lo' : Nat} {w : World} {v : Value} {ys : List (α × Value)} (h : GrowN N t t2 lo w v ys) (h1 : lo' ≤ lo) : GrowN N t t2 lo' w v ys := by
  obtain ⟨h0, h2, h3, h4⟩ := h
  refine ⟨Nat.le_trans h1 h0, ⟨h2.1, ?_⟩, fun p hp => (h3 p hp).more h1 (Nat.le_refl _) (Nat.le_refl _), h4⟩
  rcases h2.2 with h5 | ⟨g, cap, cur, e1, hbg, r⟩
  · exact .inl h5
  · exact .inr ⟨g, cap, cur, e1, Nat.le_trans h1 hbg, r⟩
theorem step_grow {P : Program} {ops : Array Oper} {o : Oper} {a : Act} {K : Act → World → Prop} {Q : Exit → Act → World → Prop} {E : Prop} {α : Type} {N : Nest α} (W : World) (hgd : o.guard = none) (s x : Operand) (t : TypeId) (ho : o.op = .call { callee := .builtin .append, args := #[s, x], argTypes := #[t, t] })
    (lo e bytes : Nat) (z : Value) (ht : P.underlying t = some (.slice e)) (hinfo : (P.info? e).map (fun i => (i.zero, i.size, i.bytes)) = some (some z, N.K, bytes)) (hz : z.cells.size = N.K) (hK : 0 < N.K) (hb : bytes ≤ 1024)
    (t2 : TypeId) (v : Value) (ys : List (α × Value)) (hG : GrowN N e t2 lo W v ys) (hs : a.eval s = v) (p : α × Value) (hl : (N.enc p).length = N.K) (h1 : ∀ u ∈ N.enc p, u.oneCell' = true) (gx : Nat) (hB : Blk W gx e (N.enc p).toArray)
    (hx : a.eval x = .slice (some ⟨gx, 0, none⟩) 1 1) (hn : ys.length ≤ 2097152)
    (hu : Own lo W.heap.size W t2 N.k p.2 (N.n p.1) (N.sub p.1)) (hav : Apart v p.2) (hau : ∀ q ∈ ys, Apart q.2 p.2) (B : Nat) (hBW : B ≤ W.heap.size) (hBv : ∀ k, v.ownBlock = some k → B ≤ k)
    (h : ∀ v' w', GrowN N e t2 lo w' v' (ys ++ [p]) → Below B W w' → K (a.put o.dst v') w') : if Region.wanted o (yielded ops a.tmps) = true then Oper.wp P o a W K Q else E := by
  have hw : Region.wanted o (yielded ops a.tmps) = true := by simp [Region.wanted, hgd]
  rw [if_pos hw]
  obtain ⟨hbase, hown, hin, hap⟩ := hG
  obtain ⟨i, i1, i2, i3, i4⟩ := info_parts hinfo
  have hgb : ∀ k, v.ownBlock = some k → lo ≤ k := fun k hk => (hown.lt k hk).1
  have hall : ∀ q ∈ ys ++ [p], Own lo W.heap.size W t2 N.k q.2 (N.n q.1) (N.sub q.1) := fun q hq => by
    rw [List.mem_append] at hq
    rcases hq with hq | hq
    · exact hin q hq
    · simp at hq; subst hq; exact hu
  have hva : ∀ q ∈ ys ++ [p], Apart v q.2 := fun q hq => by
    rw [List.mem_append] at hq
    rcases hq with hq | hq
    · exact (List.pairwise_cons.1 hap).1 _ (List.mem_map_of_mem hq)
    · simp at hq; subst hq; exact hav
  obtain ⟨v', w', hr, ho', hg, _, hat⟩ := run_append_own_at (P := P) W lo t o.type e i z N.K bytes ht i1 i2 i3 i4 hz hK v ys.length (flat N.enc ys) hown ⟨gx, 0, none⟩ 1 1 (N.enc p) (by omega) (fun j u hu => by
    have hadd : (⟨gx, 0, none⟩ : Addr).add j = ⟨gx, j, none⟩ := by unfold Addr.add; split <;> simp_all
    rw [hadd, hB.cell]
    simpa using hu) h1 (by unfold maxLen; omega) (by
      have : (ys.length + 1) * bytes ≤ 2097153 * 1024 := Nat.mul_le_mul (by omega) hb
      omega) hbase
  unfold Oper.wp execOp
  simp only [ho, resolve, invoke, builtin, Sem.run_bind, Sem.run_pure, Result.andThen_ok, List.map_toArray, List.map_cons, List.map_nil, hs, hx, hr]
  have hsz : W.heap.size ≤ w'.heap.size := hg.size
  have hva' : ∀ q ∈ ys ++ [p], Apart v' q.2 := fun q hq g g1 g2 => by
    rcases hat with hat | hat
    · exact hva q hq g (hat ▸ g1) g2
    · rw [hat] at g1
      have := ((hall q hq).blk g g2).2
      simp at g1
      omega
  refine h v' w' ⟨Nat.le_trans hbase (by omega), ?_, fun q hq => ((hall q hq).grownBy hg (hva q hq)).more (Nat.le_refl _) (by omega) (Nat.le_refl _), ?_⟩ ((Below.refl B W).grown hg hBW hBv)
  · rw [flat_snoc, List.length_append]; exact ho'
  · rw [List.pairwise_cons]
    refine ⟨fun u hu => ?_, ?_⟩
    · obtain ⟨q, hq, rfl⟩ := List.mem_map.1 hu
      exact hva' q hq
    · rw [List.map_append, List.pairwise_append]
      refine ⟨(List.pairwise_cons.1 hap).2, by simp, fun a ha b hb => ?_⟩
      simp at hb; subst hb
      obtain ⟨q, hq, rfl⟩ := List.mem_map.1 ha
      exact hau q hq
end Go.Proofs.Ythffakaddohlnaa
