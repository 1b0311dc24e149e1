/- append of one cell to a slice of the call's own, as one step of a region that draws its order. Plain; over any program. -/
import Derived.Test.YtopjccbjdcoanaaApp
import Derived.Deep.RegionHeld3
namespace Go.Proofs.Ytopjccbjdcoanaa
set_option linter.unusedVariables false
open Go.RowKit
theorem step_append_one {P : Program} {ops : Array Oper} {o : Oper} {a : Act} {K : Act → World → Prop} {Q : Exit → Act → World → Prop} {E : Prop} (w : World)
    (hg : o.guard = none) (s x : Operand) (t : TypeId) (ho : o.op = .call { callee := .builtin .append, args := #[s, x], argTypes := #[t, t] })
    (base e bytes : Nat) (z : Value) (ht : P.underlying t = some (.slice e)) (hinfo : (P.info? e).map (fun i => (i.zero, i.size, i.bytes)) = some (some z, 1, bytes)) (hz : z.cells.size = 1) (hb : bytes ≤ 1024)
    (v : Value) (n : Nat) (xs : List Value) (hown : w.ownsRow base e 1 v n xs) (hs : a.eval s = v) (u : Value) (h1 : u.oneCell' = true)
    (g : Nat) (hx : a.eval x = .slice (some ⟨g, 0, none⟩) 1 1) (hc : w.cell? ⟨g, 0, none⟩ = some u) (hn : n ≤ 2097152) (hbase : base ≤ w.heap.size)
    (hK : ∀ v' w', w'.ownsRow base e 1 v' (n + 1) (xs ++ [u]) → Below base w w' → K (a.put o.dst v') w') :
    if Region.wanted o (yielded ops a.tmps) = true then Oper.wp P o a w K Q else E := by
  have hw : Region.wanted o (yielded ops a.tmps) = true := by simp [Region.wanted, hg]
  rw [if_pos hw]
  obtain ⟨i, i1, i2, i3, i4⟩ := info_parts hinfo
  have hgb : ∀ k, v.ownBlock = some k → base ≤ k := fun k hk => (hown.lt k hk).1
  refine wp_append_own w s x t ho base e i z 1 bytes ht i1 i2 i3 i4 hz (by omega) v n xs hs hown ⟨g, 0, none⟩ 1 1 [u] hx rfl ?_ (by intro y hy; simp at hy; subst hy; exact h1) (by unfold maxLen; omega) ?_ hbase ?_
  · intro j y hy
    cases j with
    | zero => simp at hy; subst hy; exact hc
    | succ j => simp at hy
  · have : (n + 1) * bytes ≤ 2097153 * 1024 := Nat.mul_le_mul (by omega) hb
    omega
  · intro v' w' ho' hg' _
    exact hK v' w' ho' ((Below.refl base w).grown hg' hbase hgb)
theorem keepA {B : Nat} {w W : World} (h : Below B w W) (hB : B ≤ w.heap.size) (o : Obj) : Below B w (W.alloc o) := h.alloc (Nat.le_trans hB h.size) o
theorem keepE {B : Nat} {w W W' : World} (h : Below B w W) (hB : B ≤ w.heap.size) (hE : Ext W W') : Below B w W' := h.trans (hE.mono (Nat.le_trans hB h.size))
end Go.Proofs.Ytopjccbjdcoanaa
