/- The days of a map of counts: the plain law. No program in sight. -/
import Derived.Test.YtcocdigcmcpefaaBusyP
import Derived.Lib.SlKeysI
import Derived.Maps.OwnSet
import Derived.Maps.OwnOps
namespace Go.Proofs.Ytcocdigcmcpefaa
set_option linter.unusedVariables false
open Go.RowKit Go.Maps
theorem cnt_snoc (ds : List Int) (x y : Int) : cnt (ds ++ [x]) y = cnt ds y + if x = y then 1 else 0 := by
  unfold cnt
  rw [List.countP_append, List.countP_singleton]
  split <;> simp_all
/-- a map that counts the days of a list -/
def CntD (D : DataW Unit) (ds : List Int) : Prop := (∀ x, has D (.int .i64 x) = decide (x ∈ ds)) ∧ ∀ x, D.atKey (.int .i64 x) (.lit (.int .i64 0)) = .lit (.int .i64 (cnt ds x))
theorem CntD.zero : CntD (.map []) [] := ⟨fun x => rfl, fun x => rfl⟩
theorem CntD.val {D : DataW Unit} {ds : List Int} (h : CntD D ds) {x c : Int} (hc : D.atKey (.int .i64 x) (.lit (.int .i64 0)) = .lit (.int .i64 c)) : c = cnt ds x := by
  have := h.2 x
  rw [hc] at this
  simpa using this
theorem CntD.step {D : DataW Unit} {ds : List Int} (h : CntD D ds) (hm : IsMap D) (x : Int) : CntD (D.put (.int .i64 x) (.lit (.int .i64 (cnt ds x + 1)))) (ds ++ [x]) := by
  constructor
  · intro y
    by_cases e : y = x
    · subst e; rw [has_put_same hm (show WideAt.IsKeyLit (.int .i64 y) from trivial)]; simp
    · rw [has_put_other (by simpa using e), h.1 y]; simp [e]
  · intro y
    by_cases e : y = x
    · subst e; rw [atKey_put_same hm (show WideAt.IsKeyLit (.int .i64 y) from trivial), cnt_snoc, if_pos rfl]
    · rw [atKey_put_other (by simpa using e), h.2 y, cnt_snoc, if_neg (fun e2 => e e2.symm), Int.add_zero]
def lessI : Int → Int → Bool := fun x y => decide (x ≤ y)
theorem keys_sorted {D : DataW Unit} {ds ss : List Int} (h : CntD D ds) (hp : ∃ es, D = .map es ∧ es.Pairwise (fun p q => p.1 ≠ q.1) ∧ ∀ p ∈ es, ∃ x, p.1 = .int .i64 x) (hs : ss.Perm (intKeys D)) :
    (ss.mergeSort fun x y => decide (x ≤ y)).length = ss.length ∧ (∀ x, x ∈ (ss.mergeSort fun x y => decide (x ≤ y)) ↔ x ∈ ds) ∧ (ss.mergeSort fun x y => decide (x ≤ y)).Pairwise (fun a b => a < b) := by
  obtain ⟨es, rfl, hpw, hk⟩ := hp
  have hnd : (intKeys (.map es : DataW Unit)).Nodup := by
    show (es.map fun p => Go.intOf p.1).Nodup
    refine List.pairwise_map.2 (hpw.imp_of_mem fun {p q} hp' hq' hne e => hne ?_)
    obtain ⟨a, ha⟩ := hk p hp'
    obtain ⟨b, hb⟩ := hk q hq'
    rw [ha, hb] at e ⊢
    exact congrArg _ e
  have hm : ∀ x, x ∈ intKeys (.map es : DataW Unit) ↔ x ∈ ds := by
    intro x
    have h1 := h.1 x
    rw [has_eq] at h1
    show x ∈ es.map (fun p => Go.intOf p.1) ↔ _
    constructor
    · intro hx
      obtain ⟨p, hp', rfl⟩ := List.mem_map.1 hx
      obtain ⟨a, ha⟩ := hk p hp'
      have : (es.any fun q => q.1.sameKey (.int .i64 (Go.intOf p.1))) = true := List.any_eq_true.2 ⟨p, hp', by rw [ha]; simp [Lit.sameKey, Go.intOf]⟩
      rw [this] at h1
      exact of_decide_eq_true h1.symm
    · intro hx
      rw [decide_eq_true hx] at h1
      obtain ⟨p, hp', hs'⟩ := List.any_eq_true.1 h1
      obtain ⟨a, ha⟩ := hk p hp'
      rw [ha] at hs'
      exact List.mem_map.2 ⟨p, hp', by rw [ha]; simpa [Lit.sameKey, Go.intOf] using hs'⟩
  have tr : ∀ a b c : Int, (fun x y : Int => decide (x ≤ y)) a b = true → (fun x y : Int => decide (x ≤ y)) b c = true → (fun x y : Int => decide (x ≤ y)) a c = true := fun a b c h1 h2 => by simp only [decide_eq_true_eq] at *; exact Int.le_trans h1 h2
  have to : ∀ a b : Int, ((fun x y : Int => decide (x ≤ y)) a b || (fun x y : Int => decide (x ≤ y)) b a) = true := fun a b => by simp only [Bool.or_eq_true, decide_eq_true_eq]; exact Int.le_total a b
  have hperm := List.mergeSort_perm ss (fun x y : Int => decide (x ≤ y))
  refine ⟨hperm.length_eq, fun x => ?_, ?_⟩
  · rw [hperm.mem_iff, hs.mem_iff]; exact hm x
  · have hn : (ss.mergeSort fun x y => decide (x ≤ y)).Nodup := (hperm.nodup_iff).2 ((hs.nodup_iff).2 hnd)
    have hpl := List.pairwise_mergeSort tr to ss
    refine (List.Pairwise.and hpl hn).imp fun {a b} hab => ?_
    have h1 := hab.1
    simp only [decide_eq_true_eq] at h1
    have := hab.2
    omega
/-- the program's rounds -/
theorem busy_round {ds ks : List Int} {z y : Int} {k : Nat} (hk : k < ks.length) (h : BusyTo ds (ks.take k) z y) (hm : ∀ x, x ∈ ks ↔ x ∈ ds) (hp : ks.Pairwise (fun a b => a < b)) :
    (y < cnt ds ks[k] → BusyTo ds (ks.take (k + 1)) ks[k] (cnt ds ks[k])) ∧ (¬ y < cnt ds ks[k] → BusyTo ds (ks.take (k + 1)) z y) := by
  rw [List.take_succ_eq_append_getElem hk]
  refine ⟨fun hn => h.key_take hn, fun hn => h.key_keep ((hm _).1 (List.getElem_mem _)) (fun x hx => ?_) hn⟩
  obtain ⟨j, hj, rfl⟩ := List.mem_iff_getElem.1 hx
  rw [List.getElem_take]
  exact List.pairwise_iff_getElem.1 hp j k _ _ (by simp at hj; omega)
theorem busy_end {ds ks : List Int} {z y : Int} (h : BusyTo ds (ks.take ks.length) z y) (hm : ∀ x, x ∈ ks ↔ x ∈ ds) : z = (bTo ds ds.length).1 ∧ y = (bTo ds ds.length).2 := by
  rw [List.take_length] at h
  exact h.end_ hm
end Go.Proofs.Ytcocdigcmcpefaa
