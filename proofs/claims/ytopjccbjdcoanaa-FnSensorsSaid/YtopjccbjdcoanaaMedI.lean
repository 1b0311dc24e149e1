/- The middle of a list of numbers: the small callees of the program's function. -/
import Derived.Test.YtopjccbjdcoanaaMedS
import Derived.Test.YtopjccbjdcoanaaFind
import Derived.Test.YtopjccbjdcoanaaAnyL
import Derived.Lib.LazyBuf
namespace Go.Proofs.Ytopjccbjdcoanaa
set_option linter.unusedVariables false
open Go.RowKit
theorem cloneI (xs : List Int) (lo hi : Nat) (v : Value) (w : World) (hv : Sl lo hi w 1 v xs.length (flat encI xs)) (hsh : Shape v xs.length) (hn : xs.length ≤ 1048576) :
    Calls Try.prog 97 #[v] w fun e w' => (∃ v', e = .returned v' ∧ w'.ownsRow w.heap.size 2 1 v' xs.length (flat encI xs)) ∧ Ext w w' := by
  have hv0 := hv
  obtain ⟨_, hl, A, c, he, _, _, _⟩ := hv0
  have qT : ∀ (w : World) (a : Option Addr) (n c n' c' : Nat), (binOp .eql 27 (.slice a n c) (.slice none n' c')).run Try.prog w = .ok (.bool a.isNone) w := fun w a n c n' c' => Lib.run_eql_slice_nil w _ _ a n c n' c' Try.underlying27
  rcases hsh with rfl | ⟨b, off, c', rfl⟩
  · simp only [Value.slice.injEq] at he
    obtain ⟨rfl, h0, rfl⟩ := he
    have h1 : flat encI xs = [] := List.eq_nil_of_length_eq_zero (by omega)
    have HL := hid h0
    have H1 := hid h1
    clear h0 h1
    go_enter Try.func97, Try.ntmps97
    go_wp2
    go_ret
    exact ⟨⟨_, rfl, by rw [H1.out, ← HL.out]; exact World.ownsRow_nil _ _ _ _⟩, Below.refl _ _⟩
  · have hsh : Shape (.slice (some ⟨b, off, none⟩) xs.length c') xs.length := .inr ⟨b, off, c', rfl⟩
    clear he
    go_enter Try.func97, Try.ntmps97
    go_wp2_with (at_builtin; refine wp_appendN (w.alloc _) rfl (.tmp 5) (.tmp 6) _ rfl w.heap.size 2 1 8 _ Try.underlying27 infoInt rfl (by omega) (by omega) _ 0 [] (own_empty w _ _ _ (Nat.le_refl _)) rfl _ _ _ _ _ (hv.ext (Ext.new _ _)) hsh rfl (one_I xs) (by omega) (by simp) ?_; intro v' w' ho' hb')
    go_ret
    exact ⟨⟨_, rfl, by simpa using ho'⟩, (Ext.new w _).trans hb'⟩
theorem midCl (x : Int) (w : World) : Calls Try.prog 98 #[.int .i64 x] w fun e w' => e = .returned (.bool (decide (x = -1))) ∧ w = w' := by
  go_enter Try.func98, Try.ntmps98
  go_wp2
  go_ret
  exact ⟨ret_bool (by rw [Bool.eq_iff_iff]; simp), rfl⟩
end Go.Proofs.Ytopjccbjdcoanaa
