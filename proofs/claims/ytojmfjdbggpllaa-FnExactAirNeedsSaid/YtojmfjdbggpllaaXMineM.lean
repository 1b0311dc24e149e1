/- Mine: the contract of the laws' function that marks a mine's airways. -/
import Derived.Test.YtojmfjdbggpllaaXMine
namespace Go.Proofs.Ytojmfjdbggpllaa
set_option linter.unusedVariables false
open Go.RowKit
theorem markMine (k0 j : Int) (n lo hi : Nat) (v : Value) (xs : List Value) (w : World) (hv : Own lo hi w 91 7 v n xs) (h0 : 0 < k0) (hk : k0 + 7 * n ≤ 1099511627776) :
    Calls Try.prog 45 #[.agg #[.int .i64 j, v], .int .i64 k0] w fun e w' => e = .returned (.int .i64 (k0 + 7 * n)) ∧ Own lo hi w' 91 7 v n (markAirways k0 n) ∧ KeepI lo hi w w' := by
  go_enter Try.func45, Try.ntmps45
  go_wp2_with fail
  generalize hG : World.alloc w _ = wz
  have hE : Ext w wz := by rw [← hG]; exact Ext.new _ _
  clear hG
  refine (markAirwayS k0 n lo hi v xs _ (hv.ext hE) h0 hk).mono ?_
  rintro e w1 ⟨rfl, hO, hK⟩
  go_wp2
  go_ret
  exact ⟨rfl, hO, hE.keep.tr hK⟩
end Go.Proofs.Ytojmfjdbggpllaa
