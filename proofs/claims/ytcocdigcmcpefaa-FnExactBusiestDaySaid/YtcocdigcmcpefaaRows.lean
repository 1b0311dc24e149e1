/-
  No cell of these rows narrows 'for every input' (looked for: loops, veiled, ifaces, maps, wideKeys, modest, calm, conditions, laid).
  DERIVED. THE GIVEN ROWS OF THIS SEAT. 6 by the template 'for every input the law returns true; each argument reads behind the call as it read before'; 0 by the template 'total and deterministic' (their statements: YtcocdigcmcpefaaTotals.lean).
  GIVEN WITH THE SEED: the statements are not yours to turn. If you find one false, say at which input.
  Laid BY PROGRAM, IN A SANDBOX (cutbox-rows.mjs): the forced cells as the released guide's own fill.sh prints them over the translation 16b29d03bac933db… (all of the seat's roots in one cut). By AI agents, Wed Nov 11 2026. No macro, syntax, notation, axiom, sorry.
-/
import Derived.Test.YtcocdigcmcpefaaChecked
import GoSem.Claim
import GoSem.ClaimJoined
import GoSem.ClaimMapViews
import Derived.JoinedTies
import Derived.KernelRfl
namespace Go.Proofs.Ytcocdigcmcpefaa
/- THE CELL 'sum', in the pinned program and in every row, IS THE sha256 OF THE DUMP (.gsa) THAT YtcocdigcmcpefaaProg.lean LOADS. Nothing in Lean hashes anything: it is a label: what it is worth is what the hold of that sum in a sandbox is worth. -/
noncomputable def Try.pinned : Pinned := { name := "ytcocdigcmcpefaa", sum := "16b29d03bac933db579a92e03b1613ab84c0927084a7156445f1533ab31b46cc", checked := Try.checked }
namespace Rows
def none {H : Type} : Left H := { results := [], args := [] }

/-- 'laws.FnExactValidChecks': WHATEVER THE INPUT: true; the input reads as it did. -/
def fnExactValidChecksSpec : ChangeSpec := { name := "fnExactValidChecks", fn := fun _ => fun
  | [d] => { results := [.lit (.bool true)], args := [d] }
  | _ => none }
def fnExactValidChecksRow : OpenClaim := { program := "ytcocdigcmcpefaa", sum := "16b29d03bac933db579a92e03b1613ab84c0927084a7156445f1533ab31b46cc", func := "loop.example/g01021/laws.FnExactValidChecks", spec := "fnExactValidChecks", apart := false }
def FnExactValidChecksSaid : Prop := fnExactValidChecksRow.holds Try.pinned (OpenSpec.ofChange fnExactValidChecksSpec)

/-- ITS FALSE NEIGHBOUR: 'it returns false'. Refute it at one input. -/
def fnExactValidChecksWrong : ChangeSpec := { name := "fnExactValidChecks", fn := fun _ => fun
  | [d] => { results := [.lit (.bool false)], args := [d] }
  | _ => none }
def FnExactValidChecksWrongFalsely : Prop := fnExactValidChecksRow.holds Try.pinned (OpenSpec.ofChange fnExactValidChecksWrong)

/-- 'laws.FnExactLatestOf': WHATEVER THE INPUT: true; the input reads as it did. -/
def fnExactLatestOfSpec : ChangeSpec := { name := "fnExactLatestOf", fn := fun _ => fun
  | [d1, d2] => { results := [.lit (.bool true)], args := [d1, d2] }
  | _ => none }
def fnExactLatestOfRow : OpenClaim := { program := "ytcocdigcmcpefaa", sum := "16b29d03bac933db579a92e03b1613ab84c0927084a7156445f1533ab31b46cc", func := "loop.example/g01021/laws.FnExactLatestOf", spec := "fnExactLatestOf", unfollowed := true, recurses := true, apart := false }
def FnExactLatestOfSaid : Prop := fnExactLatestOfRow.holds Try.pinned (OpenSpec.ofChange fnExactLatestOfSpec)

/-- ITS FALSE NEIGHBOUR: 'it returns false'. Refute it at one input. -/
def fnExactLatestOfWrong : ChangeSpec := { name := "fnExactLatestOf", fn := fun _ => fun
  | [d1, d2] => { results := [.lit (.bool false)], args := [d1, d2] }
  | _ => none }
def FnExactLatestOfWrongFalsely : Prop := fnExactLatestOfRow.holds Try.pinned (OpenSpec.ofChange fnExactLatestOfWrong)

/-- 'laws.FnExactChecksDue': WHATEVER THE INPUT: true; the input reads as it did. -/
def fnExactChecksDueSpec : ChangeSpec := { name := "fnExactChecksDue", fn := fun _ => fun
  | [d1, d2] => { results := [.lit (.bool true)], args := [d1, d2] }
  | _ => none }
def fnExactChecksDueRow : OpenClaim := { program := "ytcocdigcmcpefaa", sum := "16b29d03bac933db579a92e03b1613ab84c0927084a7156445f1533ab31b46cc", func := "loop.example/g01021/laws.FnExactChecksDue", spec := "fnExactChecksDue", apart := false }
def FnExactChecksDueSaid : Prop := fnExactChecksDueRow.holds Try.pinned (OpenSpec.ofChange fnExactChecksDueSpec)

/-- ITS FALSE NEIGHBOUR: 'it returns false'. Refute it at one input. -/
def fnExactChecksDueWrong : ChangeSpec := { name := "fnExactChecksDue", fn := fun _ => fun
  | [d1, d2] => { results := [.lit (.bool false)], args := [d1, d2] }
  | _ => none }
def FnExactChecksDueWrongFalsely : Prop := fnExactChecksDueRow.holds Try.pinned (OpenSpec.ofChange fnExactChecksDueWrong)

/-- 'laws.FnExactDoCheck': WHATEVER THE INPUT: true; the input reads as it did. -/
def fnExactDoCheckSpec : ChangeSpec := { name := "fnExactDoCheck", fn := fun _ => fun
  | [d1, d2, d3] => { results := [.lit (.bool true)], args := [d1, d2, d3] }
  | _ => none }
def fnExactDoCheckRow : OpenClaim := { program := "ytcocdigcmcpefaa", sum := "16b29d03bac933db579a92e03b1613ab84c0927084a7156445f1533ab31b46cc", func := "loop.example/g01021/laws.FnExactDoCheck", spec := "fnExactDoCheck", unfollowed := true, recurses := true, apart := false }
def FnExactDoCheckSaid : Prop := fnExactDoCheckRow.holds Try.pinned (OpenSpec.ofChange fnExactDoCheckSpec)

/-- ITS FALSE NEIGHBOUR: 'it returns false'. Refute it at one input. -/
def fnExactDoCheckWrong : ChangeSpec := { name := "fnExactDoCheck", fn := fun _ => fun
  | [d1, d2, d3] => { results := [.lit (.bool false)], args := [d1, d2, d3] }
  | _ => none }
def FnExactDoCheckWrongFalsely : Prop := fnExactDoCheckRow.holds Try.pinned (OpenSpec.ofChange fnExactDoCheckWrong)

/-- 'laws.FnExactLeastPerDay': WHATEVER THE INPUT: true; the input reads as it did. -/
def fnExactLeastPerDaySpec : ChangeSpec := { name := "fnExactLeastPerDay", fn := fun _ => fun
  | [d1, d2] => { results := [.lit (.bool true)], args := [d1, d2] }
  | _ => none }
def fnExactLeastPerDayRow : OpenClaim := { program := "ytcocdigcmcpefaa", sum := "16b29d03bac933db579a92e03b1613ab84c0927084a7156445f1533ab31b46cc", func := "loop.example/g01021/laws.FnExactLeastPerDay", spec := "fnExactLeastPerDay", unfollowed := true, recurses := true, apart := false }
def FnExactLeastPerDaySaid : Prop := fnExactLeastPerDayRow.holds Try.pinned (OpenSpec.ofChange fnExactLeastPerDaySpec)

/-- ITS FALSE NEIGHBOUR: 'it returns false'. Refute it at one input. -/
def fnExactLeastPerDayWrong : ChangeSpec := { name := "fnExactLeastPerDay", fn := fun _ => fun
  | [d1, d2] => { results := [.lit (.bool false)], args := [d1, d2] }
  | _ => none }
def FnExactLeastPerDayWrongFalsely : Prop := fnExactLeastPerDayRow.holds Try.pinned (OpenSpec.ofChange fnExactLeastPerDayWrong)

/-- 'laws.FnExactBusiestDay': WHATEVER THE INPUT: true; the input reads as it did. -/
def fnExactBusiestDaySpec : ChangeSpec := { name := "fnExactBusiestDay", fn := fun _ => fun
  | [d] => { results := [.lit (.bool true)], args := [d] }
  | _ => none }
def fnExactBusiestDayRow : OpenClaim := { program := "ytcocdigcmcpefaa", sum := "16b29d03bac933db579a92e03b1613ab84c0927084a7156445f1533ab31b46cc", func := "loop.example/g01021/laws.FnExactBusiestDay", spec := "fnExactBusiestDay", unfollowed := true, recurses := true, apart := false }
def FnExactBusiestDaySaid : Prop := fnExactBusiestDayRow.holds Try.pinned (OpenSpec.ofChange fnExactBusiestDaySpec)

/-- ITS FALSE NEIGHBOUR: 'it returns false'. Refute it at one input. -/
def fnExactBusiestDayWrong : ChangeSpec := { name := "fnExactBusiestDay", fn := fun _ => fun
  | [d] => { results := [.lit (.bool false)], args := [d] }
  | _ => none }
def FnExactBusiestDayWrongFalsely : Prop := fnExactBusiestDayRow.holds Try.pinned (OpenSpec.ofChange fnExactBusiestDayWrong)

/- THE SECOND FORM. 'bulk': how many values and letters a reading holds, each counted each time it is reached (what is shared counts as often as it is met; a slice's spare places count too). A statement '..UptoSaid' is the law's where the arguments, and the package variables that the reading takes, are together of bulk at most 1048576: NARROWER than '..Said'. Prove '..Said' where nothing that the law and all that it calls make is longer than what came in: it says more and counts as full. Else prove '..UptoSaid'. A law counts once. -/
mutual
def uptoBulk {H : Type} : DataW H → Nat
  | .lit (.string bytes) => bytes.length + 1
  | .lit _ => 1
  | .nil => 1
  | .ptr d => uptoBulk d + 1
  | .slice elems spare => uptoBulkAll elems + uptoBulkAll spare + 1
  | .agg parts => uptoBulkAll parts + 1
  | .iface _ d => uptoBulk d + 1
  | .map entries => uptoBulkEntries entries + 1
  | .held _ => 1
def uptoBulkAll {H : Type} : List (DataW H) → Nat
  | [] => 0
  | d :: r => uptoBulk d + uptoBulkAll r
def uptoBulkEntries {H : Type} : List (Lit × DataW H) → Nat
  | [] => 0
  | x :: r => uptoBulkEntry x + uptoBulkEntries r
def uptoBulkEntry {H : Type} : Lit × DataW H → Nat
  | (.string bytes, d) => bytes.length + uptoBulk d + 1
  | (_, d) => uptoBulk d + 1
 end
def uptoSmall : (H : Type) → List (DataW H) → Bool := fun _ ds => decide (uptoBulkAll ds ≤ 1048576)
def OpenSpec.upto (s : _root_.Go.ChangeSpec) : _root_.Go.OpenSpec := { _root_.Go.OpenSpec.ofChange s with cond := some uptoSmall }

/-- 'laws.FnExactValidChecks', WHERE WHAT IT READS IS OF BULK AT MOST 1048576: true; the input reads as it did. -/
def fnExactValidChecksUptoRow : OpenClaim := { program := "ytcocdigcmcpefaa", sum := "16b29d03bac933db579a92e03b1613ab84c0927084a7156445f1533ab31b46cc", func := "loop.example/g01021/laws.FnExactValidChecks", spec := "fnExactValidChecks", apart := false, narrowed := true }
def FnExactValidChecksUptoSaid : Prop := fnExactValidChecksUptoRow.holds Try.pinned (OpenSpec.upto fnExactValidChecksSpec)

/-- 'laws.FnExactLatestOf', WHERE WHAT IT READS IS OF BULK AT MOST 1048576: true; the input reads as it did. -/
def fnExactLatestOfUptoRow : OpenClaim := { program := "ytcocdigcmcpefaa", sum := "16b29d03bac933db579a92e03b1613ab84c0927084a7156445f1533ab31b46cc", func := "loop.example/g01021/laws.FnExactLatestOf", spec := "fnExactLatestOf", unfollowed := true, recurses := true, apart := false, narrowed := true }
def FnExactLatestOfUptoSaid : Prop := fnExactLatestOfUptoRow.holds Try.pinned (OpenSpec.upto fnExactLatestOfSpec)

/-- 'laws.FnExactChecksDue', WHERE WHAT IT READS IS OF BULK AT MOST 1048576: true; the input reads as it did. -/
def fnExactChecksDueUptoRow : OpenClaim := { program := "ytcocdigcmcpefaa", sum := "16b29d03bac933db579a92e03b1613ab84c0927084a7156445f1533ab31b46cc", func := "loop.example/g01021/laws.FnExactChecksDue", spec := "fnExactChecksDue", apart := false, narrowed := true }
def FnExactChecksDueUptoSaid : Prop := fnExactChecksDueUptoRow.holds Try.pinned (OpenSpec.upto fnExactChecksDueSpec)

/-- 'laws.FnExactDoCheck', WHERE WHAT IT READS IS OF BULK AT MOST 1048576: true; the input reads as it did. -/
def fnExactDoCheckUptoRow : OpenClaim := { program := "ytcocdigcmcpefaa", sum := "16b29d03bac933db579a92e03b1613ab84c0927084a7156445f1533ab31b46cc", func := "loop.example/g01021/laws.FnExactDoCheck", spec := "fnExactDoCheck", unfollowed := true, recurses := true, apart := false, narrowed := true }
def FnExactDoCheckUptoSaid : Prop := fnExactDoCheckUptoRow.holds Try.pinned (OpenSpec.upto fnExactDoCheckSpec)

/-- 'laws.FnExactLeastPerDay', WHERE WHAT IT READS IS OF BULK AT MOST 1048576: true; the input reads as it did. -/
def fnExactLeastPerDayUptoRow : OpenClaim := { program := "ytcocdigcmcpefaa", sum := "16b29d03bac933db579a92e03b1613ab84c0927084a7156445f1533ab31b46cc", func := "loop.example/g01021/laws.FnExactLeastPerDay", spec := "fnExactLeastPerDay", unfollowed := true, recurses := true, apart := false, narrowed := true }
def FnExactLeastPerDayUptoSaid : Prop := fnExactLeastPerDayUptoRow.holds Try.pinned (OpenSpec.upto fnExactLeastPerDaySpec)

/-- 'laws.FnExactBusiestDay', WHERE WHAT IT READS IS OF BULK AT MOST 1048576: true; the input reads as it did. -/
def fnExactBusiestDayUptoRow : OpenClaim := { program := "ytcocdigcmcpefaa", sum := "16b29d03bac933db579a92e03b1613ab84c0927084a7156445f1533ab31b46cc", func := "loop.example/g01021/laws.FnExactBusiestDay", spec := "fnExactBusiestDay", unfollowed := true, recurses := true, apart := false, narrowed := true }
def FnExactBusiestDayUptoSaid : Prop := fnExactBusiestDayUptoRow.holds Try.pinned (OpenSpec.upto fnExactBusiestDaySpec)

end Rows
end Go.Proofs.Ytcocdigcmcpefaa
