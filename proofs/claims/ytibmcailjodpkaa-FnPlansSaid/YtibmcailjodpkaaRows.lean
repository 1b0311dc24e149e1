/-
  No cell of these rows narrows 'for every input' (looked for: loops, veiled, ifaces, maps, wideKeys, modest, calm, conditions, laid).
  DERIVED. THE GIVEN ROWS OF THIS SEAT. 8 by the template 'for every input the law returns true; each argument reads behind the call as it read before'; 0 by the template 'total and deterministic' (their statements: YtibmcailjodpkaaTotals.lean).
  GIVEN WITH THE SEED: the statements are not yours to turn. If you find one false, say at which input.
  Laid BY PROGRAM, IN A SANDBOX (cutbox-rows.mjs): the forced cells as the released guide's own fill.sh prints them over the translation e93316b8d48ee7a4… (all of the seat's roots in one cut). By AI agents, Wed Nov 11 2026. No macro, syntax, notation, axiom, sorry.
-/
import Derived.Test.YtibmcailjodpkaaChecked
import GoSem.Claim
import GoSem.ClaimJoined
import GoSem.ClaimMapViews
import Derived.JoinedTies
import Derived.KernelRfl
namespace Go.Proofs.Ytibmcailjodpkaa
/- THE CELL 'sum', in the pinned program and in every row, IS THE sha256 OF THE DUMP (.gsa) THAT YtibmcailjodpkaaProg.lean LOADS. Nothing in Lean hashes anything: it is a label: what it is worth is what the hold of that sum in a sandbox is worth. -/
noncomputable def Try.pinned : Pinned := { name := "ytibmcailjodpkaa", sum := "e93316b8d48ee7a4079ef9c7ce738d7e82f6cd343ad71b30ff2e6c1d777c2b01", checked := Try.checked }
namespace Rows
def none {H : Type} : Left H := { results := [], args := [] }

/-- 'laws.FnExactValidDrills': WHATEVER THE INPUT: true; the input reads as it did. -/
def fnExactValidDrillsSpec : ChangeSpec := { name := "fnExactValidDrills", fn := fun _ => fun
  | [d] => { results := [.lit (.bool true)], args := [d] }
  | _ => none }
def fnExactValidDrillsRow : OpenClaim := { program := "ytibmcailjodpkaa", sum := "e93316b8d48ee7a4079ef9c7ce738d7e82f6cd343ad71b30ff2e6c1d777c2b01", func := "loop.example/g01021/laws.FnExactValidDrills", spec := "fnExactValidDrills", apart := false }
def FnExactValidDrillsSaid : Prop := fnExactValidDrillsRow.holds Try.pinned (OpenSpec.ofChange fnExactValidDrillsSpec)

/-- ITS FALSE NEIGHBOUR: 'it returns false'. Refute it at one input. -/
def fnExactValidDrillsWrong : ChangeSpec := { name := "fnExactValidDrills", fn := fun _ => fun
  | [d] => { results := [.lit (.bool false)], args := [d] }
  | _ => none }
def FnExactValidDrillsWrongFalsely : Prop := fnExactValidDrillsRow.holds Try.pinned (OpenSpec.ofChange fnExactValidDrillsWrong)

/-- 'laws.FnExactLastDrill': WHATEVER THE INPUT: true; the input reads as it did. -/
def fnExactLastDrillSpec : ChangeSpec := { name := "fnExactLastDrill", fn := fun _ => fun
  | [d1, d2] => { results := [.lit (.bool true)], args := [d1, d2] }
  | _ => none }
def fnExactLastDrillRow : OpenClaim := { program := "ytibmcailjodpkaa", sum := "e93316b8d48ee7a4079ef9c7ce738d7e82f6cd343ad71b30ff2e6c1d777c2b01", func := "loop.example/g01021/laws.FnExactLastDrill", spec := "fnExactLastDrill", apart := false }
def FnExactLastDrillSaid : Prop := fnExactLastDrillRow.holds Try.pinned (OpenSpec.ofChange fnExactLastDrillSpec)

/-- ITS FALSE NEIGHBOUR: 'it returns false'. Refute it at one input. -/
def fnExactLastDrillWrong : ChangeSpec := { name := "fnExactLastDrill", fn := fun _ => fun
  | [d1, d2] => { results := [.lit (.bool false)], args := [d1, d2] }
  | _ => none }
def FnExactLastDrillWrongFalsely : Prop := fnExactLastDrillRow.holds Try.pinned (OpenSpec.ofChange fnExactLastDrillWrong)

/-- 'laws.FnExactImprovementOf': WHATEVER THE INPUT: true; the input reads as it did. -/
def fnExactImprovementOfSpec : ChangeSpec := { name := "fnExactImprovementOf", fn := fun _ => fun
  | [d1, d2] => { results := [.lit (.bool true)], args := [d1, d2] }
  | _ => none }
def fnExactImprovementOfRow : OpenClaim := { program := "ytibmcailjodpkaa", sum := "e93316b8d48ee7a4079ef9c7ce738d7e82f6cd343ad71b30ff2e6c1d777c2b01", func := "loop.example/g01021/laws.FnExactImprovementOf", spec := "fnExactImprovementOf", apart := false }
def FnExactImprovementOfSaid : Prop := fnExactImprovementOfRow.holds Try.pinned (OpenSpec.ofChange fnExactImprovementOfSpec)

/-- ITS FALSE NEIGHBOUR: 'it returns false'. Refute it at one input. -/
def fnExactImprovementOfWrong : ChangeSpec := { name := "fnExactImprovementOf", fn := fun _ => fun
  | [d1, d2] => { results := [.lit (.bool false)], args := [d1, d2] }
  | _ => none }
def FnExactImprovementOfWrongFalsely : Prop := fnExactImprovementOfRow.holds Try.pinned (OpenSpec.ofChange fnExactImprovementOfWrong)

/-- 'laws.FnExactFailedDrills': WHATEVER THE INPUT: true; the input reads as it did. -/
def fnExactFailedDrillsSpec : ChangeSpec := { name := "fnExactFailedDrills", fn := fun _ => fun
  | [d1, d2] => { results := [.lit (.bool true)], args := [d1, d2] }
  | _ => none }
def fnExactFailedDrillsRow : OpenClaim := { program := "ytibmcailjodpkaa", sum := "e93316b8d48ee7a4079ef9c7ce738d7e82f6cd343ad71b30ff2e6c1d777c2b01", func := "loop.example/g01021/laws.FnExactFailedDrills", spec := "fnExactFailedDrills", apart := false }
def FnExactFailedDrillsSaid : Prop := fnExactFailedDrillsRow.holds Try.pinned (OpenSpec.ofChange fnExactFailedDrillsSpec)

/-- ITS FALSE NEIGHBOUR: 'it returns false'. Refute it at one input. -/
def fnExactFailedDrillsWrong : ChangeSpec := { name := "fnExactFailedDrills", fn := fun _ => fun
  | [d1, d2] => { results := [.lit (.bool false)], args := [d1, d2] }
  | _ => none }
def FnExactFailedDrillsWrongFalsely : Prop := fnExactFailedDrillsRow.holds Try.pinned (OpenSpec.ofChange fnExactFailedDrillsWrong)

/-- 'laws.FnExactDrillsDue': WHATEVER THE INPUT: true; the input reads as it did. -/
def fnExactDrillsDueSpec : ChangeSpec := { name := "fnExactDrillsDue", fn := fun _ => fun
  | [d1, d2, d3, d4] => { results := [.lit (.bool true)], args := [d1, d2, d3, d4] }
  | _ => none }
def fnExactDrillsDueRow : OpenClaim := { program := "ytibmcailjodpkaa", sum := "e93316b8d48ee7a4079ef9c7ce738d7e82f6cd343ad71b30ff2e6c1d777c2b01", func := "loop.example/g01021/laws.FnExactDrillsDue", spec := "fnExactDrillsDue", unfollowed := true, recurses := true, apart := false }
def FnExactDrillsDueSaid : Prop := fnExactDrillsDueRow.holds Try.pinned (OpenSpec.ofChange fnExactDrillsDueSpec)

/-- ITS FALSE NEIGHBOUR: 'it returns false'. Refute it at one input. -/
def fnExactDrillsDueWrong : ChangeSpec := { name := "fnExactDrillsDue", fn := fun _ => fun
  | [d1, d2, d3, d4] => { results := [.lit (.bool false)], args := [d1, d2, d3, d4] }
  | _ => none }
def FnExactDrillsDueWrongFalsely : Prop := fnExactDrillsDueRow.holds Try.pinned (OpenSpec.ofChange fnExactDrillsDueWrong)

/-- 'laws.FnExactPlanDrills': WHATEVER THE INPUT: true; the input reads as it did. -/
def fnExactPlanDrillsSpec : ChangeSpec := { name := "fnExactPlanDrills", fn := fun _ => fun
  | [d1, d2, d3, d4] => { results := [.lit (.bool true)], args := [d1, d2, d3, d4] }
  | _ => none }
def fnExactPlanDrillsRow : OpenClaim := { program := "ytibmcailjodpkaa", sum := "e93316b8d48ee7a4079ef9c7ce738d7e82f6cd343ad71b30ff2e6c1d777c2b01", func := "loop.example/g01021/laws.FnExactPlanDrills", spec := "fnExactPlanDrills", unfollowed := true, recurses := true, apart := false }
def FnExactPlanDrillsSaid : Prop := fnExactPlanDrillsRow.holds Try.pinned (OpenSpec.ofChange fnExactPlanDrillsSpec)

/-- ITS FALSE NEIGHBOUR: 'it returns false'. Refute it at one input. -/
def fnExactPlanDrillsWrong : ChangeSpec := { name := "fnExactPlanDrills", fn := fun _ => fun
  | [d1, d2, d3, d4] => { results := [.lit (.bool false)], args := [d1, d2, d3, d4] }
  | _ => none }
def FnExactPlanDrillsWrongFalsely : Prop := fnExactPlanDrillsRow.holds Try.pinned (OpenSpec.ofChange fnExactPlanDrillsWrong)

/-- 'laws.FnExactAddDrill': WHATEVER THE INPUT: true; the input reads as it did. -/
def fnExactAddDrillSpec : ChangeSpec := { name := "fnExactAddDrill", fn := fun _ => fun
  | [d1, d2] => { results := [.lit (.bool true)], args := [d1, d2] }
  | _ => none }
def fnExactAddDrillRow : OpenClaim := { program := "ytibmcailjodpkaa", sum := "e93316b8d48ee7a4079ef9c7ce738d7e82f6cd343ad71b30ff2e6c1d777c2b01", func := "loop.example/g01021/laws.FnExactAddDrill", spec := "fnExactAddDrill", inPlace := ["slices.overlaps[loop.example/g01021/impl.Drill]"], unfollowed := true, recurses := true, apart := false }
def FnExactAddDrillSaid : Prop := fnExactAddDrillRow.holds Try.pinned (OpenSpec.ofChange fnExactAddDrillSpec)

/-- ITS FALSE NEIGHBOUR: 'it returns false'. Refute it at one input. -/
def fnExactAddDrillWrong : ChangeSpec := { name := "fnExactAddDrill", fn := fun _ => fun
  | [d1, d2] => { results := [.lit (.bool false)], args := [d1, d2] }
  | _ => none }
def FnExactAddDrillWrongFalsely : Prop := fnExactAddDrillRow.holds Try.pinned (OpenSpec.ofChange fnExactAddDrillWrong)

/-- 'laws.FnPlans': WHATEVER THE INPUT: true; the input reads as it did. -/
def fnPlansSpec : ChangeSpec := { name := "fnPlans", fn := fun _ => fun
  | [d] => { results := [.lit (.bool true)], args := [d] }
  | _ => none }
def fnPlansRow : OpenClaim := { program := "ytibmcailjodpkaa", sum := "e93316b8d48ee7a4079ef9c7ce738d7e82f6cd343ad71b30ff2e6c1d777c2b01", func := "loop.example/g01021/laws.FnPlans", spec := "fnPlans", unfollowed := true, recurses := true, apart := false }
def FnPlansSaid : Prop := fnPlansRow.holds Try.pinned (OpenSpec.ofChange fnPlansSpec)

/-- ITS FALSE NEIGHBOUR: 'it returns false'. Refute it at one input. -/
def fnPlansWrong : ChangeSpec := { name := "fnPlans", fn := fun _ => fun
  | [d] => { results := [.lit (.bool false)], args := [d] }
  | _ => none }
def FnPlansWrongFalsely : Prop := fnPlansRow.holds Try.pinned (OpenSpec.ofChange fnPlansWrong)

/- THE SECOND FORM. 'bulk': how many values and letters a reading holds, each counted each time it is reached (what is shared counts as often as it is met; a slice's spare places count too). A statement '..UptoSaid' is the law's where the arguments, and the package variables that the reading takes, are together of bulk at most 1048576: NARROWER than '..Said'. Prove '..Said' where nothing that the law and all that it calls make is longer than what came in: it says more and counts as full. Else prove '..UptoSaid'. A law counts once. -/
mutual
def uptoBulk {H : Type} : DataW H → Nat
  | .lit (.string bytes) => bytes.length + 1
  | .lit _ => 1
  | .nil => 1
  | .ptr d => uptoBulk d + 1
  | .slice elems spare => uptoBulkAll elems + uptoBulkAll spare + 1
  | .agg parts => uptoBulkAll parts + 1
  | .iface _ d => uptoBulk d + 1
  | .map entries => uptoBulkEntries entries + 1
  | .held _ => 1
def uptoBulkAll {H : Type} : List (DataW H) → Nat
  | [] => 0
  | d :: r => uptoBulk d + uptoBulkAll r
def uptoBulkEntries {H : Type} : List (Lit × DataW H) → Nat
  | [] => 0
  | x :: r => uptoBulkEntry x + uptoBulkEntries r
def uptoBulkEntry {H : Type} : Lit × DataW H → Nat
  | (.string bytes, d) => bytes.length + uptoBulk d + 1
  | (_, d) => uptoBulk d + 1
 end
def uptoSmall : (H : Type) → List (DataW H) → Bool := fun _ ds => decide (uptoBulkAll ds ≤ 1048576)
def OpenSpec.upto (s : _root_.Go.ChangeSpec) : _root_.Go.OpenSpec := { _root_.Go.OpenSpec.ofChange s with cond := some uptoSmall }

/-- 'laws.FnExactValidDrills', WHERE WHAT IT READS IS OF BULK AT MOST 1048576: true; the input reads as it did. -/
def fnExactValidDrillsUptoRow : OpenClaim := { program := "ytibmcailjodpkaa", sum := "e93316b8d48ee7a4079ef9c7ce738d7e82f6cd343ad71b30ff2e6c1d777c2b01", func := "loop.example/g01021/laws.FnExactValidDrills", spec := "fnExactValidDrills", apart := false, narrowed := true }
def FnExactValidDrillsUptoSaid : Prop := fnExactValidDrillsUptoRow.holds Try.pinned (OpenSpec.upto fnExactValidDrillsSpec)

/-- 'laws.FnExactLastDrill', WHERE WHAT IT READS IS OF BULK AT MOST 1048576: true; the input reads as it did. -/
def fnExactLastDrillUptoRow : OpenClaim := { program := "ytibmcailjodpkaa", sum := "e93316b8d48ee7a4079ef9c7ce738d7e82f6cd343ad71b30ff2e6c1d777c2b01", func := "loop.example/g01021/laws.FnExactLastDrill", spec := "fnExactLastDrill", apart := false, narrowed := true }
def FnExactLastDrillUptoSaid : Prop := fnExactLastDrillUptoRow.holds Try.pinned (OpenSpec.upto fnExactLastDrillSpec)

/-- 'laws.FnExactImprovementOf', WHERE WHAT IT READS IS OF BULK AT MOST 1048576: true; the input reads as it did. -/
def fnExactImprovementOfUptoRow : OpenClaim := { program := "ytibmcailjodpkaa", sum := "e93316b8d48ee7a4079ef9c7ce738d7e82f6cd343ad71b30ff2e6c1d777c2b01", func := "loop.example/g01021/laws.FnExactImprovementOf", spec := "fnExactImprovementOf", apart := false, narrowed := true }
def FnExactImprovementOfUptoSaid : Prop := fnExactImprovementOfUptoRow.holds Try.pinned (OpenSpec.upto fnExactImprovementOfSpec)

/-- 'laws.FnExactFailedDrills', WHERE WHAT IT READS IS OF BULK AT MOST 1048576: true; the input reads as it did. -/
def fnExactFailedDrillsUptoRow : OpenClaim := { program := "ytibmcailjodpkaa", sum := "e93316b8d48ee7a4079ef9c7ce738d7e82f6cd343ad71b30ff2e6c1d777c2b01", func := "loop.example/g01021/laws.FnExactFailedDrills", spec := "fnExactFailedDrills", apart := false, narrowed := true }
def FnExactFailedDrillsUptoSaid : Prop := fnExactFailedDrillsUptoRow.holds Try.pinned (OpenSpec.upto fnExactFailedDrillsSpec)

/-- 'laws.FnExactDrillsDue', WHERE WHAT IT READS IS OF BULK AT MOST 1048576: true; the input reads as it did. -/
def fnExactDrillsDueUptoRow : OpenClaim := { program := "ytibmcailjodpkaa", sum := "e93316b8d48ee7a4079ef9c7ce738d7e82f6cd343ad71b30ff2e6c1d777c2b01", func := "loop.example/g01021/laws.FnExactDrillsDue", spec := "fnExactDrillsDue", unfollowed := true, recurses := true, apart := false, narrowed := true }
def FnExactDrillsDueUptoSaid : Prop := fnExactDrillsDueUptoRow.holds Try.pinned (OpenSpec.upto fnExactDrillsDueSpec)

/-- 'laws.FnExactPlanDrills', WHERE WHAT IT READS IS OF BULK AT MOST 1048576: true; the input reads as it did. -/
def fnExactPlanDrillsUptoRow : OpenClaim := { program := "ytibmcailjodpkaa", sum := "e93316b8d48ee7a4079ef9c7ce738d7e82f6cd343ad71b30ff2e6c1d777c2b01", func := "loop.example/g01021/laws.FnExactPlanDrills", spec := "fnExactPlanDrills", unfollowed := true, recurses := true, apart := false, narrowed := true }
def FnExactPlanDrillsUptoSaid : Prop := fnExactPlanDrillsUptoRow.holds Try.pinned (OpenSpec.upto fnExactPlanDrillsSpec)

/-- 'laws.FnExactAddDrill', WHERE WHAT IT READS IS OF BULK AT MOST 1048576: true; the input reads as it did. -/
def fnExactAddDrillUptoRow : OpenClaim := { program := "ytibmcailjodpkaa", sum := "e93316b8d48ee7a4079ef9c7ce738d7e82f6cd343ad71b30ff2e6c1d777c2b01", func := "loop.example/g01021/laws.FnExactAddDrill", spec := "fnExactAddDrill", inPlace := ["slices.overlaps[loop.example/g01021/impl.Drill]"], unfollowed := true, recurses := true, apart := false, narrowed := true }
def FnExactAddDrillUptoSaid : Prop := fnExactAddDrillUptoRow.holds Try.pinned (OpenSpec.upto fnExactAddDrillSpec)

/-- 'laws.FnPlans', WHERE WHAT IT READS IS OF BULK AT MOST 1048576: true; the input reads as it did. -/
def fnPlansUptoRow : OpenClaim := { program := "ytibmcailjodpkaa", sum := "e93316b8d48ee7a4079ef9c7ce738d7e82f6cd343ad71b30ff2e6c1d777c2b01", func := "loop.example/g01021/laws.FnPlans", spec := "fnPlans", unfollowed := true, recurses := true, apart := false, narrowed := true }
def FnPlansUptoSaid : Prop := fnPlansUptoRow.holds Try.pinned (OpenSpec.upto fnPlansSpec)

end Rows
end Go.Proofs.Ytibmcailjodpkaa
