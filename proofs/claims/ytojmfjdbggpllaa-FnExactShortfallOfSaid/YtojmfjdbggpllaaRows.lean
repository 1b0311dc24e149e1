/-
  No cell of these rows narrows 'for every input' (looked for: loops, veiled, ifaces, maps, wideKeys, modest, calm, conditions, laid).
  DERIVED. THE GIVEN ROWS OF THIS SEAT. 9 by the template 'for every input the law returns true; each argument reads behind the call as it read before'; 0 by the template 'total and deterministic' (their statements: YtojmfjdbggpllaaTotals.lean).
  GIVEN WITH THE SEED: the statements are not yours to turn. If you find one false, say at which input.
  Laid BY PROGRAM, IN A SANDBOX (cutbox-rows.mjs): the forced cells as the released guide's own fill.sh prints them over the translation 4be17c46f0a0e930… (all of the seat's roots in one cut). By AI agents, Wed Nov 11 2026. No macro, syntax, notation, axiom, sorry.
-/
import Derived.Test.YtojmfjdbggpllaaChecked
import GoSem.Claim
import GoSem.ClaimJoined
import GoSem.ClaimMapViews
import Derived.JoinedTies
import Derived.KernelRfl
namespace Go.Proofs.Ytojmfjdbggpllaa
/- THE CELL 'sum', in the pinned program and in every row, IS THE sha256 OF THE DUMP (.gsa) THAT YtojmfjdbggpllaaProg.lean LOADS. Nothing in Lean hashes anything: it is a label: what it is worth is what the hold of that sum in a sandbox is worth. -/
noncomputable def Try.pinned : Pinned := { name := "ytojmfjdbggpllaa", sum := "4be17c46f0a0e9302971a4eced3ebba3465923d3677732668f0bc12ea5b5e93e", checked := Try.checked }
namespace Rows
def none {H : Type} : Left H := { results := [], args := [] }

/-- 'laws.FnExactValidWants': WHATEVER THE INPUT: true; the input reads as it did. -/
def fnExactValidWantsSpec : ChangeSpec := { name := "fnExactValidWants", fn := fun _ => fun
  | [d1, d2] => { results := [.lit (.bool true)], args := [d1, d2] }
  | _ => none }
def fnExactValidWantsRow : OpenClaim := { program := "ytojmfjdbggpllaa", sum := "4be17c46f0a0e9302971a4eced3ebba3465923d3677732668f0bc12ea5b5e93e", func := "loop.example/g01021/laws.FnExactValidWants", spec := "fnExactValidWants", unfollowed := true, recurses := true, apart := false }
def FnExactValidWantsSaid : Prop := fnExactValidWantsRow.holds Try.pinned (OpenSpec.ofChange fnExactValidWantsSpec)

/-- ITS FALSE NEIGHBOUR: 'it returns false'. Refute it at one input. -/
def fnExactValidWantsWrong : ChangeSpec := { name := "fnExactValidWants", fn := fun _ => fun
  | [d1, d2] => { results := [.lit (.bool false)], args := [d1, d2] }
  | _ => none }
def FnExactValidWantsWrongFalsely : Prop := fnExactValidWantsRow.holds Try.pinned (OpenSpec.ofChange fnExactValidWantsWrong)

/-- 'laws.FnExactValidSources': WHATEVER THE INPUT: true; the input reads as it did. -/
def fnExactValidSourcesSpec : ChangeSpec := { name := "fnExactValidSources", fn := fun _ => fun
  | [d1, d2] => { results := [.lit (.bool true)], args := [d1, d2] }
  | _ => none }
def fnExactValidSourcesRow : OpenClaim := { program := "ytojmfjdbggpllaa", sum := "4be17c46f0a0e9302971a4eced3ebba3465923d3677732668f0bc12ea5b5e93e", func := "loop.example/g01021/laws.FnExactValidSources", spec := "fnExactValidSources", apart := false }
def FnExactValidSourcesSaid : Prop := fnExactValidSourcesRow.holds Try.pinned (OpenSpec.ofChange fnExactValidSourcesSpec)

/-- ITS FALSE NEIGHBOUR: 'it returns false'. Refute it at one input. -/
def fnExactValidSourcesWrong : ChangeSpec := { name := "fnExactValidSources", fn := fun _ => fun
  | [d1, d2] => { results := [.lit (.bool false)], args := [d1, d2] }
  | _ => none }
def FnExactValidSourcesWrongFalsely : Prop := fnExactValidSourcesRow.holds Try.pinned (OpenSpec.ofChange fnExactValidSourcesWrong)

/-- 'laws.FnExactValidJobs': WHATEVER THE INPUT: true; the input reads as it did. -/
def fnExactValidJobsSpec : ChangeSpec := { name := "fnExactValidJobs", fn := fun _ => fun
  | [d1, d2] => { results := [.lit (.bool true)], args := [d1, d2] }
  | _ => none }
def fnExactValidJobsRow : OpenClaim := { program := "ytojmfjdbggpllaa", sum := "4be17c46f0a0e9302971a4eced3ebba3465923d3677732668f0bc12ea5b5e93e", func := "loop.example/g01021/laws.FnExactValidJobs", spec := "fnExactValidJobs", apart := false }
def FnExactValidJobsSaid : Prop := fnExactValidJobsRow.holds Try.pinned (OpenSpec.ofChange fnExactValidJobsSpec)

/-- ITS FALSE NEIGHBOUR: 'it returns false'. Refute it at one input. -/
def fnExactValidJobsWrong : ChangeSpec := { name := "fnExactValidJobs", fn := fun _ => fun
  | [d1, d2] => { results := [.lit (.bool false)], args := [d1, d2] }
  | _ => none }
def FnExactValidJobsWrongFalsely : Prop := fnExactValidJobsRow.holds Try.pinned (OpenSpec.ofChange fnExactValidJobsWrong)

/-- 'laws.FnExactValidPermits': WHATEVER THE INPUT: true; the input reads as it did. -/
def fnExactValidPermitsSpec : ChangeSpec := { name := "fnExactValidPermits", fn := fun _ => fun
  | [d1, d2] => { results := [.lit (.bool true)], args := [d1, d2] }
  | _ => none }
def fnExactValidPermitsRow : OpenClaim := { program := "ytojmfjdbggpllaa", sum := "4be17c46f0a0e9302971a4eced3ebba3465923d3677732668f0bc12ea5b5e93e", func := "loop.example/g01021/laws.FnExactValidPermits", spec := "fnExactValidPermits", apart := false }
def FnExactValidPermitsSaid : Prop := fnExactValidPermitsRow.holds Try.pinned (OpenSpec.ofChange fnExactValidPermitsSpec)

/-- ITS FALSE NEIGHBOUR: 'it returns false'. Refute it at one input. -/
def fnExactValidPermitsWrong : ChangeSpec := { name := "fnExactValidPermits", fn := fun _ => fun
  | [d1, d2] => { results := [.lit (.bool false)], args := [d1, d2] }
  | _ => none }
def FnExactValidPermitsWrongFalsely : Prop := fnExactValidPermitsRow.holds Try.pinned (OpenSpec.ofChange fnExactValidPermitsWrong)

/-- 'laws.FnExactGasOf': WHATEVER THE INPUT: true; the input reads as it did. -/
def fnExactGasOfSpec : ChangeSpec := { name := "fnExactGasOf", fn := fun _ => fun
  | [d1, d2, d3] => { results := [.lit (.bool true)], args := [d1, d2, d3] }
  | _ => none }
def fnExactGasOfRow : OpenClaim := { program := "ytojmfjdbggpllaa", sum := "4be17c46f0a0e9302971a4eced3ebba3465923d3677732668f0bc12ea5b5e93e", func := "loop.example/g01021/laws.FnExactGasOf", spec := "fnExactGasOf", apart := false }
def FnExactGasOfSaid : Prop := fnExactGasOfRow.holds Try.pinned (OpenSpec.ofChange fnExactGasOfSpec)

/-- ITS FALSE NEIGHBOUR: 'it returns false'. Refute it at one input. -/
def fnExactGasOfWrong : ChangeSpec := { name := "fnExactGasOf", fn := fun _ => fun
  | [d1, d2, d3] => { results := [.lit (.bool false)], args := [d1, d2, d3] }
  | _ => none }
def FnExactGasOfWrongFalsely : Prop := fnExactGasOfRow.holds Try.pinned (OpenSpec.ofChange fnExactGasOfWrong)

/-- 'laws.FnExactPeopleIn': WHATEVER THE INPUT: true; the input reads as it did. -/
def fnExactPeopleInSpec : ChangeSpec := { name := "fnExactPeopleIn", fn := fun _ => fun
  | [d1, d2, d3] => { results := [.lit (.bool true)], args := [d1, d2, d3] }
  | _ => none }
def fnExactPeopleInRow : OpenClaim := { program := "ytojmfjdbggpllaa", sum := "4be17c46f0a0e9302971a4eced3ebba3465923d3677732668f0bc12ea5b5e93e", func := "loop.example/g01021/laws.FnExactPeopleIn", spec := "fnExactPeopleIn", unfollowed := true, recurses := true, apart := false }
def FnExactPeopleInSaid : Prop := fnExactPeopleInRow.holds Try.pinned (OpenSpec.ofChange fnExactPeopleInSpec)

/-- ITS FALSE NEIGHBOUR: 'it returns false'. Refute it at one input. -/
def fnExactPeopleInWrong : ChangeSpec := { name := "fnExactPeopleIn", fn := fun _ => fun
  | [d1, d2, d3] => { results := [.lit (.bool false)], args := [d1, d2, d3] }
  | _ => none }
def FnExactPeopleInWrongFalsely : Prop := fnExactPeopleInRow.holds Try.pinned (OpenSpec.ofChange fnExactPeopleInWrong)

/-- 'laws.FnExactShortfallOf': WHATEVER THE INPUT: true; the input reads as it did. -/
def fnExactShortfallOfSpec : ChangeSpec := { name := "fnExactShortfallOf", fn := fun _ => fun
  | [d1, d2, d3] => { results := [.lit (.bool true)], args := [d1, d2, d3] }
  | _ => none }
def fnExactShortfallOfRow : OpenClaim := { program := "ytojmfjdbggpllaa", sum := "4be17c46f0a0e9302971a4eced3ebba3465923d3677732668f0bc12ea5b5e93e", func := "loop.example/g01021/laws.FnExactShortfallOf", spec := "fnExactShortfallOf", unfollowed := true, recurses := true, apart := false }
def FnExactShortfallOfSaid : Prop := fnExactShortfallOfRow.holds Try.pinned (OpenSpec.ofChange fnExactShortfallOfSpec)

/-- ITS FALSE NEIGHBOUR: 'it returns false'. Refute it at one input. -/
def fnExactShortfallOfWrong : ChangeSpec := { name := "fnExactShortfallOf", fn := fun _ => fun
  | [d1, d2, d3] => { results := [.lit (.bool false)], args := [d1, d2, d3] }
  | _ => none }
def FnExactShortfallOfWrongFalsely : Prop := fnExactShortfallOfRow.holds Try.pinned (OpenSpec.ofChange fnExactShortfallOfWrong)

/-- 'laws.FnExactAirNeeds': WHATEVER THE INPUT: true; the input reads as it did. -/
def fnExactAirNeedsSpec : ChangeSpec := { name := "fnExactAirNeeds", fn := fun _ => fun
  | [d1, d2] => { results := [.lit (.bool true)], args := [d1, d2] }
  | _ => none }
def fnExactAirNeedsRow : OpenClaim := { program := "ytojmfjdbggpllaa", sum := "4be17c46f0a0e9302971a4eced3ebba3465923d3677732668f0bc12ea5b5e93e", func := "loop.example/g01021/laws.FnExactAirNeeds", spec := "fnExactAirNeeds", apart := false }
def FnExactAirNeedsSaid : Prop := fnExactAirNeedsRow.holds Try.pinned (OpenSpec.ofChange fnExactAirNeedsSpec)

/-- ITS FALSE NEIGHBOUR: 'it returns false'. Refute it at one input. -/
def fnExactAirNeedsWrong : ChangeSpec := { name := "fnExactAirNeeds", fn := fun _ => fun
  | [d1, d2] => { results := [.lit (.bool false)], args := [d1, d2] }
  | _ => none }
def FnExactAirNeedsWrongFalsely : Prop := fnExactAirNeedsRow.holds Try.pinned (OpenSpec.ofChange fnExactAirNeedsWrong)

/-- 'laws.FnExactPermitsAt': WHATEVER THE INPUT: true; the input reads as it did. -/
def fnExactPermitsAtSpec : ChangeSpec := { name := "fnExactPermitsAt", fn := fun _ => fun
  | [d1, d2, d3] => { results := [.lit (.bool true)], args := [d1, d2, d3] }
  | _ => none }
def fnExactPermitsAtRow : OpenClaim := { program := "ytojmfjdbggpllaa", sum := "4be17c46f0a0e9302971a4eced3ebba3465923d3677732668f0bc12ea5b5e93e", func := "loop.example/g01021/laws.FnExactPermitsAt", spec := "fnExactPermitsAt", apart := false }
def FnExactPermitsAtSaid : Prop := fnExactPermitsAtRow.holds Try.pinned (OpenSpec.ofChange fnExactPermitsAtSpec)

/-- ITS FALSE NEIGHBOUR: 'it returns false'. Refute it at one input. -/
def fnExactPermitsAtWrong : ChangeSpec := { name := "fnExactPermitsAt", fn := fun _ => fun
  | [d1, d2, d3] => { results := [.lit (.bool false)], args := [d1, d2, d3] }
  | _ => none }
def FnExactPermitsAtWrongFalsely : Prop := fnExactPermitsAtRow.holds Try.pinned (OpenSpec.ofChange fnExactPermitsAtWrong)

/- THE SECOND FORM. 'bulk': how many values and letters a reading holds, each counted each time it is reached (what is shared counts as often as it is met; a slice's spare places count too). A statement '..UptoSaid' is the law's where the arguments, and the package variables that the reading takes, are together of bulk at most 1048576: NARROWER than '..Said'. Prove '..Said' where nothing that the law and all that it calls make is longer than what came in: it says more and counts as full. Else prove '..UptoSaid'. A law counts once. -/
mutual
def uptoBulk {H : Type} : DataW H → Nat
  | .lit (.string bytes) => bytes.length + 1
  | .lit _ => 1
  | .nil => 1
  | .ptr d => uptoBulk d + 1
  | .slice elems spare => uptoBulkAll elems + uptoBulkAll spare + 1
  | .agg parts => uptoBulkAll parts + 1
  | .iface _ d => uptoBulk d + 1
  | .map entries => uptoBulkEntries entries + 1
  | .held _ => 1
def uptoBulkAll {H : Type} : List (DataW H) → Nat
  | [] => 0
  | d :: r => uptoBulk d + uptoBulkAll r
def uptoBulkEntries {H : Type} : List (Lit × DataW H) → Nat
  | [] => 0
  | x :: r => uptoBulkEntry x + uptoBulkEntries r
def uptoBulkEntry {H : Type} : Lit × DataW H → Nat
  | (.string bytes, d) => bytes.length + uptoBulk d + 1
  | (_, d) => uptoBulk d + 1
 end
def uptoSmall : (H : Type) → List (DataW H) → Bool := fun _ ds => decide (uptoBulkAll ds ≤ 1048576)
def OpenSpec.upto (s : _root_.Go.ChangeSpec) : _root_.Go.OpenSpec := { _root_.Go.OpenSpec.ofChange s with cond := some uptoSmall }

/-- 'laws.FnExactValidWants', WHERE WHAT IT READS IS OF BULK AT MOST 1048576: true; the input reads as it did. -/
def fnExactValidWantsUptoRow : OpenClaim := { program := "ytojmfjdbggpllaa", sum := "4be17c46f0a0e9302971a4eced3ebba3465923d3677732668f0bc12ea5b5e93e", func := "loop.example/g01021/laws.FnExactValidWants", spec := "fnExactValidWants", unfollowed := true, recurses := true, apart := false, narrowed := true }
def FnExactValidWantsUptoSaid : Prop := fnExactValidWantsUptoRow.holds Try.pinned (OpenSpec.upto fnExactValidWantsSpec)

/-- 'laws.FnExactValidSources', WHERE WHAT IT READS IS OF BULK AT MOST 1048576: true; the input reads as it did. -/
def fnExactValidSourcesUptoRow : OpenClaim := { program := "ytojmfjdbggpllaa", sum := "4be17c46f0a0e9302971a4eced3ebba3465923d3677732668f0bc12ea5b5e93e", func := "loop.example/g01021/laws.FnExactValidSources", spec := "fnExactValidSources", apart := false, narrowed := true }
def FnExactValidSourcesUptoSaid : Prop := fnExactValidSourcesUptoRow.holds Try.pinned (OpenSpec.upto fnExactValidSourcesSpec)

/-- 'laws.FnExactValidJobs', WHERE WHAT IT READS IS OF BULK AT MOST 1048576: true; the input reads as it did. -/
def fnExactValidJobsUptoRow : OpenClaim := { program := "ytojmfjdbggpllaa", sum := "4be17c46f0a0e9302971a4eced3ebba3465923d3677732668f0bc12ea5b5e93e", func := "loop.example/g01021/laws.FnExactValidJobs", spec := "fnExactValidJobs", apart := false, narrowed := true }
def FnExactValidJobsUptoSaid : Prop := fnExactValidJobsUptoRow.holds Try.pinned (OpenSpec.upto fnExactValidJobsSpec)

/-- 'laws.FnExactValidPermits', WHERE WHAT IT READS IS OF BULK AT MOST 1048576: true; the input reads as it did. -/
def fnExactValidPermitsUptoRow : OpenClaim := { program := "ytojmfjdbggpllaa", sum := "4be17c46f0a0e9302971a4eced3ebba3465923d3677732668f0bc12ea5b5e93e", func := "loop.example/g01021/laws.FnExactValidPermits", spec := "fnExactValidPermits", apart := false, narrowed := true }
def FnExactValidPermitsUptoSaid : Prop := fnExactValidPermitsUptoRow.holds Try.pinned (OpenSpec.upto fnExactValidPermitsSpec)

/-- 'laws.FnExactGasOf', WHERE WHAT IT READS IS OF BULK AT MOST 1048576: true; the input reads as it did. -/
def fnExactGasOfUptoRow : OpenClaim := { program := "ytojmfjdbggpllaa", sum := "4be17c46f0a0e9302971a4eced3ebba3465923d3677732668f0bc12ea5b5e93e", func := "loop.example/g01021/laws.FnExactGasOf", spec := "fnExactGasOf", apart := false, narrowed := true }
def FnExactGasOfUptoSaid : Prop := fnExactGasOfUptoRow.holds Try.pinned (OpenSpec.upto fnExactGasOfSpec)

/-- 'laws.FnExactPeopleIn', WHERE WHAT IT READS IS OF BULK AT MOST 1048576: true; the input reads as it did. -/
def fnExactPeopleInUptoRow : OpenClaim := { program := "ytojmfjdbggpllaa", sum := "4be17c46f0a0e9302971a4eced3ebba3465923d3677732668f0bc12ea5b5e93e", func := "loop.example/g01021/laws.FnExactPeopleIn", spec := "fnExactPeopleIn", unfollowed := true, recurses := true, apart := false, narrowed := true }
def FnExactPeopleInUptoSaid : Prop := fnExactPeopleInUptoRow.holds Try.pinned (OpenSpec.upto fnExactPeopleInSpec)

/-- 'laws.FnExactShortfallOf', WHERE WHAT IT READS IS OF BULK AT MOST 1048576: true; the input reads as it did. -/
def fnExactShortfallOfUptoRow : OpenClaim := { program := "ytojmfjdbggpllaa", sum := "4be17c46f0a0e9302971a4eced3ebba3465923d3677732668f0bc12ea5b5e93e", func := "loop.example/g01021/laws.FnExactShortfallOf", spec := "fnExactShortfallOf", unfollowed := true, recurses := true, apart := false, narrowed := true }
def FnExactShortfallOfUptoSaid : Prop := fnExactShortfallOfUptoRow.holds Try.pinned (OpenSpec.upto fnExactShortfallOfSpec)

/-- 'laws.FnExactAirNeeds', WHERE WHAT IT READS IS OF BULK AT MOST 1048576: true; the input reads as it did. -/
def fnExactAirNeedsUptoRow : OpenClaim := { program := "ytojmfjdbggpllaa", sum := "4be17c46f0a0e9302971a4eced3ebba3465923d3677732668f0bc12ea5b5e93e", func := "loop.example/g01021/laws.FnExactAirNeeds", spec := "fnExactAirNeeds", apart := false, narrowed := true }
def FnExactAirNeedsUptoSaid : Prop := fnExactAirNeedsUptoRow.holds Try.pinned (OpenSpec.upto fnExactAirNeedsSpec)

/-- 'laws.FnExactPermitsAt', WHERE WHAT IT READS IS OF BULK AT MOST 1048576: true; the input reads as it did. -/
def fnExactPermitsAtUptoRow : OpenClaim := { program := "ytojmfjdbggpllaa", sum := "4be17c46f0a0e9302971a4eced3ebba3465923d3677732668f0bc12ea5b5e93e", func := "loop.example/g01021/laws.FnExactPermitsAt", spec := "fnExactPermitsAt", apart := false, narrowed := true }
def FnExactPermitsAtUptoSaid : Prop := fnExactPermitsAtUptoRow.holds Try.pinned (OpenSpec.upto fnExactPermitsAtSpec)

end Rows
end Go.Proofs.Ytojmfjdbggpllaa
