/-
  No cell of these rows narrows 'for every input' (looked for: loops, veiled, ifaces, maps, wideKeys, modest, calm, conditions, laid).
  DERIVED. THE GIVEN ROWS OF THIS SEAT. 6 by the template 'for every input the law returns true; each argument reads behind the call as it read before'; 0 by the template 'total and deterministic' (their statements: YtnbkbbjpnfhabaaTotals.lean).
  GIVEN WITH THE SEED: the statements are not yours to turn. If you find one false, say at which input.
  Laid BY PROGRAM, IN A SANDBOX (cutbox-rows.mjs): the forced cells as the released guide's own fill.sh prints them over the translation 26cad04bcb56aacc… (all of the seat's roots in one cut). By AI agents, Wed Nov 11 2026. No macro, syntax, notation, axiom, sorry.
-/
import Derived.Test.YtnbkbbjpnfhabaaChecked
import GoSem.Claim
import GoSem.ClaimJoined
import GoSem.ClaimMapViews
import Derived.JoinedTies
import Derived.KernelRfl
namespace Go.Proofs.Ytnbkbbjpnfhabaa
/- THE CELL 'sum', in the pinned program and in every row, IS THE sha256 OF THE DUMP (.gsa) THAT YtnbkbbjpnfhabaaProg.lean LOADS. Nothing in Lean hashes anything: it is a label: what it is worth is what the hold of that sum in a sandbox is worth. -/
noncomputable def Try.pinned : Pinned := { name := "ytnbkbbjpnfhabaa", sum := "26cad04bcb56aacc36ced0c571a05212dd017a23cea707a90e884cc140f43a1e", checked := Try.checked }
namespace Rows
def none {H : Type} : Left H := { results := [], args := [] }

/-- 'laws.FnExactKindName': WHATEVER THE INPUT: true; the input reads as it did. -/
def fnExactKindNameSpec : ChangeSpec := { name := "fnExactKindName", fn := fun _ => fun
  | [d] => { results := [.lit (.bool true)], args := [d] }
  | _ => none }
def fnExactKindNameRow : OpenClaim := { program := "ytnbkbbjpnfhabaa", sum := "26cad04bcb56aacc36ced0c571a05212dd017a23cea707a90e884cc140f43a1e", func := "loop.example/g01021/laws.FnExactKindName", spec := "fnExactKindName", apart := false }
def FnExactKindNameSaid : Prop := fnExactKindNameRow.holds Try.pinned (OpenSpec.ofChange fnExactKindNameSpec)

/-- ITS FALSE NEIGHBOUR: 'it returns false'. Refute it at one input. -/
def fnExactKindNameWrong : ChangeSpec := { name := "fnExactKindName", fn := fun _ => fun
  | [d] => { results := [.lit (.bool false)], args := [d] }
  | _ => none }
def FnExactKindNameWrongFalsely : Prop := fnExactKindNameRow.holds Try.pinned (OpenSpec.ofChange fnExactKindNameWrong)

/-- 'laws.FnExactKindsClash': WHATEVER THE INPUT: true; the input reads as it did. -/
def fnExactKindsClashSpec : ChangeSpec := { name := "fnExactKindsClash", fn := fun _ => fun
  | [d1, d2, d3] => { results := [.lit (.bool true)], args := [d1, d2, d3] }
  | _ => none }
def fnExactKindsClashRow : OpenClaim := { program := "ytnbkbbjpnfhabaa", sum := "26cad04bcb56aacc36ced0c571a05212dd017a23cea707a90e884cc140f43a1e", func := "loop.example/g01021/laws.FnExactKindsClash", spec := "fnExactKindsClash", apart := false }
def FnExactKindsClashSaid : Prop := fnExactKindsClashRow.holds Try.pinned (OpenSpec.ofChange fnExactKindsClashSpec)

/-- ITS FALSE NEIGHBOUR: 'it returns false'. Refute it at one input. -/
def fnExactKindsClashWrong : ChangeSpec := { name := "fnExactKindsClash", fn := fun _ => fun
  | [d1, d2, d3] => { results := [.lit (.bool false)], args := [d1, d2, d3] }
  | _ => none }
def FnExactKindsClashWrongFalsely : Prop := fnExactKindsClashRow.holds Try.pinned (OpenSpec.ofChange fnExactKindsClashWrong)

/-- 'laws.FnExactNeedOf': WHATEVER THE INPUT: true; the input reads as it did. -/
def fnExactNeedOfSpec : ChangeSpec := { name := "fnExactNeedOf", fn := fun _ => fun
  | [d] => { results := [.lit (.bool true)], args := [d] }
  | _ => none }
def fnExactNeedOfRow : OpenClaim := { program := "ytnbkbbjpnfhabaa", sum := "26cad04bcb56aacc36ced0c571a05212dd017a23cea707a90e884cc140f43a1e", func := "loop.example/g01021/laws.FnExactNeedOf", spec := "fnExactNeedOf", apart := false }
def FnExactNeedOfSaid : Prop := fnExactNeedOfRow.holds Try.pinned (OpenSpec.ofChange fnExactNeedOfSpec)

/-- ITS FALSE NEIGHBOUR: 'it returns false'. Refute it at one input. -/
def fnExactNeedOfWrong : ChangeSpec := { name := "fnExactNeedOf", fn := fun _ => fun
  | [d] => { results := [.lit (.bool false)], args := [d] }
  | _ => none }
def FnExactNeedOfWrongFalsely : Prop := fnExactNeedOfRow.holds Try.pinned (OpenSpec.ofChange fnExactNeedOfWrong)

/-- 'laws.FnExactDueDay': WHATEVER THE INPUT: true; the input reads as it did. -/
def fnExactDueDaySpec : ChangeSpec := { name := "fnExactDueDay", fn := fun _ => fun
  | [d] => { results := [.lit (.bool true)], args := [d] }
  | _ => none }
def fnExactDueDayRow : OpenClaim := { program := "ytnbkbbjpnfhabaa", sum := "26cad04bcb56aacc36ced0c571a05212dd017a23cea707a90e884cc140f43a1e", func := "loop.example/g01021/laws.FnExactDueDay", spec := "fnExactDueDay", apart := false }
def FnExactDueDaySaid : Prop := fnExactDueDayRow.holds Try.pinned (OpenSpec.ofChange fnExactDueDaySpec)

/-- ITS FALSE NEIGHBOUR: 'it returns false'. Refute it at one input. -/
def fnExactDueDayWrong : ChangeSpec := { name := "fnExactDueDay", fn := fun _ => fun
  | [d] => { results := [.lit (.bool false)], args := [d] }
  | _ => none }
def FnExactDueDayWrongFalsely : Prop := fnExactDueDayRow.holds Try.pinned (OpenSpec.ofChange fnExactDueDayWrong)

/-- 'laws.FnExactCountDue': WHATEVER THE INPUT: true; the input reads as it did. -/
def fnExactCountDueSpec : ChangeSpec := { name := "fnExactCountDue", fn := fun _ => fun
  | [d1, d2, d3] => { results := [.lit (.bool true)], args := [d1, d2, d3] }
  | _ => none }
def fnExactCountDueRow : OpenClaim := { program := "ytnbkbbjpnfhabaa", sum := "26cad04bcb56aacc36ced0c571a05212dd017a23cea707a90e884cc140f43a1e", func := "loop.example/g01021/laws.FnExactCountDue", spec := "fnExactCountDue", apart := false }
def FnExactCountDueSaid : Prop := fnExactCountDueRow.holds Try.pinned (OpenSpec.ofChange fnExactCountDueSpec)

/-- ITS FALSE NEIGHBOUR: 'it returns false'. Refute it at one input. -/
def fnExactCountDueWrong : ChangeSpec := { name := "fnExactCountDue", fn := fun _ => fun
  | [d1, d2, d3] => { results := [.lit (.bool false)], args := [d1, d2, d3] }
  | _ => none }
def FnExactCountDueWrongFalsely : Prop := fnExactCountDueRow.holds Try.pinned (OpenSpec.ofChange fnExactCountDueWrong)

/-- 'laws.FnExactHoursOf': WHATEVER THE INPUT: true; the input reads as it did. -/
def fnExactHoursOfSpec : ChangeSpec := { name := "fnExactHoursOf", fn := fun _ => fun
  | [d1, d2, d3] => { results := [.lit (.bool true)], args := [d1, d2, d3] }
  | _ => none }
def fnExactHoursOfRow : OpenClaim := { program := "ytnbkbbjpnfhabaa", sum := "26cad04bcb56aacc36ced0c571a05212dd017a23cea707a90e884cc140f43a1e", func := "loop.example/g01021/laws.FnExactHoursOf", spec := "fnExactHoursOf", apart := false }
def FnExactHoursOfSaid : Prop := fnExactHoursOfRow.holds Try.pinned (OpenSpec.ofChange fnExactHoursOfSpec)

/-- ITS FALSE NEIGHBOUR: 'it returns false'. Refute it at one input. -/
def fnExactHoursOfWrong : ChangeSpec := { name := "fnExactHoursOf", fn := fun _ => fun
  | [d1, d2, d3] => { results := [.lit (.bool false)], args := [d1, d2, d3] }
  | _ => none }
def FnExactHoursOfWrongFalsely : Prop := fnExactHoursOfRow.holds Try.pinned (OpenSpec.ofChange fnExactHoursOfWrong)

/- THE SECOND FORM. 'bulk': how many values and letters a reading holds, each counted each time it is reached (what is shared counts as often as it is met; a slice's spare places count too). A statement '..UptoSaid' is the law's where the arguments, and the package variables that the reading takes, are together of bulk at most 1048576: NARROWER than '..Said'. Prove '..Said' where nothing that the law and all that it calls make is longer than what came in: it says more and counts as full. Else prove '..UptoSaid'. A law counts once. -/
mutual
def uptoBulk {H : Type} : DataW H → Nat
  | .lit (.string bytes) => bytes.length + 1
  | .lit _ => 1
  | .nil => 1
  | .ptr d => uptoBulk d + 1
  | .slice elems spare => uptoBulkAll elems + uptoBulkAll spare + 1
  | .agg parts => uptoBulkAll parts + 1
  | .iface _ d => uptoBulk d + 1
  | .map entries => uptoBulkEntries entries + 1
  | .held _ => 1
def uptoBulkAll {H : Type} : List (DataW H) → Nat
  | [] => 0
  | d :: r => uptoBulk d + uptoBulkAll r
def uptoBulkEntries {H : Type} : List (Lit × DataW H) → Nat
  | [] => 0
  | x :: r => uptoBulkEntry x + uptoBulkEntries r
def uptoBulkEntry {H : Type} : Lit × DataW H → Nat
  | (.string bytes, d) => bytes.length + uptoBulk d + 1
  | (_, d) => uptoBulk d + 1
 end
def uptoSmall : (H : Type) → List (DataW H) → Bool := fun _ ds => decide (uptoBulkAll ds ≤ 1048576)
def OpenSpec.upto (s : _root_.Go.ChangeSpec) : _root_.Go.OpenSpec := { _root_.Go.OpenSpec.ofChange s with cond := some uptoSmall }

/-- 'laws.FnExactKindName', WHERE WHAT IT READS IS OF BULK AT MOST 1048576: true; the input reads as it did. -/
def fnExactKindNameUptoRow : OpenClaim := { program := "ytnbkbbjpnfhabaa", sum := "26cad04bcb56aacc36ced0c571a05212dd017a23cea707a90e884cc140f43a1e", func := "loop.example/g01021/laws.FnExactKindName", spec := "fnExactKindName", apart := false, narrowed := true }
def FnExactKindNameUptoSaid : Prop := fnExactKindNameUptoRow.holds Try.pinned (OpenSpec.upto fnExactKindNameSpec)

/-- 'laws.FnExactKindsClash', WHERE WHAT IT READS IS OF BULK AT MOST 1048576: true; the input reads as it did. -/
def fnExactKindsClashUptoRow : OpenClaim := { program := "ytnbkbbjpnfhabaa", sum := "26cad04bcb56aacc36ced0c571a05212dd017a23cea707a90e884cc140f43a1e", func := "loop.example/g01021/laws.FnExactKindsClash", spec := "fnExactKindsClash", apart := false, narrowed := true }
def FnExactKindsClashUptoSaid : Prop := fnExactKindsClashUptoRow.holds Try.pinned (OpenSpec.upto fnExactKindsClashSpec)

/-- 'laws.FnExactNeedOf', WHERE WHAT IT READS IS OF BULK AT MOST 1048576: true; the input reads as it did. -/
def fnExactNeedOfUptoRow : OpenClaim := { program := "ytnbkbbjpnfhabaa", sum := "26cad04bcb56aacc36ced0c571a05212dd017a23cea707a90e884cc140f43a1e", func := "loop.example/g01021/laws.FnExactNeedOf", spec := "fnExactNeedOf", apart := false, narrowed := true }
def FnExactNeedOfUptoSaid : Prop := fnExactNeedOfUptoRow.holds Try.pinned (OpenSpec.upto fnExactNeedOfSpec)

/-- 'laws.FnExactDueDay', WHERE WHAT IT READS IS OF BULK AT MOST 1048576: true; the input reads as it did. -/
def fnExactDueDayUptoRow : OpenClaim := { program := "ytnbkbbjpnfhabaa", sum := "26cad04bcb56aacc36ced0c571a05212dd017a23cea707a90e884cc140f43a1e", func := "loop.example/g01021/laws.FnExactDueDay", spec := "fnExactDueDay", apart := false, narrowed := true }
def FnExactDueDayUptoSaid : Prop := fnExactDueDayUptoRow.holds Try.pinned (OpenSpec.upto fnExactDueDaySpec)

/-- 'laws.FnExactCountDue', WHERE WHAT IT READS IS OF BULK AT MOST 1048576: true; the input reads as it did. -/
def fnExactCountDueUptoRow : OpenClaim := { program := "ytnbkbbjpnfhabaa", sum := "26cad04bcb56aacc36ced0c571a05212dd017a23cea707a90e884cc140f43a1e", func := "loop.example/g01021/laws.FnExactCountDue", spec := "fnExactCountDue", apart := false, narrowed := true }
def FnExactCountDueUptoSaid : Prop := fnExactCountDueUptoRow.holds Try.pinned (OpenSpec.upto fnExactCountDueSpec)

/-- 'laws.FnExactHoursOf', WHERE WHAT IT READS IS OF BULK AT MOST 1048576: true; the input reads as it did. -/
def fnExactHoursOfUptoRow : OpenClaim := { program := "ytnbkbbjpnfhabaa", sum := "26cad04bcb56aacc36ced0c571a05212dd017a23cea707a90e884cc140f43a1e", func := "loop.example/g01021/laws.FnExactHoursOf", spec := "fnExactHoursOf", apart := false, narrowed := true }
def FnExactHoursOfUptoSaid : Prop := fnExactHoursOfUptoRow.holds Try.pinned (OpenSpec.upto fnExactHoursOfSpec)

end Rows
end Go.Proofs.Ytnbkbbjpnfhabaa
