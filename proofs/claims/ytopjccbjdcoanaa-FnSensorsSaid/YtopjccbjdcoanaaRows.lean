/-
  No cell of these rows narrows 'for every input' (looked for: loops, veiled, ifaces, maps, wideKeys, modest, calm, conditions, laid).
  DERIVED. THE GIVEN ROWS OF THIS SEAT. 7 by the template 'for every input the law returns true; each argument reads behind the call as it read before'; 0 by the template 'total and deterministic' (their statements: YtopjccbjdcoanaaTotals.lean).
  GIVEN WITH THE SEED: the statements are not yours to turn. If you find one false, say at which input.
  Laid BY PROGRAM, IN A SANDBOX (cutbox-rows.mjs): the forced cells as the released guide's own fill.sh prints them over the translation c126554998208ee4… (all of the seat's roots in one cut). By AI agents, Wed Nov 11 2026. No macro, syntax, notation, axiom, sorry.
-/
import Derived.Test.YtopjccbjdcoanaaChecked
import GoSem.Claim
import GoSem.ClaimJoined
import GoSem.ClaimMapViews
import Derived.JoinedTies
import Derived.KernelRfl
namespace Go.Proofs.Ytopjccbjdcoanaa
/- THE CELL 'sum', in the pinned program and in every row, IS THE sha256 OF THE DUMP (.gsa) THAT YtopjccbjdcoanaaProg.lean LOADS. Nothing in Lean hashes anything: it is a label: what it is worth is what the hold of that sum in a sandbox is worth. -/
noncomputable def Try.pinned : Pinned := { name := "ytopjccbjdcoanaa", sum := "c126554998208ee47b27c4605edfe8b7ed5f0590bc53976331f7c9a284318ac4", checked := Try.checked }
namespace Rows
def none {H : Type} : Left H := { results := [], args := [] }

/-- 'laws.FnSensors': WHATEVER THE INPUT: true; the input reads as it did. -/
def fnSensorsSpec : ChangeSpec := { name := "fnSensors", fn := fun _ => fun
  | [d1, d2] => { results := [.lit (.bool true)], args := [d1, d2] }
  | _ => none }
def fnSensorsRow : OpenClaim := { program := "ytopjccbjdcoanaa", sum := "c126554998208ee47b27c4605edfe8b7ed5f0590bc53976331f7c9a284318ac4", func := "loop.example/g01021/laws.FnSensors", spec := "fnSensors", unfollowed := true, recurses := true, apart := false }
def FnSensorsSaid : Prop := fnSensorsRow.holds Try.pinned (OpenSpec.ofChange fnSensorsSpec)

/-- ITS FALSE NEIGHBOUR: 'it returns false'. Refute it at one input. -/
def fnSensorsWrong : ChangeSpec := { name := "fnSensors", fn := fun _ => fun
  | [d1, d2] => { results := [.lit (.bool false)], args := [d1, d2] }
  | _ => none }
def FnSensorsWrongFalsely : Prop := fnSensorsRow.holds Try.pinned (OpenSpec.ofChange fnSensorsWrong)

/-- 'laws.FnExactAlarmsOf': WHATEVER THE INPUT: true; the input reads as it did. -/
def fnExactAlarmsOfSpec : ChangeSpec := { name := "fnExactAlarmsOf", fn := fun _ => fun
  | [d1, d2] => { results := [.lit (.bool true)], args := [d1, d2] }
  | _ => none }
def fnExactAlarmsOfRow : OpenClaim := { program := "ytopjccbjdcoanaa", sum := "c126554998208ee47b27c4605edfe8b7ed5f0590bc53976331f7c9a284318ac4", func := "loop.example/g01021/laws.FnExactAlarmsOf", spec := "fnExactAlarmsOf", unfollowed := true, recurses := true, apart := false }
def FnExactAlarmsOfSaid : Prop := fnExactAlarmsOfRow.holds Try.pinned (OpenSpec.ofChange fnExactAlarmsOfSpec)

/-- ITS FALSE NEIGHBOUR: 'it returns false'. Refute it at one input. -/
def fnExactAlarmsOfWrong : ChangeSpec := { name := "fnExactAlarmsOf", fn := fun _ => fun
  | [d1, d2] => { results := [.lit (.bool false)], args := [d1, d2] }
  | _ => none }
def FnExactAlarmsOfWrongFalsely : Prop := fnExactAlarmsOfRow.holds Try.pinned (OpenSpec.ofChange fnExactAlarmsOfWrong)

/-- 'laws.FnExactFewestSensors': WHATEVER THE INPUT: true; the input reads as it did. -/
def fnExactFewestSensorsSpec : ChangeSpec := { name := "fnExactFewestSensors", fn := fun _ => fun
  | [d1, d2, d3] => { results := [.lit (.bool true)], args := [d1, d2, d3] }
  | _ => none }
def fnExactFewestSensorsRow : OpenClaim := { program := "ytopjccbjdcoanaa", sum := "c126554998208ee47b27c4605edfe8b7ed5f0590bc53976331f7c9a284318ac4", func := "loop.example/g01021/laws.FnExactFewestSensors", spec := "fnExactFewestSensors", unfollowed := true, recurses := true, apart := false }
def FnExactFewestSensorsSaid : Prop := fnExactFewestSensorsRow.holds Try.pinned (OpenSpec.ofChange fnExactFewestSensorsSpec)

/-- ITS FALSE NEIGHBOUR: 'it returns false'. Refute it at one input. -/
def fnExactFewestSensorsWrong : ChangeSpec := { name := "fnExactFewestSensors", fn := fun _ => fun
  | [d1, d2, d3] => { results := [.lit (.bool false)], args := [d1, d2, d3] }
  | _ => none }
def FnExactFewestSensorsWrongFalsely : Prop := fnExactFewestSensorsRow.holds Try.pinned (OpenSpec.ofChange fnExactFewestSensorsWrong)

/-- 'laws.FnExactFirstAlarm': WHATEVER THE INPUT: true; the input reads as it did. -/
def fnExactFirstAlarmSpec : ChangeSpec := { name := "fnExactFirstAlarm", fn := fun _ => fun
  | [d1, d2] => { results := [.lit (.bool true)], args := [d1, d2] }
  | _ => none }
def fnExactFirstAlarmRow : OpenClaim := { program := "ytopjccbjdcoanaa", sum := "c126554998208ee47b27c4605edfe8b7ed5f0590bc53976331f7c9a284318ac4", func := "loop.example/g01021/laws.FnExactFirstAlarm", spec := "fnExactFirstAlarm", unfollowed := true, recurses := true, apart := false }
def FnExactFirstAlarmSaid : Prop := fnExactFirstAlarmRow.holds Try.pinned (OpenSpec.ofChange fnExactFirstAlarmSpec)

/-- ITS FALSE NEIGHBOUR: 'it returns false'. Refute it at one input. -/
def fnExactFirstAlarmWrong : ChangeSpec := { name := "fnExactFirstAlarm", fn := fun _ => fun
  | [d1, d2] => { results := [.lit (.bool false)], args := [d1, d2] }
  | _ => none }
def FnExactFirstAlarmWrongFalsely : Prop := fnExactFirstAlarmRow.holds Try.pinned (OpenSpec.ofChange fnExactFirstAlarmWrong)

/-- 'laws.FnExactVoteOf': WHATEVER THE INPUT: true; the input reads as it did. -/
def fnExactVoteOfSpec : ChangeSpec := { name := "fnExactVoteOf", fn := fun _ => fun
  | [d1, d2, d3] => { results := [.lit (.bool true)], args := [d1, d2, d3] }
  | _ => none }
def fnExactVoteOfRow : OpenClaim := { program := "ytopjccbjdcoanaa", sum := "c126554998208ee47b27c4605edfe8b7ed5f0590bc53976331f7c9a284318ac4", func := "loop.example/g01021/laws.FnExactVoteOf", spec := "fnExactVoteOf", unfollowed := true, recurses := true, apart := false }
def FnExactVoteOfSaid : Prop := fnExactVoteOfRow.holds Try.pinned (OpenSpec.ofChange fnExactVoteOfSpec)

/-- ITS FALSE NEIGHBOUR: 'it returns false'. Refute it at one input. -/
def fnExactVoteOfWrong : ChangeSpec := { name := "fnExactVoteOf", fn := fun _ => fun
  | [d1, d2, d3] => { results := [.lit (.bool false)], args := [d1, d2, d3] }
  | _ => none }
def FnExactVoteOfWrongFalsely : Prop := fnExactVoteOfRow.holds Try.pinned (OpenSpec.ofChange fnExactVoteOfWrong)

/-- 'laws.FnExactMedianOf': WHATEVER THE INPUT: true; the input reads as it did. -/
def fnExactMedianOfSpec : ChangeSpec := { name := "fnExactMedianOf", fn := fun _ => fun
  | [d1, d2] => { results := [.lit (.bool true)], args := [d1, d2] }
  | _ => none }
def fnExactMedianOfRow : OpenClaim := { program := "ytopjccbjdcoanaa", sum := "c126554998208ee47b27c4605edfe8b7ed5f0590bc53976331f7c9a284318ac4", func := "loop.example/g01021/laws.FnExactMedianOf", spec := "fnExactMedianOf", unfollowed := true, recurses := true, apart := false }
def FnExactMedianOfSaid : Prop := fnExactMedianOfRow.holds Try.pinned (OpenSpec.ofChange fnExactMedianOfSpec)

/-- ITS FALSE NEIGHBOUR: 'it returns false'. Refute it at one input. -/
def fnExactMedianOfWrong : ChangeSpec := { name := "fnExactMedianOf", fn := fun _ => fun
  | [d1, d2] => { results := [.lit (.bool false)], args := [d1, d2] }
  | _ => none }
def FnExactMedianOfWrongFalsely : Prop := fnExactMedianOfRow.holds Try.pinned (OpenSpec.ofChange fnExactMedianOfWrong)

/-- 'laws.FnMonitors': WHATEVER THE INPUT: true; the input reads as it did. -/
def fnMonitorsSpec : ChangeSpec := { name := "fnMonitors", fn := fun _ => fun
  | [d1, d2] => { results := [.lit (.bool true)], args := [d1, d2] }
  | _ => none }
def fnMonitorsRow : OpenClaim := { program := "ytopjccbjdcoanaa", sum := "c126554998208ee47b27c4605edfe8b7ed5f0590bc53976331f7c9a284318ac4", func := "loop.example/g01021/laws.FnMonitors", spec := "fnMonitors", unfollowed := true, recurses := true, apart := false }
def FnMonitorsSaid : Prop := fnMonitorsRow.holds Try.pinned (OpenSpec.ofChange fnMonitorsSpec)

/-- ITS FALSE NEIGHBOUR: 'it returns false'. Refute it at one input. -/
def fnMonitorsWrong : ChangeSpec := { name := "fnMonitors", fn := fun _ => fun
  | [d1, d2] => { results := [.lit (.bool false)], args := [d1, d2] }
  | _ => none }
def FnMonitorsWrongFalsely : Prop := fnMonitorsRow.holds Try.pinned (OpenSpec.ofChange fnMonitorsWrong)

/- THE SECOND FORM. 'bulk': how many values and letters a reading holds, each counted each time it is reached (what is shared counts as often as it is met; a slice's spare places count too). A statement '..UptoSaid' is the law's where the arguments, and the package variables that the reading takes, are together of bulk at most 1048576: NARROWER than '..Said'. Prove '..Said' where nothing that the law and all that it calls make is longer than what came in: it says more and counts as full. Else prove '..UptoSaid'. A law counts once. -/
mutual
def uptoBulk {H : Type} : DataW H → Nat
  | .lit (.string bytes) => bytes.length + 1
  | .lit _ => 1
  | .nil => 1
  | .ptr d => uptoBulk d + 1
  | .slice elems spare => uptoBulkAll elems + uptoBulkAll spare + 1
  | .agg parts => uptoBulkAll parts + 1
  | .iface _ d => uptoBulk d + 1
  | .map entries => uptoBulkEntries entries + 1
  | .held _ => 1
def uptoBulkAll {H : Type} : List (DataW H) → Nat
  | [] => 0
  | d :: r => uptoBulk d + uptoBulkAll r
def uptoBulkEntries {H : Type} : List (Lit × DataW H) → Nat
  | [] => 0
  | x :: r => uptoBulkEntry x + uptoBulkEntries r
def uptoBulkEntry {H : Type} : Lit × DataW H → Nat
  | (.string bytes, d) => bytes.length + uptoBulk d + 1
  | (_, d) => uptoBulk d + 1
 end
def uptoSmall : (H : Type) → List (DataW H) → Bool := fun _ ds => decide (uptoBulkAll ds ≤ 1048576)
def OpenSpec.upto (s : _root_.Go.ChangeSpec) : _root_.Go.OpenSpec := { _root_.Go.OpenSpec.ofChange s with cond := some uptoSmall }

/-- 'laws.FnSensors', WHERE WHAT IT READS IS OF BULK AT MOST 1048576: true; the input reads as it did. -/
def fnSensorsUptoRow : OpenClaim := { program := "ytopjccbjdcoanaa", sum := "c126554998208ee47b27c4605edfe8b7ed5f0590bc53976331f7c9a284318ac4", func := "loop.example/g01021/laws.FnSensors", spec := "fnSensors", unfollowed := true, recurses := true, apart := false, narrowed := true }
def FnSensorsUptoSaid : Prop := fnSensorsUptoRow.holds Try.pinned (OpenSpec.upto fnSensorsSpec)

/-- 'laws.FnExactAlarmsOf', WHERE WHAT IT READS IS OF BULK AT MOST 1048576: true; the input reads as it did. -/
def fnExactAlarmsOfUptoRow : OpenClaim := { program := "ytopjccbjdcoanaa", sum := "c126554998208ee47b27c4605edfe8b7ed5f0590bc53976331f7c9a284318ac4", func := "loop.example/g01021/laws.FnExactAlarmsOf", spec := "fnExactAlarmsOf", unfollowed := true, recurses := true, apart := false, narrowed := true }
def FnExactAlarmsOfUptoSaid : Prop := fnExactAlarmsOfUptoRow.holds Try.pinned (OpenSpec.upto fnExactAlarmsOfSpec)

/-- 'laws.FnExactFewestSensors', WHERE WHAT IT READS IS OF BULK AT MOST 1048576: true; the input reads as it did. -/
def fnExactFewestSensorsUptoRow : OpenClaim := { program := "ytopjccbjdcoanaa", sum := "c126554998208ee47b27c4605edfe8b7ed5f0590bc53976331f7c9a284318ac4", func := "loop.example/g01021/laws.FnExactFewestSensors", spec := "fnExactFewestSensors", unfollowed := true, recurses := true, apart := false, narrowed := true }
def FnExactFewestSensorsUptoSaid : Prop := fnExactFewestSensorsUptoRow.holds Try.pinned (OpenSpec.upto fnExactFewestSensorsSpec)

/-- 'laws.FnExactFirstAlarm', WHERE WHAT IT READS IS OF BULK AT MOST 1048576: true; the input reads as it did. -/
def fnExactFirstAlarmUptoRow : OpenClaim := { program := "ytopjccbjdcoanaa", sum := "c126554998208ee47b27c4605edfe8b7ed5f0590bc53976331f7c9a284318ac4", func := "loop.example/g01021/laws.FnExactFirstAlarm", spec := "fnExactFirstAlarm", unfollowed := true, recurses := true, apart := false, narrowed := true }
def FnExactFirstAlarmUptoSaid : Prop := fnExactFirstAlarmUptoRow.holds Try.pinned (OpenSpec.upto fnExactFirstAlarmSpec)

/-- 'laws.FnExactVoteOf', WHERE WHAT IT READS IS OF BULK AT MOST 1048576: true; the input reads as it did. -/
def fnExactVoteOfUptoRow : OpenClaim := { program := "ytopjccbjdcoanaa", sum := "c126554998208ee47b27c4605edfe8b7ed5f0590bc53976331f7c9a284318ac4", func := "loop.example/g01021/laws.FnExactVoteOf", spec := "fnExactVoteOf", unfollowed := true, recurses := true, apart := false, narrowed := true }
def FnExactVoteOfUptoSaid : Prop := fnExactVoteOfUptoRow.holds Try.pinned (OpenSpec.upto fnExactVoteOfSpec)

/-- 'laws.FnExactMedianOf', WHERE WHAT IT READS IS OF BULK AT MOST 1048576: true; the input reads as it did. -/
def fnExactMedianOfUptoRow : OpenClaim := { program := "ytopjccbjdcoanaa", sum := "c126554998208ee47b27c4605edfe8b7ed5f0590bc53976331f7c9a284318ac4", func := "loop.example/g01021/laws.FnExactMedianOf", spec := "fnExactMedianOf", unfollowed := true, recurses := true, apart := false, narrowed := true }
def FnExactMedianOfUptoSaid : Prop := fnExactMedianOfUptoRow.holds Try.pinned (OpenSpec.upto fnExactMedianOfSpec)

/-- 'laws.FnMonitors', WHERE WHAT IT READS IS OF BULK AT MOST 1048576: true; the input reads as it did. -/
def fnMonitorsUptoRow : OpenClaim := { program := "ytopjccbjdcoanaa", sum := "c126554998208ee47b27c4605edfe8b7ed5f0590bc53976331f7c9a284318ac4", func := "loop.example/g01021/laws.FnMonitors", spec := "fnMonitors", unfollowed := true, recurses := true, apart := false, narrowed := true }
def FnMonitorsUptoSaid : Prop := fnMonitorsUptoRow.holds Try.pinned (OpenSpec.upto fnMonitorsSpec)

end Rows
end Go.Proofs.Ytopjccbjdcoanaa
