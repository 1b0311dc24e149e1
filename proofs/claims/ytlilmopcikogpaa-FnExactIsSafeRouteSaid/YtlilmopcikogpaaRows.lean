/-
  No cell of these rows narrows 'for every input' (looked for: loops, veiled, ifaces, maps, wideKeys, modest, calm, conditions, laid).
  DERIVED. THE GIVEN ROWS OF THIS SEAT. 6 by the template 'for every input the law returns true; each argument reads behind the call as it read before'; 0 by the template 'total and deterministic' (their statements: YtlilmopcikogpaaTotals.lean).
  GIVEN WITH THE SEED: the statements are not yours to turn. If you find one false, say at which input.
  Laid BY PROGRAM, IN A SANDBOX (cutbox-rows.mjs): the forced cells as the released guide's own fill.sh prints them over the translation a6dee8f6d66a6386… (all of the seat's roots in one cut). By AI agents, Wed Nov 11 2026. No macro, syntax, notation, axiom, sorry.
-/
import Derived.Test.YtlilmopcikogpaaChecked
import GoSem.Claim
import GoSem.ClaimJoined
import GoSem.ClaimMapViews
import Derived.JoinedTies
import Derived.KernelRfl
namespace Go.Proofs.Ytlilmopcikogpaa
/- THE CELL 'sum', in the pinned program and in every row, IS THE sha256 OF THE DUMP (.gsa) THAT YtlilmopcikogpaaProg.lean LOADS. Nothing in Lean hashes anything: it is a label: what it is worth is what the hold of that sum in a sandbox is worth. -/
noncomputable def Try.pinned : Pinned := { name := "ytlilmopcikogpaa", sum := "a6dee8f6d66a638619cf22a76168302e4af1f5b6f0591e1af949e01dca67c429", checked := Try.checked }
namespace Rows
def none {H : Type} : Left H := { results := [], args := [] }

/-- 'laws.FnExactValidFire': WHATEVER THE INPUT: true; the input reads as it did. -/
def fnExactValidFireSpec : ChangeSpec := { name := "fnExactValidFire", fn := fun _ => fun
  | [d1, d2] => { results := [.lit (.bool true)], args := [d1, d2] }
  | _ => none }
def fnExactValidFireRow : OpenClaim := { program := "ytlilmopcikogpaa", sum := "a6dee8f6d66a638619cf22a76168302e4af1f5b6f0591e1af949e01dca67c429", func := "loop.example/g01021/laws.FnExactValidFire", spec := "fnExactValidFire", apart := false }
def FnExactValidFireSaid : Prop := fnExactValidFireRow.holds Try.pinned (OpenSpec.ofChange fnExactValidFireSpec)

/-- ITS FALSE NEIGHBOUR: 'it returns false'. Refute it at one input. -/
def fnExactValidFireWrong : ChangeSpec := { name := "fnExactValidFire", fn := fun _ => fun
  | [d1, d2] => { results := [.lit (.bool false)], args := [d1, d2] }
  | _ => none }
def FnExactValidFireWrongFalsely : Prop := fnExactValidFireRow.holds Try.pinned (OpenSpec.ofChange fnExactValidFireWrong)

/-- 'laws.FnExactLeaveTime': WHATEVER THE INPUT: true; the input reads as it did. -/
def fnExactLeaveTimeSpec : ChangeSpec := { name := "fnExactLeaveTime", fn := fun _ => fun
  | [d1, d2, d3] => { results := [.lit (.bool true)], args := [d1, d2, d3] }
  | _ => none }
def fnExactLeaveTimeRow : OpenClaim := { program := "ytlilmopcikogpaa", sum := "a6dee8f6d66a638619cf22a76168302e4af1f5b6f0591e1af949e01dca67c429", func := "loop.example/g01021/laws.FnExactLeaveTime", spec := "fnExactLeaveTime", unfollowed := true, recurses := true, apart := false }
def FnExactLeaveTimeSaid : Prop := fnExactLeaveTimeRow.holds Try.pinned (OpenSpec.ofChange fnExactLeaveTimeSpec)

/-- ITS FALSE NEIGHBOUR: 'it returns false'. Refute it at one input. -/
def fnExactLeaveTimeWrong : ChangeSpec := { name := "fnExactLeaveTime", fn := fun _ => fun
  | [d1, d2, d3] => { results := [.lit (.bool false)], args := [d1, d2, d3] }
  | _ => none }
def FnExactLeaveTimeWrongFalsely : Prop := fnExactLeaveTimeRow.holds Try.pinned (OpenSpec.ofChange fnExactLeaveTimeWrong)

/-- 'laws.FnExactValidCrews': WHATEVER THE INPUT: true; the input reads as it did. -/
def fnExactValidCrewsSpec : ChangeSpec := { name := "fnExactValidCrews", fn := fun _ => fun
  | [d1, d2] => { results := [.lit (.bool true)], args := [d1, d2] }
  | _ => none }
def fnExactValidCrewsRow : OpenClaim := { program := "ytlilmopcikogpaa", sum := "a6dee8f6d66a638619cf22a76168302e4af1f5b6f0591e1af949e01dca67c429", func := "loop.example/g01021/laws.FnExactValidCrews", spec := "fnExactValidCrews", apart := false }
def FnExactValidCrewsSaid : Prop := fnExactValidCrewsRow.holds Try.pinned (OpenSpec.ofChange fnExactValidCrewsSpec)

/-- ITS FALSE NEIGHBOUR: 'it returns false'. Refute it at one input. -/
def fnExactValidCrewsWrong : ChangeSpec := { name := "fnExactValidCrews", fn := fun _ => fun
  | [d1, d2] => { results := [.lit (.bool false)], args := [d1, d2] }
  | _ => none }
def FnExactValidCrewsWrongFalsely : Prop := fnExactValidCrewsRow.holds Try.pinned (OpenSpec.ofChange fnExactValidCrewsWrong)

/-- 'laws.FnExactIsSafeRoute': WHATEVER THE INPUT: true; the input reads as it did. -/
def fnExactIsSafeRouteSpec : ChangeSpec := { name := "fnExactIsSafeRoute", fn := fun _ => fun
  | [d1, d2, d3, d4, d5, d6] => { results := [.lit (.bool true)], args := [d1, d2, d3, d4, d5, d6] }
  | _ => none }
def fnExactIsSafeRouteRow : OpenClaim := { program := "ytlilmopcikogpaa", sum := "a6dee8f6d66a638619cf22a76168302e4af1f5b6f0591e1af949e01dca67c429", func := "loop.example/g01021/laws.FnExactIsSafeRoute", spec := "fnExactIsSafeRoute", unfollowed := true, recurses := true, apart := false }
def FnExactIsSafeRouteSaid : Prop := fnExactIsSafeRouteRow.holds Try.pinned (OpenSpec.ofChange fnExactIsSafeRouteSpec)

/-- ITS FALSE NEIGHBOUR: 'it returns false'. Refute it at one input. -/
def fnExactIsSafeRouteWrong : ChangeSpec := { name := "fnExactIsSafeRoute", fn := fun _ => fun
  | [d1, d2, d3, d4, d5, d6] => { results := [.lit (.bool false)], args := [d1, d2, d3, d4, d5, d6] }
  | _ => none }
def FnExactIsSafeRouteWrongFalsely : Prop := fnExactIsSafeRouteRow.holds Try.pinned (OpenSpec.ofChange fnExactIsSafeRouteWrong)

/-- 'laws.FnExactShortestHours': WHATEVER THE INPUT: true; the input reads as it did. -/
def fnExactShortestHoursSpec : ChangeSpec := { name := "fnExactShortestHours", fn := fun _ => fun
  | [d1, d2, d3, d4] => { results := [.lit (.bool true)], args := [d1, d2, d3, d4] }
  | _ => none }
def fnExactShortestHoursRow : OpenClaim := { program := "ytlilmopcikogpaa", sum := "a6dee8f6d66a638619cf22a76168302e4af1f5b6f0591e1af949e01dca67c429", func := "loop.example/g01021/laws.FnExactShortestHours", spec := "fnExactShortestHours", unfollowed := true, recurses := true, apart := false }
def FnExactShortestHoursSaid : Prop := fnExactShortestHoursRow.holds Try.pinned (OpenSpec.ofChange fnExactShortestHoursSpec)

/-- ITS FALSE NEIGHBOUR: 'it returns false'. Refute it at one input. -/
def fnExactShortestHoursWrong : ChangeSpec := { name := "fnExactShortestHours", fn := fun _ => fun
  | [d1, d2, d3, d4] => { results := [.lit (.bool false)], args := [d1, d2, d3, d4] }
  | _ => none }
def FnExactShortestHoursWrongFalsely : Prop := fnExactShortestHoursRow.holds Try.pinned (OpenSpec.ofChange fnExactShortestHoursWrong)

/-- 'laws.FnExactValidRefuges': WHATEVER THE INPUT: true; the input reads as it did. -/
def fnExactValidRefugesSpec : ChangeSpec := { name := "fnExactValidRefuges", fn := fun _ => fun
  | [d1, d2] => { results := [.lit (.bool true)], args := [d1, d2] }
  | _ => none }
def fnExactValidRefugesRow : OpenClaim := { program := "ytlilmopcikogpaa", sum := "a6dee8f6d66a638619cf22a76168302e4af1f5b6f0591e1af949e01dca67c429", func := "loop.example/g01021/laws.FnExactValidRefuges", spec := "fnExactValidRefuges", apart := false }
def FnExactValidRefugesSaid : Prop := fnExactValidRefugesRow.holds Try.pinned (OpenSpec.ofChange fnExactValidRefugesSpec)

/-- ITS FALSE NEIGHBOUR: 'it returns false'. Refute it at one input. -/
def fnExactValidRefugesWrong : ChangeSpec := { name := "fnExactValidRefuges", fn := fun _ => fun
  | [d1, d2] => { results := [.lit (.bool false)], args := [d1, d2] }
  | _ => none }
def FnExactValidRefugesWrongFalsely : Prop := fnExactValidRefugesRow.holds Try.pinned (OpenSpec.ofChange fnExactValidRefugesWrong)

/- THE SECOND FORM. 'bulk': how many values and letters a reading holds, each counted each time it is reached (what is shared counts as often as it is met; a slice's spare places count too). A statement '..UptoSaid' is the law's where the arguments, and the package variables that the reading takes, are together of bulk at most 1048576: NARROWER than '..Said'. Prove '..Said' where nothing that the law and all that it calls make is longer than what came in: it says more and counts as full. Else prove '..UptoSaid'. A law counts once. -/
mutual
def uptoBulk {H : Type} : DataW H → Nat
  | .lit (.string bytes) => bytes.length + 1
  | .lit _ => 1
  | .nil => 1
  | .ptr d => uptoBulk d + 1
  | .slice elems spare => uptoBulkAll elems + uptoBulkAll spare + 1
  | .agg parts => uptoBulkAll parts + 1
  | .iface _ d => uptoBulk d + 1
  | .map entries => uptoBulkEntries entries + 1
  | .held _ => 1
def uptoBulkAll {H : Type} : List (DataW H) → Nat
  | [] => 0
  | d :: r => uptoBulk d + uptoBulkAll r
def uptoBulkEntries {H : Type} : List (Lit × DataW H) → Nat
  | [] => 0
  | x :: r => uptoBulkEntry x + uptoBulkEntries r
def uptoBulkEntry {H : Type} : Lit × DataW H → Nat
  | (.string bytes, d) => bytes.length + uptoBulk d + 1
  | (_, d) => uptoBulk d + 1
 end
def uptoSmall : (H : Type) → List (DataW H) → Bool := fun _ ds => decide (uptoBulkAll ds ≤ 1048576)
def OpenSpec.upto (s : _root_.Go.ChangeSpec) : _root_.Go.OpenSpec := { _root_.Go.OpenSpec.ofChange s with cond := some uptoSmall }

/-- 'laws.FnExactValidFire', WHERE WHAT IT READS IS OF BULK AT MOST 1048576: true; the input reads as it did. -/
def fnExactValidFireUptoRow : OpenClaim := { program := "ytlilmopcikogpaa", sum := "a6dee8f6d66a638619cf22a76168302e4af1f5b6f0591e1af949e01dca67c429", func := "loop.example/g01021/laws.FnExactValidFire", spec := "fnExactValidFire", apart := false, narrowed := true }
def FnExactValidFireUptoSaid : Prop := fnExactValidFireUptoRow.holds Try.pinned (OpenSpec.upto fnExactValidFireSpec)

/-- 'laws.FnExactLeaveTime', WHERE WHAT IT READS IS OF BULK AT MOST 1048576: true; the input reads as it did. -/
def fnExactLeaveTimeUptoRow : OpenClaim := { program := "ytlilmopcikogpaa", sum := "a6dee8f6d66a638619cf22a76168302e4af1f5b6f0591e1af949e01dca67c429", func := "loop.example/g01021/laws.FnExactLeaveTime", spec := "fnExactLeaveTime", unfollowed := true, recurses := true, apart := false, narrowed := true }
def FnExactLeaveTimeUptoSaid : Prop := fnExactLeaveTimeUptoRow.holds Try.pinned (OpenSpec.upto fnExactLeaveTimeSpec)

/-- 'laws.FnExactValidCrews', WHERE WHAT IT READS IS OF BULK AT MOST 1048576: true; the input reads as it did. -/
def fnExactValidCrewsUptoRow : OpenClaim := { program := "ytlilmopcikogpaa", sum := "a6dee8f6d66a638619cf22a76168302e4af1f5b6f0591e1af949e01dca67c429", func := "loop.example/g01021/laws.FnExactValidCrews", spec := "fnExactValidCrews", apart := false, narrowed := true }
def FnExactValidCrewsUptoSaid : Prop := fnExactValidCrewsUptoRow.holds Try.pinned (OpenSpec.upto fnExactValidCrewsSpec)

/-- 'laws.FnExactIsSafeRoute', WHERE WHAT IT READS IS OF BULK AT MOST 1048576: true; the input reads as it did. -/
def fnExactIsSafeRouteUptoRow : OpenClaim := { program := "ytlilmopcikogpaa", sum := "a6dee8f6d66a638619cf22a76168302e4af1f5b6f0591e1af949e01dca67c429", func := "loop.example/g01021/laws.FnExactIsSafeRoute", spec := "fnExactIsSafeRoute", unfollowed := true, recurses := true, apart := false, narrowed := true }
def FnExactIsSafeRouteUptoSaid : Prop := fnExactIsSafeRouteUptoRow.holds Try.pinned (OpenSpec.upto fnExactIsSafeRouteSpec)

/-- 'laws.FnExactShortestHours', WHERE WHAT IT READS IS OF BULK AT MOST 1048576: true; the input reads as it did. -/
def fnExactShortestHoursUptoRow : OpenClaim := { program := "ytlilmopcikogpaa", sum := "a6dee8f6d66a638619cf22a76168302e4af1f5b6f0591e1af949e01dca67c429", func := "loop.example/g01021/laws.FnExactShortestHours", spec := "fnExactShortestHours", unfollowed := true, recurses := true, apart := false, narrowed := true }
def FnExactShortestHoursUptoSaid : Prop := fnExactShortestHoursUptoRow.holds Try.pinned (OpenSpec.upto fnExactShortestHoursSpec)

/-- 'laws.FnExactValidRefuges', WHERE WHAT IT READS IS OF BULK AT MOST 1048576: true; the input reads as it did. -/
def fnExactValidRefugesUptoRow : OpenClaim := { program := "ytlilmopcikogpaa", sum := "a6dee8f6d66a638619cf22a76168302e4af1f5b6f0591e1af949e01dca67c429", func := "loop.example/g01021/laws.FnExactValidRefuges", spec := "fnExactValidRefuges", apart := false, narrowed := true }
def FnExactValidRefugesUptoSaid : Prop := fnExactValidRefugesUptoRow.holds Try.pinned (OpenSpec.upto fnExactValidRefugesSpec)

end Rows
end Go.Proofs.Ytlilmopcikogpaa
