/-
  DERIVED. GIVEN WITH THE SEED: THE CARDS: each row of YtlilmopcikogpaaDoorRows.lean that lists a variable, with what it lists TIED to the program's text (the seventh form; the later family's looks); each row that meets fmt, with fmt's text TOLD by the authors' own Lean function (tested against real Go, not proved from fmt's source: count such statements apart). THE CARD IS WHAT COUNTS. Prove the row's statement (the work); the ties are given (YtlilmopcikogpaaDoorTie.lean); close each card by the builder's one call (the guide's Derived/Test/ToyasCard.lean, 'card_holds'). Laid BY PROGRAM, IN A SANDBOX (cutbox-door.mjs). By AI agents, Wed Nov 11 2026. No macro, syntax, notation, axiom, sorry.
-/
import Derived.Test.YtlilmopcikogpaaDoorRows
import GoSem.ClaimSeven
namespace Go.Proofs.YtlilmopcikogpaaDoor
namespace Rows

/-- THE TIED CARD OF 'laws.FnExactFireText'. -/
def fnExactFireTextCard : Claim7 := { stood := { row := fnExactFireTextRow, standIns := [], harness := (true, "bae08723dda846806f897913aa01b62742ddaf387c6b6a98adeb67f20856a9a3"), looks := false }, kinds := [], alts := [], laidByText := true, laidKinds := [.data, .data, .data], laidTests := true, laidLooks := .later }
def FnExactFireTextCardSaid : Prop := Claim7.holds Tryd.pinned (.plain (OpenSpec.ofChange fnExactFireTextSpec)) fnExactFireTextCard

/-- THE SECOND FORM's CARD OF 'laws.FnExactFireText'. -/
def fnExactFireTextUptoCard : Claim7 := { stood := { row := fnExactFireTextUptoRow, standIns := [], harness := (true, "bae08723dda846806f897913aa01b62742ddaf387c6b6a98adeb67f20856a9a3"), looks := false }, kinds := [], alts := [], laidByText := true, laidKinds := [.data, .data, .data], laidTests := true, laidLooks := .later }
def FnExactFireTextUptoCardSaid : Prop := Claim7.holds Tryd.pinned (.plain (OpenSpec.upto fnExactFireTextSpec)) fnExactFireTextUptoCard
end Rows
end Go.Proofs.YtlilmopcikogpaaDoor
