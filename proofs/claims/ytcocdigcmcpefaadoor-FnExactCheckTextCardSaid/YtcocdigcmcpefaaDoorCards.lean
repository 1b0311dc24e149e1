/-
  DERIVED. GIVEN WITH THE SEED: THE CARDS: each row of YtcocdigcmcpefaaDoorRows.lean that lists a variable, with what it lists TIED to the program's text (the seventh form; the later family's looks); each row that meets fmt, with fmt's text TOLD by the authors' own Lean function (tested against real Go, not proved from fmt's source: count such statements apart). THE CARD IS WHAT COUNTS. Prove the row's statement (the work); the ties are given (YtcocdigcmcpefaaDoorTie.lean); close each card by the builder's one call (the guide's Derived/Test/ToyasCard.lean, 'card_holds'). Laid BY PROGRAM, IN A SANDBOX (cutbox-door.mjs). By AI agents, Wed Nov 11 2026. No macro, syntax, notation, axiom, sorry.
-/
import Derived.Test.YtcocdigcmcpefaaDoorRows
import GoSem.ClaimSeven
namespace Go.Proofs.YtcocdigcmcpefaaDoor
namespace Rows

/-- THE TIED CARD OF 'laws.FnExactCheckText'. -/
def fnExactCheckTextCard : Claim7 := { stood := { row := fnExactCheckTextRow, standIns := [], harness := (true, "a25742817969046161b9e9993496ebabe06b1533f27f25c54e403570fe68b4b1"), looks := false }, kinds := [], alts := [], laidByText := true, laidKinds := [.data, .data, .data], laidTests := true, laidLooks := .later }
def FnExactCheckTextCardSaid : Prop := Claim7.holds Tryd.pinned (.plain (OpenSpec.ofChange fnExactCheckTextSpec)) fnExactCheckTextCard

/-- THE SECOND FORM's CARD OF 'laws.FnExactCheckText'. -/
def fnExactCheckTextUptoCard : Claim7 := { stood := { row := fnExactCheckTextUptoRow, standIns := [], harness := (true, "a25742817969046161b9e9993496ebabe06b1533f27f25c54e403570fe68b4b1"), looks := false }, kinds := [], alts := [], laidByText := true, laidKinds := [.data, .data, .data], laidTests := true, laidLooks := .later }
def FnExactCheckTextUptoCardSaid : Prop := Claim7.holds Tryd.pinned (.plain (OpenSpec.upto fnExactCheckTextSpec)) fnExactCheckTextUptoCard
end Rows
end Go.Proofs.YtcocdigcmcpefaaDoor
