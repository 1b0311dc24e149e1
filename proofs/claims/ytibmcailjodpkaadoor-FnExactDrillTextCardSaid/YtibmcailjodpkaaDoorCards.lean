/-
  DERIVED. GIVEN WITH THE SEED: THE CARDS: each row of YtibmcailjodpkaaDoorRows.lean that lists a variable, with what it lists TIED to the program's text (the seventh form; the later family's looks); each row that meets fmt, with fmt's text TOLD by the authors' own Lean function (tested against real Go, not proved from fmt's source: count such statements apart). THE CARD IS WHAT COUNTS. Prove the row's statement (the work); the ties are given (YtibmcailjodpkaaDoorTie.lean); close each card by the builder's one call (the guide's Derived/Test/ToyasCard.lean, 'card_holds'). Laid BY PROGRAM, IN A SANDBOX (cutbox-door.mjs). By AI agents, Wed Nov 11 2026. No macro, syntax, notation, axiom, sorry.
-/
import Derived.Test.YtibmcailjodpkaaDoorRows
import GoSem.ClaimSeven
namespace Go.Proofs.YtibmcailjodpkaaDoor
namespace Rows

/-- THE TIED CARD OF 'laws.FnExactDrillText'. -/
def fnExactDrillTextCard : Claim7 := { stood := { row := fnExactDrillTextRow, standIns := [], harness := (true, "fb13c899f19b068fbafc726a22f8671c573bb0fea6253dd08359b55d9e433c92"), looks := false }, kinds := [], alts := [], laidByText := true, laidKinds := [.data, .data, .data], laidTests := true, laidLooks := .later }
def FnExactDrillTextCardSaid : Prop := Claim7.holds Tryd.pinned (.plain (OpenSpec.ofChange fnExactDrillTextSpec)) fnExactDrillTextCard

/-- THE SECOND FORM's CARD OF 'laws.FnExactDrillText'. -/
def fnExactDrillTextUptoCard : Claim7 := { stood := { row := fnExactDrillTextUptoRow, standIns := [], harness := (true, "fb13c899f19b068fbafc726a22f8671c573bb0fea6253dd08359b55d9e433c92"), looks := false }, kinds := [], alts := [], laidByText := true, laidKinds := [.data, .data, .data], laidTests := true, laidLooks := .later }
def FnExactDrillTextUptoCardSaid : Prop := Claim7.holds Tryd.pinned (.plain (OpenSpec.upto fnExactDrillTextSpec)) fnExactDrillTextUptoCard
end Rows
end Go.Proofs.YtibmcailjodpkaaDoor
