/-
  DERIVED. GIVEN WITH THE SEED: THE CARDS: each row of YtopjccbjdcoanaaDoorRows.lean that lists a variable, with what it lists TIED to the program's text (the seventh form; the later family's looks); each row that meets fmt, with fmt's text TOLD by the authors' own Lean function (tested against real Go, not proved from fmt's source: count such statements apart). THE CARD IS WHAT COUNTS. Prove the row's statement (the work); the ties are given (YtopjccbjdcoanaaDoorTie.lean); close each card by the builder's one call (the guide's Derived/Test/ToyasCard.lean, 'card_holds'). Laid BY PROGRAM, IN A SANDBOX (cutbox-door.mjs). By AI agents, Wed Nov 11 2026. No macro, syntax, notation, axiom, sorry.
-/
import Derived.Test.YtopjccbjdcoanaaDoorRows
import GoSem.ClaimSeven
namespace Go.Proofs.YtopjccbjdcoanaaDoor
namespace Rows

/-- THE TIED CARD OF 'laws.FnExactSensorText'. -/
def fnExactSensorTextCard : Claim7 := { stood := { row := fnExactSensorTextRow, standIns := [], harness := (true, "785bd1ea052b6aa461368c490ea431b5f768d818fd93e4e5de1d25d4439ff8c8"), looks := true }, kinds := [], alts := [], laidByText := true, laidKinds := [.data, .data, .data], laidTests := true, laidLooks := .later }
def FnExactSensorTextCardSaid : Prop := Claim7.holds Tryd.pinned (.plain (OpenSpec.ofChange fnExactSensorTextSpec)) fnExactSensorTextCard

/-- THE TIED CARD OF 'laws.FnExactReadSensor'. -/
def fnExactReadSensorCard : Claim7 := { stood := { row := fnExactReadSensorRow, standIns := [], harness := (true, "785bd1ea052b6aa461368c490ea431b5f768d818fd93e4e5de1d25d4439ff8c8"), looks := true }, kinds := [], alts := [], laidByText := true, laidKinds := [.data, .data, .data, .data, .sentinel, .sentinel, .pinned], laidTests := true, laidLooks := .later }
def FnExactReadSensorCardSaid : Prop := Claim7.holds Tryd.pinned (.plain (OpenSpec.ofChange fnExactReadSensorSpec)) fnExactReadSensorCard

/-- THE SECOND FORM's CARD OF 'laws.FnExactSensorText'. -/
def fnExactSensorTextUptoCard : Claim7 := { stood := { row := fnExactSensorTextUptoRow, standIns := [], harness := (true, "785bd1ea052b6aa461368c490ea431b5f768d818fd93e4e5de1d25d4439ff8c8"), looks := true }, kinds := [], alts := [], laidByText := true, laidKinds := [.data, .data, .data], laidTests := true, laidLooks := .later }
def FnExactSensorTextUptoCardSaid : Prop := Claim7.holds Tryd.pinned (.plain (OpenSpec.upto fnExactSensorTextSpec)) fnExactSensorTextUptoCard

/-- THE SECOND FORM's CARD OF 'laws.FnExactReadSensor'. -/
def fnExactReadSensorUptoCard : Claim7 := { stood := { row := fnExactReadSensorUptoRow, standIns := [], harness := (true, "785bd1ea052b6aa461368c490ea431b5f768d818fd93e4e5de1d25d4439ff8c8"), looks := true }, kinds := [], alts := [], laidByText := true, laidKinds := [.data, .data, .data, .data, .sentinel, .sentinel, .pinned], laidTests := true, laidLooks := .later }
def FnExactReadSensorUptoCardSaid : Prop := Claim7.holds Tryd.pinned (.plain (OpenSpec.upto fnExactReadSensorSpec)) fnExactReadSensorUptoCard
end Rows
end Go.Proofs.YtopjccbjdcoanaaDoor
