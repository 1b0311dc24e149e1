/-
  DERIVED. GIVEN WITH THE SEED: THE CARDS: each row of YtojmfjdbggpllaaDoorRows.lean that lists a variable, with what it lists TIED to the program's text (the seventh form; the later family's looks); each row that meets fmt, with fmt's text TOLD by the authors' own Lean function (tested against real Go, not proved from fmt's source: count such statements apart). THE CARD IS WHAT COUNTS. Prove the row's statement (the work); the ties are given (YtojmfjdbggpllaaDoorTie.lean); close each card by the builder's one call (the guide's Derived/Test/ToyasCard.lean, 'card_holds'). Laid BY PROGRAM, IN A SANDBOX (cutbox-door.mjs). By AI agents, Wed Nov 11 2026. No macro, syntax, notation, axiom, sorry.
-/
import Derived.Test.YtojmfjdbggpllaaDoorRows
import GoSem.ClaimSeven
namespace Go.Proofs.YtojmfjdbggpllaaDoor
namespace Rows

/-- THE TIED CARD OF 'laws.FnExactWantText'. -/
def fnExactWantTextCard : Claim7 := { stood := { row := fnExactWantTextRow, standIns := [], harness := (true, "2463471afd607f96f6bbfbdb51f512b2bc6e42dd69afa52f103d5a2c50028414"), looks := false }, kinds := [], alts := [], laidByText := true, laidKinds := [.data, .data, .data], laidTests := true, laidLooks := .later }
def FnExactWantTextCardSaid : Prop := Claim7.holds Tryd.pinned (.plain (OpenSpec.ofChange fnExactWantTextSpec)) fnExactWantTextCard

/-- THE TIED CARD OF 'laws.FnExactJobText'. -/
def fnExactJobTextCard : Claim7 := { stood := { row := fnExactJobTextRow, standIns := [], harness := (true, "2463471afd607f96f6bbfbdb51f512b2bc6e42dd69afa52f103d5a2c50028414"), looks := false }, kinds := [], alts := [], laidByText := true, laidKinds := [.data, .data, .data], laidTests := true, laidLooks := .later }
def FnExactJobTextCardSaid : Prop := Claim7.holds Tryd.pinned (.plain (OpenSpec.ofChange fnExactJobTextSpec)) fnExactJobTextCard

/-- THE SECOND FORM's CARD OF 'laws.FnExactWantText'. -/
def fnExactWantTextUptoCard : Claim7 := { stood := { row := fnExactWantTextUptoRow, standIns := [], harness := (true, "2463471afd607f96f6bbfbdb51f512b2bc6e42dd69afa52f103d5a2c50028414"), looks := false }, kinds := [], alts := [], laidByText := true, laidKinds := [.data, .data, .data], laidTests := true, laidLooks := .later }
def FnExactWantTextUptoCardSaid : Prop := Claim7.holds Tryd.pinned (.plain (OpenSpec.upto fnExactWantTextSpec)) fnExactWantTextUptoCard

/-- THE SECOND FORM's CARD OF 'laws.FnExactJobText'. -/
def fnExactJobTextUptoCard : Claim7 := { stood := { row := fnExactJobTextUptoRow, standIns := [], harness := (true, "2463471afd607f96f6bbfbdb51f512b2bc6e42dd69afa52f103d5a2c50028414"), looks := false }, kinds := [], alts := [], laidByText := true, laidKinds := [.data, .data, .data], laidTests := true, laidLooks := .later }
def FnExactJobTextUptoCardSaid : Prop := Claim7.holds Tryd.pinned (.plain (OpenSpec.upto fnExactJobTextSpec)) fnExactJobTextUptoCard
end Rows
end Go.Proofs.YtojmfjdbggpllaaDoor
