/-
  DERIVED. GIVEN WITH THE SEED: THE CARDS: each row of YtanpgmgkmfckaaaGreatDoorRows.lean that lists a variable, with what it lists TIED to the program's text (the seventh form; the later family's looks); each row that meets fmt, with fmt's text TOLD by the authors' own Lean function (tested against real Go, not proved from fmt's source: count such statements apart). THE CARD IS WHAT COUNTS. Prove the row's statement (the work); the ties are given (YtanpgmgkmfckaaaGreatDoorTie.lean); close each card by the builder's one call (the guide's Derived/Test/ToyasCard.lean, 'card_holds'). Laid BY PROGRAM, IN A SANDBOX (cutbox-door.mjs). By AI agents, Wed Nov 11 2026. No macro, syntax, notation, axiom, sorry.
-/
import Derived.Test.YtanpgmgkmfckaaaGreatDoorRows
import GoSem.ClaimSeven
namespace Go.Proofs.YtanpgmgkmfckaaaGreatDoor
namespace Rows

/-- THE TIED CARD OF 'testamurlaw10.SyntaxParseSpec'. -/
def syntaxParseSpecCard : Claim7 := { stood := { row := syntaxParseSpecRow, standIns := [], harness := (true, "cf5cd1432f8b5183e5ff375dfa860e4ec6dfcdef503bc1231dabb980839ab96c"), looks := true }, kinds := [], alts := [], laidByText := true, laidKinds := [.data, .data, .data, .wider, .wider, .wider, .wider, .wider], laidTests := true, laidLooks := .later }
def SyntaxParseSpecCardSaid : Prop := Claim7.holds Tryz.pinned (.plain (OpenSpec.ofChange syntaxParseSpecSpec)) syntaxParseSpecCard

/-- THE TIED CARD OF 'testamurlaw10.SyntaxBack'. -/
def syntaxBackCard : Claim7 := { stood := { row := syntaxBackRow, standIns := [], harness := (true, "cf5cd1432f8b5183e5ff375dfa860e4ec6dfcdef503bc1231dabb980839ab96c"), looks := true }, kinds := [], alts := [], laidByText := true, laidKinds := [.data, .data, .data, .wider, .wider, .wider, .wider, .wider], laidTests := true, laidLooks := .later }
def SyntaxBackCardSaid : Prop := Claim7.holds Tryz.pinned (.plain (OpenSpec.ofChange syntaxBackSpec)) syntaxBackCard

/-- THE TIED CARD OF 'testamurlaw10.SyntaxAgain'. -/
def syntaxAgainCard : Claim7 := { stood := { row := syntaxAgainRow, standIns := [], harness := (true, "cf5cd1432f8b5183e5ff375dfa860e4ec6dfcdef503bc1231dabb980839ab96c"), looks := true }, kinds := [], alts := [], laidByText := true, laidKinds := [.data, .data, .data, .wider, .wider, .wider, .wider, .wider], laidTests := true, laidLooks := .later }
def SyntaxAgainCardSaid : Prop := Claim7.holds Tryz.pinned (.plain (OpenSpec.ofChange syntaxAgainSpec)) syntaxAgainCard

/-- THE TIED CARD OF 'testamurlaw10.SyntaxPlaces'. -/
def syntaxPlacesCard : Claim7 := { stood := { row := syntaxPlacesRow, standIns := [], harness := (true, "cf5cd1432f8b5183e5ff375dfa860e4ec6dfcdef503bc1231dabb980839ab96c"), looks := true }, kinds := [], alts := [], laidByText := true, laidKinds := [.data, .data, .data, .wider, .wider, .wider, .wider, .wider], laidTests := true, laidLooks := .later }
def SyntaxPlacesCardSaid : Prop := Claim7.holds Tryz.pinned (.plain (OpenSpec.ofChange syntaxPlacesSpec)) syntaxPlacesCard

/-- THE TIED CARD OF 'testamurlaw10.SyntaxJoins'. -/
def syntaxJoinsCard : Claim7 := { stood := { row := syntaxJoinsRow, standIns := [], harness := (true, "cf5cd1432f8b5183e5ff375dfa860e4ec6dfcdef503bc1231dabb980839ab96c"), looks := true }, kinds := [], alts := [], laidByText := true, laidKinds := [.data, .data, .data, .wider, .wider, .wider, .wider, .wider], laidTests := true, laidLooks := .later }
def SyntaxJoinsCardSaid : Prop := Claim7.holds Tryz.pinned (.plain (OpenSpec.ofChange syntaxJoinsSpec)) syntaxJoinsCard

/-- THE SECOND FORM's CARD OF 'testamurlaw10.SyntaxParseSpec'. -/
def syntaxParseSpecUptoCard : Claim7 := { stood := { row := syntaxParseSpecUptoRow, standIns := [], harness := (true, "cf5cd1432f8b5183e5ff375dfa860e4ec6dfcdef503bc1231dabb980839ab96c"), looks := true }, kinds := [], alts := [], laidByText := true, laidKinds := [.data, .data, .data, .wider, .wider, .wider, .wider, .wider], laidTests := true, laidLooks := .later }
def SyntaxParseSpecUptoCardSaid : Prop := Claim7.holds Tryz.pinned (.plain (OpenSpec.upto syntaxParseSpecSpec)) syntaxParseSpecUptoCard

/-- THE SECOND FORM's CARD OF 'testamurlaw10.SyntaxBack'. -/
def syntaxBackUptoCard : Claim7 := { stood := { row := syntaxBackUptoRow, standIns := [], harness := (true, "cf5cd1432f8b5183e5ff375dfa860e4ec6dfcdef503bc1231dabb980839ab96c"), looks := true }, kinds := [], alts := [], laidByText := true, laidKinds := [.data, .data, .data, .wider, .wider, .wider, .wider, .wider], laidTests := true, laidLooks := .later }
def SyntaxBackUptoCardSaid : Prop := Claim7.holds Tryz.pinned (.plain (OpenSpec.upto syntaxBackSpec)) syntaxBackUptoCard

/-- THE SECOND FORM's CARD OF 'testamurlaw10.SyntaxAgain'. -/
def syntaxAgainUptoCard : Claim7 := { stood := { row := syntaxAgainUptoRow, standIns := [], harness := (true, "cf5cd1432f8b5183e5ff375dfa860e4ec6dfcdef503bc1231dabb980839ab96c"), looks := true }, kinds := [], alts := [], laidByText := true, laidKinds := [.data, .data, .data, .wider, .wider, .wider, .wider, .wider], laidTests := true, laidLooks := .later }
def SyntaxAgainUptoCardSaid : Prop := Claim7.holds Tryz.pinned (.plain (OpenSpec.upto syntaxAgainSpec)) syntaxAgainUptoCard

/-- THE SECOND FORM's CARD OF 'testamurlaw10.SyntaxPlaces'. -/
def syntaxPlacesUptoCard : Claim7 := { stood := { row := syntaxPlacesUptoRow, standIns := [], harness := (true, "cf5cd1432f8b5183e5ff375dfa860e4ec6dfcdef503bc1231dabb980839ab96c"), looks := true }, kinds := [], alts := [], laidByText := true, laidKinds := [.data, .data, .data, .wider, .wider, .wider, .wider, .wider], laidTests := true, laidLooks := .later }
def SyntaxPlacesUptoCardSaid : Prop := Claim7.holds Tryz.pinned (.plain (OpenSpec.upto syntaxPlacesSpec)) syntaxPlacesUptoCard

/-- THE SECOND FORM's CARD OF 'testamurlaw10.SyntaxJoins'. -/
def syntaxJoinsUptoCard : Claim7 := { stood := { row := syntaxJoinsUptoRow, standIns := [], harness := (true, "cf5cd1432f8b5183e5ff375dfa860e4ec6dfcdef503bc1231dabb980839ab96c"), looks := true }, kinds := [], alts := [], laidByText := true, laidKinds := [.data, .data, .data, .wider, .wider, .wider, .wider, .wider], laidTests := true, laidLooks := .later }
def SyntaxJoinsUptoCardSaid : Prop := Claim7.holds Tryz.pinned (.plain (OpenSpec.upto syntaxJoinsSpec)) syntaxJoinsUptoCard
end Rows
end Go.Proofs.YtanpgmgkmfckaaaGreatDoor
