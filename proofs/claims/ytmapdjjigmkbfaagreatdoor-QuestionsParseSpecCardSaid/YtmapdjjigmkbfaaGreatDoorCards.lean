/-
  DERIVED. GIVEN WITH THE SEED: THE CARDS: each row of YtmapdjjigmkbfaaGreatDoorRows.lean that lists a variable, with what it lists TIED to the program's text (the seventh form; the later family's looks); each row that meets fmt, with fmt's text TOLD by the authors' own Lean function (tested against real Go, not proved from fmt's source: count such statements apart). THE CARD IS WHAT COUNTS. Prove the row's statement (the work); the ties are given (YtmapdjjigmkbfaaGreatDoorTie.lean); close each card by the builder's one call (the guide's Derived/Test/ToyasCard.lean, 'card_holds'). Laid BY PROGRAM, IN A SANDBOX (cutbox-door.mjs). By AI agents, Wed Nov 11 2026. No macro, syntax, notation, axiom, sorry.
-/
import Derived.Test.YtmapdjjigmkbfaaGreatDoorRows
import GoSem.ClaimSeven
namespace Go.Proofs.YtmapdjjigmkbfaaGreatDoor
namespace Rows

/-- THE TIED CARD OF 'testamurlaw21.QuestionsParseSpec'. -/
def questionsParseSpecCard : Claim7 := { stood := { row := questionsParseSpecRow, standIns := [], harness := (true, "bd053126c3707e8e365de890536bac7f2d6155c4efd319259b8fe18b41d16bca"), looks := true }, kinds := [], alts := [], laidByText := true, laidKinds := [.data, .data, .data, .data], laidTests := true, laidLooks := .later }
def QuestionsParseSpecCardSaid : Prop := Claim7.holds Tryz.pinned (.plain (OpenSpec.ofChange questionsParseSpecSpec)) questionsParseSpecCard

/-- THE TIED CARD OF 'testamurlaw21.QuestionsBack'. -/
def questionsBackCard : Claim7 := { stood := { row := questionsBackRow, standIns := [], harness := (true, "bd053126c3707e8e365de890536bac7f2d6155c4efd319259b8fe18b41d16bca"), looks := true }, kinds := [], alts := [], laidByText := true, laidKinds := [.data, .data, .data, .data], laidTests := true, laidLooks := .later }
def QuestionsBackCardSaid : Prop := Claim7.holds Tryz.pinned (.plain (OpenSpec.ofChange questionsBackSpec)) questionsBackCard

/-- THE TIED CARD OF 'testamurlaw21.QuestionsWrong'. -/
def questionsWrongCard : Claim7 := { stood := { row := questionsWrongRow, standIns := [], harness := (true, "bd053126c3707e8e365de890536bac7f2d6155c4efd319259b8fe18b41d16bca"), looks := true }, kinds := [], alts := [], laidByText := true, laidKinds := [.data, .data, .data, .data], laidTests := true, laidLooks := .later }
def QuestionsWrongCardSaid : Prop := Claim7.holds Tryz.pinned (.plain (OpenSpec.ofChange questionsWrongSpec)) questionsWrongCard

/-- THE TIED CARD OF 'testamurlaw21.QuestionsTyped'. -/
def questionsTypedCard : Claim7 := { stood := { row := questionsTypedRow, standIns := [], harness := (true, "bd053126c3707e8e365de890536bac7f2d6155c4efd319259b8fe18b41d16bca"), looks := true }, kinds := [], alts := [], laidByText := true, laidKinds := [.data, .data, .data, .data], laidTests := true, laidLooks := .later }
def QuestionsTypedCardSaid : Prop := Claim7.holds Tryz.pinned (.plain (OpenSpec.ofChange questionsTypedSpec)) questionsTypedCard

/-- THE TIED CARD OF 'testamurlaw21.QuestionsDigest'. -/
def questionsDigestCard : Claim7 := { stood := { row := questionsDigestRow, standIns := [], harness := (true, "bd053126c3707e8e365de890536bac7f2d6155c4efd319259b8fe18b41d16bca"), looks := true }, kinds := [], alts := [], laidByText := true, laidKinds := [.data, .data, .data, .data], laidTests := true, laidLooks := .later }
def QuestionsDigestCardSaid : Prop := Claim7.holds Tryz.pinned (.plain (OpenSpec.ofChange questionsDigestSpec)) questionsDigestCard

/-- THE SECOND FORM's CARD OF 'testamurlaw21.QuestionsParseSpec'. -/
def questionsParseSpecUptoCard : Claim7 := { stood := { row := questionsParseSpecUptoRow, standIns := [], harness := (true, "bd053126c3707e8e365de890536bac7f2d6155c4efd319259b8fe18b41d16bca"), looks := true }, kinds := [], alts := [], laidByText := true, laidKinds := [.data, .data, .data, .data], laidTests := true, laidLooks := .later }
def QuestionsParseSpecUptoCardSaid : Prop := Claim7.holds Tryz.pinned (.plain (OpenSpec.upto questionsParseSpecSpec)) questionsParseSpecUptoCard

/-- THE SECOND FORM's CARD OF 'testamurlaw21.QuestionsBack'. -/
def questionsBackUptoCard : Claim7 := { stood := { row := questionsBackUptoRow, standIns := [], harness := (true, "bd053126c3707e8e365de890536bac7f2d6155c4efd319259b8fe18b41d16bca"), looks := true }, kinds := [], alts := [], laidByText := true, laidKinds := [.data, .data, .data, .data], laidTests := true, laidLooks := .later }
def QuestionsBackUptoCardSaid : Prop := Claim7.holds Tryz.pinned (.plain (OpenSpec.upto questionsBackSpec)) questionsBackUptoCard

/-- THE SECOND FORM's CARD OF 'testamurlaw21.QuestionsWrong'. -/
def questionsWrongUptoCard : Claim7 := { stood := { row := questionsWrongUptoRow, standIns := [], harness := (true, "bd053126c3707e8e365de890536bac7f2d6155c4efd319259b8fe18b41d16bca"), looks := true }, kinds := [], alts := [], laidByText := true, laidKinds := [.data, .data, .data, .data], laidTests := true, laidLooks := .later }
def QuestionsWrongUptoCardSaid : Prop := Claim7.holds Tryz.pinned (.plain (OpenSpec.upto questionsWrongSpec)) questionsWrongUptoCard

/-- THE SECOND FORM's CARD OF 'testamurlaw21.QuestionsTyped'. -/
def questionsTypedUptoCard : Claim7 := { stood := { row := questionsTypedUptoRow, standIns := [], harness := (true, "bd053126c3707e8e365de890536bac7f2d6155c4efd319259b8fe18b41d16bca"), looks := true }, kinds := [], alts := [], laidByText := true, laidKinds := [.data, .data, .data, .data], laidTests := true, laidLooks := .later }
def QuestionsTypedUptoCardSaid : Prop := Claim7.holds Tryz.pinned (.plain (OpenSpec.upto questionsTypedSpec)) questionsTypedUptoCard

/-- THE SECOND FORM's CARD OF 'testamurlaw21.QuestionsDigest'. -/
def questionsDigestUptoCard : Claim7 := { stood := { row := questionsDigestUptoRow, standIns := [], harness := (true, "bd053126c3707e8e365de890536bac7f2d6155c4efd319259b8fe18b41d16bca"), looks := true }, kinds := [], alts := [], laidByText := true, laidKinds := [.data, .data, .data, .data], laidTests := true, laidLooks := .later }
def QuestionsDigestUptoCardSaid : Prop := Claim7.holds Tryz.pinned (.plain (OpenSpec.upto questionsDigestSpec)) questionsDigestUptoCard
end Rows
end Go.Proofs.YtmapdjjigmkbfaaGreatDoor
