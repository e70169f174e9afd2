/-
  DERIVED. GIVEN WITH THE SEED: THE CARDS: each row of YtghnkpkellnmdaaGreatDoorRows.lean that lists a variable, with what it lists TIED to the program's text (the seventh form; the later family's looks); each row that meets fmt, with fmt's text TOLD by the authors' own Lean function (tested against real Go, not proved from fmt's source: count such statements apart). THE CARD IS WHAT COUNTS. Prove the row's statement (the work); the ties are given (YtghnkpkellnmdaaGreatDoorTie.lean); close each card by the builder's one call (the guide's Derived/Test/ToyasCard.lean, 'card_holds'). Laid BY PROGRAM, IN A SANDBOX (cutbox-door.mjs). By AI agents, Wed Nov 11 2026. No macro, syntax, notation, axiom, sorry.
-/
import Derived.Test.YtghnkpkellnmdaaGreatDoorRows
import GoSem.ClaimSeven
namespace Go.Proofs.YtghnkpkellnmdaaGreatDoor
namespace Rows

/-- THE TIED CARD OF 'testamurlaw16.SchemasSteps'. -/
def schemasStepsCard : Claim7 := { stood := { row := schemasStepsRow, standIns := [], harness := (true, "ff78e27e026cd0974ed4d4c7196a577dc33dbdfc50353d51fbfc17876ae08fed"), looks := true }, kinds := [], alts := [], laidByText := true, laidKinds := [.data, .data, .data, .data, .wider, .wider, .wider, .wider, .wider], laidTests := true, laidLooks := .later }
def SchemasStepsCardSaid : Prop := Claim7.holds Tryz.pinned (.plain (OpenSpec.ofChange schemasStepsSpec)) schemasStepsCard

/-- THE TIED CARD OF 'testamurlaw16.SchemasText'. -/
def schemasTextCard : Claim7 := { stood := { row := schemasTextRow, standIns := [], harness := (true, "ff78e27e026cd0974ed4d4c7196a577dc33dbdfc50353d51fbfc17876ae08fed"), looks := true }, kinds := [], alts := [], laidByText := true, laidKinds := [.data, .data, .data, .data, .wider, .wider, .wider, .wider, .wider], laidTests := true, laidLooks := .later }
def SchemasTextCardSaid : Prop := Claim7.holds Tryz.pinned (.plain (OpenSpec.ofChange schemasTextSpec)) schemasTextCard

/-- THE SECOND FORM's CARD OF 'testamurlaw16.SchemasSteps'. -/
def schemasStepsUptoCard : Claim7 := { stood := { row := schemasStepsUptoRow, standIns := [], harness := (true, "ff78e27e026cd0974ed4d4c7196a577dc33dbdfc50353d51fbfc17876ae08fed"), looks := true }, kinds := [], alts := [], laidByText := true, laidKinds := [.data, .data, .data, .data, .wider, .wider, .wider, .wider, .wider], laidTests := true, laidLooks := .later }
def SchemasStepsUptoCardSaid : Prop := Claim7.holds Tryz.pinned (.plain (OpenSpec.upto schemasStepsSpec)) schemasStepsUptoCard

/-- THE SECOND FORM's CARD OF 'testamurlaw16.SchemasText'. -/
def schemasTextUptoCard : Claim7 := { stood := { row := schemasTextUptoRow, standIns := [], harness := (true, "ff78e27e026cd0974ed4d4c7196a577dc33dbdfc50353d51fbfc17876ae08fed"), looks := true }, kinds := [], alts := [], laidByText := true, laidKinds := [.data, .data, .data, .data, .wider, .wider, .wider, .wider, .wider], laidTests := true, laidLooks := .later }
def SchemasTextUptoCardSaid : Prop := Claim7.holds Tryz.pinned (.plain (OpenSpec.upto schemasTextSpec)) schemasTextUptoCard
end Rows
end Go.Proofs.YtghnkpkellnmdaaGreatDoor
