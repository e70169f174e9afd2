/-
  DERIVED. GIVEN WITH THE SEED: THE CARDS: each row of YtfedhegpmfkfoaaGreatDoorRows.lean that lists a variable, with what it lists TIED to the program's text (the seventh form; the later family's looks); each row that meets fmt, with fmt's text TOLD by the authors' own Lean function (tested against real Go, not proved from fmt's source: count such statements apart). THE CARD IS WHAT COUNTS. Prove the row's statement (the work); the ties are given (YtfedhegpmfkfoaaGreatDoorTie.lean); close each card by the builder's one call (the guide's Derived/Test/ToyasCard.lean, 'card_holds'). Laid BY PROGRAM, IN A SANDBOX (cutbox-door.mjs). By AI agents, Wed Nov 11 2026. No macro, syntax, notation, axiom, sorry.
-/
import Derived.Test.YtfedhegpmfkfoaaGreatDoorRows
import GoSem.ClaimSeven
namespace Go.Proofs.YtfedhegpmfkfoaaGreatDoor
namespace Rows

/-- THE TIED CARD OF 'testamurlaw16.SchemasOnce'. -/
def schemasOnceCard : Claim7 := { stood := { row := schemasOnceRow, standIns := [], harness := (true, "9a4302bf89941c0d89de8b7105f8a0eebe1f7c23b3eac12eeb640a30162d0ed8"), looks := true }, kinds := [], alts := [], laidByText := true, laidKinds := [.data, .data, .data, .data, .wider, .wider, .wider, .wider, .wider], laidTests := true, laidLooks := .later }
def SchemasOnceCardSaid : Prop := Claim7.holds Tryz.pinned (.plain (OpenSpec.ofChange schemasOnceSpec)) schemasOnceCard

/-- THE TIED CARD OF 'testamurlaw16.SchemasBack'. -/
def schemasBackCard : Claim7 := { stood := { row := schemasBackRow, standIns := [], harness := (true, "9a4302bf89941c0d89de8b7105f8a0eebe1f7c23b3eac12eeb640a30162d0ed8"), looks := true }, kinds := [], alts := [], laidByText := true, laidKinds := [.data, .data, .data, .data, .wider, .wider, .wider, .wider, .wider], laidTests := true, laidLooks := .later }
def SchemasBackCardSaid : Prop := Claim7.holds Tryz.pinned (.plain (OpenSpec.ofChange schemasBackSpec)) schemasBackCard

/-- THE SECOND FORM's CARD OF 'testamurlaw16.SchemasOnce'. -/
def schemasOnceUptoCard : Claim7 := { stood := { row := schemasOnceUptoRow, standIns := [], harness := (true, "9a4302bf89941c0d89de8b7105f8a0eebe1f7c23b3eac12eeb640a30162d0ed8"), looks := true }, kinds := [], alts := [], laidByText := true, laidKinds := [.data, .data, .data, .data, .wider, .wider, .wider, .wider, .wider], laidTests := true, laidLooks := .later }
def SchemasOnceUptoCardSaid : Prop := Claim7.holds Tryz.pinned (.plain (OpenSpec.upto schemasOnceSpec)) schemasOnceUptoCard

/-- THE SECOND FORM's CARD OF 'testamurlaw16.SchemasBack'. -/
def schemasBackUptoCard : Claim7 := { stood := { row := schemasBackUptoRow, standIns := [], harness := (true, "9a4302bf89941c0d89de8b7105f8a0eebe1f7c23b3eac12eeb640a30162d0ed8"), looks := true }, kinds := [], alts := [], laidByText := true, laidKinds := [.data, .data, .data, .data, .wider, .wider, .wider, .wider, .wider], laidTests := true, laidLooks := .later }
def SchemasBackUptoCardSaid : Prop := Claim7.holds Tryz.pinned (.plain (OpenSpec.upto schemasBackSpec)) schemasBackUptoCard
end Rows
end Go.Proofs.YtfedhegpmfkfoaaGreatDoor
