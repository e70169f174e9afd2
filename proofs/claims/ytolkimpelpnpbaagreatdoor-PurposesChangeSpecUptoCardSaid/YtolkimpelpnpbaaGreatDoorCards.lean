/-
  DERIVED. GIVEN WITH THE SEED: THE CARDS: each row of YtolkimpelpnpbaaGreatDoorRows.lean that lists a variable, with what it lists TIED to the program's text (the seventh form; the later family's looks); each row that meets fmt, with fmt's text TOLD by the authors' own Lean function (tested against real Go, not proved from fmt's source: count such statements apart). THE CARD IS WHAT COUNTS. Prove the row's statement (the work); the ties are given (YtolkimpelpnpbaaGreatDoorTie.lean); close each card by the builder's one call (the guide's Derived/Test/ToyasCard.lean, 'card_holds'). Laid BY PROGRAM, IN A SANDBOX (cutbox-door.mjs). By AI agents, Wed Nov 11 2026. No macro, syntax, notation, axiom, sorry.
-/
import Derived.Test.YtolkimpelpnpbaaGreatDoorRows
import GoSem.ClaimSeven
namespace Go.Proofs.YtolkimpelpnpbaaGreatDoor
namespace Rows

/-- THE TIED CARD OF 'testamurlaw26.PurposesCheckSpec'. -/
def purposesCheckSpecCard : Claim7 := { stood := { row := purposesCheckSpecRow, standIns := [], harness := (true, "a9db972ed01c161f88503db0916a02c090c74c5694e641e60f6ffaee9970ff32"), looks := true }, kinds := [], alts := [], laidByText := true, laidKinds := [.wider, .wider, .wider, .wider, .wider], laidTests := true, laidLooks := .later }
def PurposesCheckSpecCardSaid : Prop := Claim7.holds Tryz.pinned (.plain (OpenSpec.ofChange purposesCheckSpecSpec)) purposesCheckSpecCard

/-- THE TIED CARD OF 'testamurlaw26.PurposesChangeSpec'. -/
def purposesChangeSpecCard : Claim7 := { stood := { row := purposesChangeSpecRow, standIns := [], harness := (true, "a9db972ed01c161f88503db0916a02c090c74c5694e641e60f6ffaee9970ff32"), looks := true }, kinds := [], alts := [], laidByText := true, laidKinds := [.wider, .wider, .wider, .wider, .wider], laidTests := true, laidLooks := .later }
def PurposesChangeSpecCardSaid : Prop := Claim7.holds Tryz.pinned (.plain (OpenSpec.ofChange purposesChangeSpecSpec)) purposesChangeSpecCard

/-- THE TIED CARD OF 'testamurlaw26.PurposesSmallest'. -/
def purposesSmallestCard : Claim7 := { stood := { row := purposesSmallestRow, standIns := [], harness := (true, "a9db972ed01c161f88503db0916a02c090c74c5694e641e60f6ffaee9970ff32"), looks := true }, kinds := [], alts := [], laidByText := true, laidKinds := [.wider, .wider, .wider, .wider, .wider], laidTests := true, laidLooks := .later }
def PurposesSmallestCardSaid : Prop := Claim7.holds Tryz.pinned (.plain (OpenSpec.ofChange purposesSmallestSpec)) purposesSmallestCard

/-- THE TIED CARD OF 'testamurlaw26.PurposesLess'. -/
def purposesLessCard : Claim7 := { stood := { row := purposesLessRow, standIns := [], harness := (true, "a9db972ed01c161f88503db0916a02c090c74c5694e641e60f6ffaee9970ff32"), looks := true }, kinds := [], alts := [], laidByText := true, laidKinds := [.wider, .wider, .wider, .wider, .wider], laidTests := true, laidLooks := .later }
def PurposesLessCardSaid : Prop := Claim7.holds Tryz.pinned (.plain (OpenSpec.ofChange purposesLessSpec)) purposesLessCard

/-- THE TIED CARD OF 'testamurlaw26.PurposesTwice'. -/
def purposesTwiceCard : Claim7 := { stood := { row := purposesTwiceRow, standIns := [], harness := (true, "a9db972ed01c161f88503db0916a02c090c74c5694e641e60f6ffaee9970ff32"), looks := true }, kinds := [], alts := [], laidByText := true, laidKinds := [.wider, .wider, .wider, .wider, .wider], laidTests := true, laidLooks := .later }
def PurposesTwiceCardSaid : Prop := Claim7.holds Tryz.pinned (.plain (OpenSpec.ofChange purposesTwiceSpec)) purposesTwiceCard

/-- THE SECOND FORM's CARD OF 'testamurlaw26.PurposesCheckSpec'. -/
def purposesCheckSpecUptoCard : Claim7 := { stood := { row := purposesCheckSpecUptoRow, standIns := [], harness := (true, "a9db972ed01c161f88503db0916a02c090c74c5694e641e60f6ffaee9970ff32"), looks := true }, kinds := [], alts := [], laidByText := true, laidKinds := [.wider, .wider, .wider, .wider, .wider], laidTests := true, laidLooks := .later }
def PurposesCheckSpecUptoCardSaid : Prop := Claim7.holds Tryz.pinned (.plain (OpenSpec.upto purposesCheckSpecSpec)) purposesCheckSpecUptoCard

/-- THE SECOND FORM's CARD OF 'testamurlaw26.PurposesChangeSpec'. -/
def purposesChangeSpecUptoCard : Claim7 := { stood := { row := purposesChangeSpecUptoRow, standIns := [], harness := (true, "a9db972ed01c161f88503db0916a02c090c74c5694e641e60f6ffaee9970ff32"), looks := true }, kinds := [], alts := [], laidByText := true, laidKinds := [.wider, .wider, .wider, .wider, .wider], laidTests := true, laidLooks := .later }
def PurposesChangeSpecUptoCardSaid : Prop := Claim7.holds Tryz.pinned (.plain (OpenSpec.upto purposesChangeSpecSpec)) purposesChangeSpecUptoCard

/-- THE SECOND FORM's CARD OF 'testamurlaw26.PurposesSmallest'. -/
def purposesSmallestUptoCard : Claim7 := { stood := { row := purposesSmallestUptoRow, standIns := [], harness := (true, "a9db972ed01c161f88503db0916a02c090c74c5694e641e60f6ffaee9970ff32"), looks := true }, kinds := [], alts := [], laidByText := true, laidKinds := [.wider, .wider, .wider, .wider, .wider], laidTests := true, laidLooks := .later }
def PurposesSmallestUptoCardSaid : Prop := Claim7.holds Tryz.pinned (.plain (OpenSpec.upto purposesSmallestSpec)) purposesSmallestUptoCard

/-- THE SECOND FORM's CARD OF 'testamurlaw26.PurposesLess'. -/
def purposesLessUptoCard : Claim7 := { stood := { row := purposesLessUptoRow, standIns := [], harness := (true, "a9db972ed01c161f88503db0916a02c090c74c5694e641e60f6ffaee9970ff32"), looks := true }, kinds := [], alts := [], laidByText := true, laidKinds := [.wider, .wider, .wider, .wider, .wider], laidTests := true, laidLooks := .later }
def PurposesLessUptoCardSaid : Prop := Claim7.holds Tryz.pinned (.plain (OpenSpec.upto purposesLessSpec)) purposesLessUptoCard

/-- THE SECOND FORM's CARD OF 'testamurlaw26.PurposesTwice'. -/
def purposesTwiceUptoCard : Claim7 := { stood := { row := purposesTwiceUptoRow, standIns := [], harness := (true, "a9db972ed01c161f88503db0916a02c090c74c5694e641e60f6ffaee9970ff32"), looks := true }, kinds := [], alts := [], laidByText := true, laidKinds := [.wider, .wider, .wider, .wider, .wider], laidTests := true, laidLooks := .later }
def PurposesTwiceUptoCardSaid : Prop := Claim7.holds Tryz.pinned (.plain (OpenSpec.upto purposesTwiceSpec)) purposesTwiceUptoCard
end Rows
end Go.Proofs.YtolkimpelpnpbaaGreatDoor
