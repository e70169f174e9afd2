/-
  DERIVED. GIVEN WITH THE SEED: THE PROGRAM's TIES (one call each: nine closed facts by the kernel) AND EACH ROW's TIE, after the 31st guide's Derived/Test/Toyas{Tie, Card}.lean. No idea stands in it: it is a product of the set-up. Laid BY PROGRAM, IN A SANDBOX (cutbox-door.mjs). By AI agents, Wed Nov 11 2026. No macro, syntax, notation, axiom, sorry.
-/
import Derived.Test.YtghnkpkellnmdaaGreatDoorRows
import Derived.LaidByTextLater
import Derived.SevenTiedAt
import Derived.LaidSub
import Derived.LaidOnce
namespace Go.Proofs.YtghnkpkellnmdaaGreatDoor
open Go
set_option maxRecDepth 100000
theorem seatTie1 : Tryz.prog.laidByTextLater [("math/bits.deBruijn32tab", Rows.laid_math_bits_deBruijn32tab), ("math/bits.deBruijn64tab", Rows.laid_math_bits_deBruijn64tab), ("internal/strconv.uint64pow10", Rows.laid_internal_strconv_uint64pow10), ("testamur/digest.constants", Rows.laid_testamur_digest_constants), ("testamur/syntax.anyNumber", Rows.laid_testamur_syntax_anyNumber), ("testamur/syntax.factors", Rows.laid_testamur_syntax_factors), ("testamur/syntax.editions", Rows.laid_testamur_syntax_editions), ("testamur/syntax.weights", Rows.laid_testamur_syntax_weights), ("testamur/syntax.mosts", Rows.laid_testamur_syntax_mosts)] [.data, .data, .data, .data, .wider, .wider, .wider, .wider, .wider] true :=
  Program.laidByTextLater_by_one 54 8 65 (by kernel_rfl) (by kernel_rfl) (by kernel_rfl) (by kernel_rfl) (by kernel_rfl) (by kernel_rfl) (fun _ _ => by kernel_rfl)
theorem noOwnUnsafe : Tryz.pinned.checked.prog.headLifts.contains "ownunsafe" = false := by kernel_rfl
theorem tie : Tryz.prog.laidByTextLater [("math/bits.deBruijn32tab", Rows.laid_math_bits_deBruijn32tab), ("math/bits.deBruijn64tab", Rows.laid_math_bits_deBruijn64tab), ("internal/strconv.uint64pow10", Rows.laid_internal_strconv_uint64pow10), ("testamur/digest.constants", Rows.laid_testamur_digest_constants), ("testamur/syntax.anyNumber", Rows.laid_testamur_syntax_anyNumber), ("testamur/syntax.factors", Rows.laid_testamur_syntax_factors), ("testamur/syntax.editions", Rows.laid_testamur_syntax_editions), ("testamur/syntax.weights", Rows.laid_testamur_syntax_weights), ("testamur/syntax.mosts", Rows.laid_testamur_syntax_mosts)] [.data, .data, .data, .data, .wider, .wider, .wider, .wider, .wider] true :=
  Program.laidByTextLater.sub seatTie1 ["math/bits.deBruijn32tab", "math/bits.deBruijn64tab", "internal/strconv.uint64pow10", "testamur/digest.constants", "testamur/syntax.anyNumber", "testamur/syntax.factors", "testamur/syntax.editions", "testamur/syntax.weights", "testamur/syntax.mosts"] (by kernel_rfl) (by kernel_rfl)
theorem schemasSteps_row_tie : Rows.schemasStepsRow.laidByTextAt .later Tryz.pinned [.data, .data, .data, .data, .wider, .wider, .wider, .wider, .wider] true :=
  OpenClaim.laidByTextAt_later rfl rfl tie noOwnUnsafe
theorem schemasText_row_tie : Rows.schemasTextRow.laidByTextAt .later Tryz.pinned [.data, .data, .data, .data, .wider, .wider, .wider, .wider, .wider] true :=
  OpenClaim.laidByTextAt_later rfl rfl tie noOwnUnsafe
theorem schemasStepsUpto_row_tie : Rows.schemasStepsUptoRow.laidByTextAt .later Tryz.pinned [.data, .data, .data, .data, .wider, .wider, .wider, .wider, .wider] true :=
  OpenClaim.laidByTextAt_later rfl rfl tie noOwnUnsafe
theorem schemasTextUpto_row_tie : Rows.schemasTextUptoRow.laidByTextAt .later Tryz.pinned [.data, .data, .data, .data, .wider, .wider, .wider, .wider, .wider] true :=
  OpenClaim.laidByTextAt_later rfl rfl tie noOwnUnsafe
end Go.Proofs.YtghnkpkellnmdaaGreatDoor
