/-
  NARROWER THAN 'FOR EVERY INPUT', by the rows' own cells (each row's printed sentence says how): SyntaxParseSpec: laid · SyntaxBack: laid · SyntaxAgain: laid · SyntaxPlaces: laid · SyntaxJoins: laid.
  DERIVED. THE GIVEN ROWS OF THIS SEAT. 5 by the template 'for every input the law returns true; each argument reads behind the call as it read before'; 0 by the template 'total and deterministic' (their statements: YtanpgmgkmfckaaaGreatDoorTotals.lean).
  GIVEN WITH THE SEED: the statements are not yours to turn. If you find one false, say at which input.
  Laid BY PROGRAM, IN A SANDBOX (cutbox-rows.mjs): the forced cells as the released guide's own fill.sh prints them over the translation c467fa19c7e1e74a… (all of the seat's roots in one cut). By AI agents, Wed Nov 11 2026. No macro, syntax, notation, axiom, sorry.
-/
import Derived.Test.YtanpgmgkmfckaaaGreatDoorChecked
import GoSem.Claim
import GoSem.ClaimJoined
import GoSem.ClaimMapViews
import Derived.JoinedTies
import Derived.KernelRfl
namespace Go.Proofs.YtanpgmgkmfckaaaGreatDoor
/- THE CELL 'sum', in the pinned program and in every row, IS THE sha256 OF THE DUMP (.gsa) THAT YtanpgmgkmfckaaaGreatDoorProg.lean LOADS. Nothing in Lean hashes anything: it is a label: what it is worth is what the hold of that sum in a sandbox is worth. -/
noncomputable def Tryz.pinned : Pinned := { name := "ytanpgmgkmfckaaagreatdoor", sum := "c467fa19c7e1e74a5b6a0d2a371a6d65e8c992f76c873386320461f55157bf37", checked := Tryz.checked }
namespace Rows
def none {H : Type} : Left H := { results := [], args := [] }

/- WHAT THE LISTED PACKAGE-LEVEL VARIABLES READ AS WHEN THE CALL BEGINS. Each datum BY PROGRAM (the guide's laid-datum.mjs) off the statement by which the dump's own 'gosem.cut.vars' lays the variable. In a bare row this is a premise. The card (YtanpgmgkmfckaaaGreatDoorCards.lean) ties it to the program's text. -/
def laid_math_bits_deBruijn32tab {H : Type} : DataW H := .agg [.lit (.int .u8 0), .lit (.int .u8 1), .lit (.int .u8 28), .lit (.int .u8 2), .lit (.int .u8 29), .lit (.int .u8 14), .lit (.int .u8 24), .lit (.int .u8 3), .lit (.int .u8 30), .lit (.int .u8 22), .lit (.int .u8 20), .lit (.int .u8 15), .lit (.int .u8 25), .lit (.int .u8 17), .lit (.int .u8 4), .lit (.int .u8 8), .lit (.int .u8 31), .lit (.int .u8 27), .lit (.int .u8 13), .lit (.int .u8 23), .lit (.int .u8 21), .lit (.int .u8 19), .lit (.int .u8 16), .lit (.int .u8 7), .lit (.int .u8 26), .lit (.int .u8 12), .lit (.int .u8 18), .lit (.int .u8 6), .lit (.int .u8 11), .lit (.int .u8 5), .lit (.int .u8 10), .lit (.int .u8 9)]
def laid_math_bits_deBruijn64tab {H : Type} : DataW H := .agg [.lit (.int .u8 0), .lit (.int .u8 1), .lit (.int .u8 56), .lit (.int .u8 2), .lit (.int .u8 57), .lit (.int .u8 49), .lit (.int .u8 28), .lit (.int .u8 3), .lit (.int .u8 61), .lit (.int .u8 58), .lit (.int .u8 42), .lit (.int .u8 50), .lit (.int .u8 38), .lit (.int .u8 29), .lit (.int .u8 17), .lit (.int .u8 4), .lit (.int .u8 62), .lit (.int .u8 47), .lit (.int .u8 59), .lit (.int .u8 36), .lit (.int .u8 45), .lit (.int .u8 43), .lit (.int .u8 51), .lit (.int .u8 22), .lit (.int .u8 53), .lit (.int .u8 39), .lit (.int .u8 33), .lit (.int .u8 30), .lit (.int .u8 24), .lit (.int .u8 18), .lit (.int .u8 12), .lit (.int .u8 5), .lit (.int .u8 63), .lit (.int .u8 55), .lit (.int .u8 48), .lit (.int .u8 27), .lit (.int .u8 60), .lit (.int .u8 41), .lit (.int .u8 37), .lit (.int .u8 16), .lit (.int .u8 46), .lit (.int .u8 35), .lit (.int .u8 44), .lit (.int .u8 21), .lit (.int .u8 52), .lit (.int .u8 32), .lit (.int .u8 23), .lit (.int .u8 11), .lit (.int .u8 54), .lit (.int .u8 26), .lit (.int .u8 40), .lit (.int .u8 15), .lit (.int .u8 34), .lit (.int .u8 20), .lit (.int .u8 31), .lit (.int .u8 10), .lit (.int .u8 25), .lit (.int .u8 14), .lit (.int .u8 19), .lit (.int .u8 9), .lit (.int .u8 13), .lit (.int .u8 8), .lit (.int .u8 7), .lit (.int .u8 6)]
def laid_internal_strconv_uint64pow10 {H : Type} : DataW H := .agg [.lit (.int .u64 1), .lit (.int .u64 10), .lit (.int .u64 100), .lit (.int .u64 1000), .lit (.int .u64 10000), .lit (.int .u64 100000), .lit (.int .u64 1000000), .lit (.int .u64 10000000), .lit (.int .u64 100000000), .lit (.int .u64 1000000000), .lit (.int .u64 10000000000), .lit (.int .u64 100000000000), .lit (.int .u64 1000000000000), .lit (.int .u64 10000000000000), .lit (.int .u64 100000000000000), .lit (.int .u64 1000000000000000), .lit (.int .u64 10000000000000000), .lit (.int .u64 100000000000000000), .lit (.int .u64 1000000000000000000), .lit (.int .u64 10000000000000000000)]
def laid_testamur_syntax_anyNumber {H : Type} : DataW H := .agg [.lit (.int .i64 0), .lit (.int .i64 1048576)]
def laid_testamur_syntax_factors {H : Type} : DataW H := .agg [.lit (.int .i64 2), .lit (.int .i64 1000)]
def laid_testamur_syntax_editions {H : Type} : DataW H := .agg [.lit (.int .i64 1), .lit (.int .i64 255)]
def laid_testamur_syntax_weights {H : Type} : DataW H := .agg [.lit (.int .i64 0), .lit (.int .i64 9)]
def laid_testamur_syntax_mosts {H : Type} : DataW H := .agg [.lit (.int .i64 0), .lit (.int .i64 32)]

/-- 'testamurlaw10.SyntaxParseSpec': WHATEVER THE INPUT: true; the input reads as it did. -/
def syntaxParseSpecSpec : ChangeSpec := { name := "syntaxParseSpec", fn := fun _ => fun
  | [d] => { results := [.lit (.bool true)], args := [d] }
  | _ => none }
def syntaxParseSpecRow : OpenClaim := { program := "ytanpgmgkmfckaaagreatdoor", sum := "c467fa19c7e1e74a5b6a0d2a371a6d65e8c992f76c873386320461f55157bf37", func := "testamur/testamurlaw10.SyntaxParseSpec", spec := "syntaxParseSpec", inPlace := ["internal/bytealg.IndexByteString", "internal/bytealg.IndexString", "internal/abi.NoEscape"], unfollowed := true, recurses := true, named := ["testamur/syntax.factors", "testamur/syntax.editions", "testamur/syntax.weights", "testamur/syntax.anyNumber", "testamur/syntax.mosts", "internal/bytealg.MaxLen", "internal/strconv.uint64pow10", "math/bits.deBruijn32tab", "math/bits.deBruijn64tab"], apart := false, laid := [("math/bits.deBruijn32tab", laid_math_bits_deBruijn32tab), ("math/bits.deBruijn64tab", laid_math_bits_deBruijn64tab), ("internal/strconv.uint64pow10", laid_internal_strconv_uint64pow10), ("testamur/syntax.anyNumber", laid_testamur_syntax_anyNumber), ("testamur/syntax.factors", laid_testamur_syntax_factors), ("testamur/syntax.editions", laid_testamur_syntax_editions), ("testamur/syntax.weights", laid_testamur_syntax_weights), ("testamur/syntax.mosts", laid_testamur_syntax_mosts)] }
def SyntaxParseSpecSaid : Prop := syntaxParseSpecRow.holds Tryz.pinned (OpenSpec.ofChange syntaxParseSpecSpec)

/-- ITS FALSE NEIGHBOUR: 'it returns false'. Refute it at one input. -/
def syntaxParseSpecWrong : ChangeSpec := { name := "syntaxParseSpec", fn := fun _ => fun
  | [d] => { results := [.lit (.bool false)], args := [d] }
  | _ => none }
def SyntaxParseSpecWrongFalsely : Prop := syntaxParseSpecRow.holds Tryz.pinned (OpenSpec.ofChange syntaxParseSpecWrong)

/-- 'testamurlaw10.SyntaxBack': WHATEVER THE INPUT: true; the input reads as it did. -/
def syntaxBackSpec : ChangeSpec := { name := "syntaxBack", fn := fun _ => fun
  | [d] => { results := [.lit (.bool true)], args := [d] }
  | _ => none }
def syntaxBackRow : OpenClaim := { program := "ytanpgmgkmfckaaagreatdoor", sum := "c467fa19c7e1e74a5b6a0d2a371a6d65e8c992f76c873386320461f55157bf37", func := "testamur/testamurlaw10.SyntaxBack", spec := "syntaxBack", inPlace := ["internal/bytealg.IndexByteString", "internal/bytealg.IndexString", "internal/abi.NoEscape"], unfollowed := true, recurses := true, named := ["testamur/syntax.factors", "testamur/syntax.editions", "testamur/syntax.weights", "testamur/syntax.anyNumber", "testamur/syntax.mosts", "internal/bytealg.MaxLen", "internal/strconv.uint64pow10", "math/bits.deBruijn32tab", "math/bits.deBruijn64tab"], apart := false, laid := [("math/bits.deBruijn32tab", laid_math_bits_deBruijn32tab), ("math/bits.deBruijn64tab", laid_math_bits_deBruijn64tab), ("internal/strconv.uint64pow10", laid_internal_strconv_uint64pow10), ("testamur/syntax.anyNumber", laid_testamur_syntax_anyNumber), ("testamur/syntax.factors", laid_testamur_syntax_factors), ("testamur/syntax.editions", laid_testamur_syntax_editions), ("testamur/syntax.weights", laid_testamur_syntax_weights), ("testamur/syntax.mosts", laid_testamur_syntax_mosts)] }
def SyntaxBackSaid : Prop := syntaxBackRow.holds Tryz.pinned (OpenSpec.ofChange syntaxBackSpec)

/-- ITS FALSE NEIGHBOUR: 'it returns false'. Refute it at one input. -/
def syntaxBackWrong : ChangeSpec := { name := "syntaxBack", fn := fun _ => fun
  | [d] => { results := [.lit (.bool false)], args := [d] }
  | _ => none }
def SyntaxBackWrongFalsely : Prop := syntaxBackRow.holds Tryz.pinned (OpenSpec.ofChange syntaxBackWrong)

/-- 'testamurlaw10.SyntaxAgain': WHATEVER THE INPUT: true; the input reads as it did. -/
def syntaxAgainSpec : ChangeSpec := { name := "syntaxAgain", fn := fun _ => fun
  | [d] => { results := [.lit (.bool true)], args := [d] }
  | _ => none }
def syntaxAgainRow : OpenClaim := { program := "ytanpgmgkmfckaaagreatdoor", sum := "c467fa19c7e1e74a5b6a0d2a371a6d65e8c992f76c873386320461f55157bf37", func := "testamur/testamurlaw10.SyntaxAgain", spec := "syntaxAgain", inPlace := ["internal/bytealg.IndexByteString", "internal/bytealg.IndexString", "internal/abi.NoEscape"], unfollowed := true, recurses := true, named := ["testamur/syntax.factors", "testamur/syntax.editions", "testamur/syntax.weights", "testamur/syntax.anyNumber", "testamur/syntax.mosts", "internal/bytealg.MaxLen", "internal/strconv.uint64pow10", "math/bits.deBruijn32tab", "math/bits.deBruijn64tab"], apart := false, laid := [("math/bits.deBruijn32tab", laid_math_bits_deBruijn32tab), ("math/bits.deBruijn64tab", laid_math_bits_deBruijn64tab), ("internal/strconv.uint64pow10", laid_internal_strconv_uint64pow10), ("testamur/syntax.anyNumber", laid_testamur_syntax_anyNumber), ("testamur/syntax.factors", laid_testamur_syntax_factors), ("testamur/syntax.editions", laid_testamur_syntax_editions), ("testamur/syntax.weights", laid_testamur_syntax_weights), ("testamur/syntax.mosts", laid_testamur_syntax_mosts)] }
def SyntaxAgainSaid : Prop := syntaxAgainRow.holds Tryz.pinned (OpenSpec.ofChange syntaxAgainSpec)

/-- ITS FALSE NEIGHBOUR: 'it returns false'. Refute it at one input. -/
def syntaxAgainWrong : ChangeSpec := { name := "syntaxAgain", fn := fun _ => fun
  | [d] => { results := [.lit (.bool false)], args := [d] }
  | _ => none }
def SyntaxAgainWrongFalsely : Prop := syntaxAgainRow.holds Tryz.pinned (OpenSpec.ofChange syntaxAgainWrong)

/-- 'testamurlaw10.SyntaxPlaces': WHATEVER THE INPUT: true; the input reads as it did. -/
def syntaxPlacesSpec : ChangeSpec := { name := "syntaxPlaces", fn := fun _ => fun
  | [d] => { results := [.lit (.bool true)], args := [d] }
  | _ => none }
def syntaxPlacesRow : OpenClaim := { program := "ytanpgmgkmfckaaagreatdoor", sum := "c467fa19c7e1e74a5b6a0d2a371a6d65e8c992f76c873386320461f55157bf37", func := "testamur/testamurlaw10.SyntaxPlaces", spec := "syntaxPlaces", inPlace := ["internal/bytealg.IndexByteString", "internal/bytealg.IndexString", "internal/abi.NoEscape"], unfollowed := true, recurses := true, named := ["testamur/syntax.factors", "testamur/syntax.editions", "testamur/syntax.weights", "testamur/syntax.anyNumber", "testamur/syntax.mosts", "internal/bytealg.MaxLen", "internal/strconv.uint64pow10", "math/bits.deBruijn32tab", "math/bits.deBruijn64tab"], apart := false, laid := [("math/bits.deBruijn32tab", laid_math_bits_deBruijn32tab), ("math/bits.deBruijn64tab", laid_math_bits_deBruijn64tab), ("internal/strconv.uint64pow10", laid_internal_strconv_uint64pow10), ("testamur/syntax.anyNumber", laid_testamur_syntax_anyNumber), ("testamur/syntax.factors", laid_testamur_syntax_factors), ("testamur/syntax.editions", laid_testamur_syntax_editions), ("testamur/syntax.weights", laid_testamur_syntax_weights), ("testamur/syntax.mosts", laid_testamur_syntax_mosts)] }
def SyntaxPlacesSaid : Prop := syntaxPlacesRow.holds Tryz.pinned (OpenSpec.ofChange syntaxPlacesSpec)

/-- ITS FALSE NEIGHBOUR: 'it returns false'. Refute it at one input. -/
def syntaxPlacesWrong : ChangeSpec := { name := "syntaxPlaces", fn := fun _ => fun
  | [d] => { results := [.lit (.bool false)], args := [d] }
  | _ => none }
def SyntaxPlacesWrongFalsely : Prop := syntaxPlacesRow.holds Tryz.pinned (OpenSpec.ofChange syntaxPlacesWrong)

/-- 'testamurlaw10.SyntaxJoins': WHATEVER THE INPUT: true; the input reads as it did. -/
def syntaxJoinsSpec : ChangeSpec := { name := "syntaxJoins", fn := fun _ => fun
  | [d1, d2] => { results := [.lit (.bool true)], args := [d1, d2] }
  | _ => none }
def syntaxJoinsRow : OpenClaim := { program := "ytanpgmgkmfckaaagreatdoor", sum := "c467fa19c7e1e74a5b6a0d2a371a6d65e8c992f76c873386320461f55157bf37", func := "testamur/testamurlaw10.SyntaxJoins", spec := "syntaxJoins", inPlace := ["internal/bytealg.IndexByteString", "internal/bytealg.IndexString", "internal/abi.NoEscape"], unfollowed := true, recurses := true, named := ["testamur/syntax.factors", "testamur/syntax.editions", "testamur/syntax.weights", "testamur/syntax.anyNumber", "testamur/syntax.mosts", "internal/bytealg.MaxLen", "internal/strconv.uint64pow10", "math/bits.deBruijn32tab", "math/bits.deBruijn64tab"], apart := false, laid := [("math/bits.deBruijn32tab", laid_math_bits_deBruijn32tab), ("math/bits.deBruijn64tab", laid_math_bits_deBruijn64tab), ("internal/strconv.uint64pow10", laid_internal_strconv_uint64pow10), ("testamur/syntax.anyNumber", laid_testamur_syntax_anyNumber), ("testamur/syntax.factors", laid_testamur_syntax_factors), ("testamur/syntax.editions", laid_testamur_syntax_editions), ("testamur/syntax.weights", laid_testamur_syntax_weights), ("testamur/syntax.mosts", laid_testamur_syntax_mosts)] }
def SyntaxJoinsSaid : Prop := syntaxJoinsRow.holds Tryz.pinned (OpenSpec.ofChange syntaxJoinsSpec)

/-- ITS FALSE NEIGHBOUR: 'it returns false'. Refute it at one input. -/
def syntaxJoinsWrong : ChangeSpec := { name := "syntaxJoins", fn := fun _ => fun
  | [d1, d2] => { results := [.lit (.bool false)], args := [d1, d2] }
  | _ => none }
def SyntaxJoinsWrongFalsely : Prop := syntaxJoinsRow.holds Tryz.pinned (OpenSpec.ofChange syntaxJoinsWrong)

/- THE SECOND FORM. 'bulk': how many values and letters a reading holds, each counted each time it is reached (what is shared counts as often as it is met; a slice's spare places count too). A statement '..UptoSaid' is the law's where the arguments, and the package variables that the reading takes, are together of bulk at most 1048576: NARROWER than '..Said'. Prove '..Said' where nothing that the law and all that it calls make is longer than what came in: it says more and counts as full. Else prove '..UptoSaid'. A law counts once. -/
mutual
def uptoBulk {H : Type} : DataW H → Nat
  | .lit (.string bytes) => bytes.length + 1
  | .lit _ => 1
  | .nil => 1
  | .ptr d => uptoBulk d + 1
  | .slice elems spare => uptoBulkAll elems + uptoBulkAll spare + 1
  | .agg parts => uptoBulkAll parts + 1
  | .iface _ d => uptoBulk d + 1
  | .map entries => uptoBulkEntries entries + 1
  | .held _ => 1
def uptoBulkAll {H : Type} : List (DataW H) → Nat
  | [] => 0
  | d :: r => uptoBulk d + uptoBulkAll r
def uptoBulkEntries {H : Type} : List (Lit × DataW H) → Nat
  | [] => 0
  | x :: r => uptoBulkEntry x + uptoBulkEntries r
def uptoBulkEntry {H : Type} : Lit × DataW H → Nat
  | (.string bytes, d) => bytes.length + uptoBulk d + 1
  | (_, d) => uptoBulk d + 1
 end
def uptoSmall : (H : Type) → List (DataW H) → Bool := fun _ ds => decide (uptoBulkAll ds ≤ 1048576)
def OpenSpec.upto (s : _root_.Go.ChangeSpec) : _root_.Go.OpenSpec := { _root_.Go.OpenSpec.ofChange s with cond := some uptoSmall }

/-- 'testamurlaw10.SyntaxParseSpec', WHERE WHAT IT READS IS OF BULK AT MOST 1048576: true; the input reads as it did. -/
def syntaxParseSpecUptoRow : OpenClaim := { program := "ytanpgmgkmfckaaagreatdoor", sum := "c467fa19c7e1e74a5b6a0d2a371a6d65e8c992f76c873386320461f55157bf37", func := "testamur/testamurlaw10.SyntaxParseSpec", spec := "syntaxParseSpec", inPlace := ["internal/bytealg.IndexByteString", "internal/bytealg.IndexString", "internal/abi.NoEscape"], unfollowed := true, recurses := true, named := ["testamur/syntax.factors", "testamur/syntax.editions", "testamur/syntax.weights", "testamur/syntax.anyNumber", "testamur/syntax.mosts", "internal/bytealg.MaxLen", "internal/strconv.uint64pow10", "math/bits.deBruijn32tab", "math/bits.deBruijn64tab"], apart := false, laid := [("math/bits.deBruijn32tab", laid_math_bits_deBruijn32tab), ("math/bits.deBruijn64tab", laid_math_bits_deBruijn64tab), ("internal/strconv.uint64pow10", laid_internal_strconv_uint64pow10), ("testamur/syntax.anyNumber", laid_testamur_syntax_anyNumber), ("testamur/syntax.factors", laid_testamur_syntax_factors), ("testamur/syntax.editions", laid_testamur_syntax_editions), ("testamur/syntax.weights", laid_testamur_syntax_weights), ("testamur/syntax.mosts", laid_testamur_syntax_mosts)], narrowed := true }
def SyntaxParseSpecUptoSaid : Prop := syntaxParseSpecUptoRow.holds Tryz.pinned (OpenSpec.upto syntaxParseSpecSpec)

/-- 'testamurlaw10.SyntaxBack', WHERE WHAT IT READS IS OF BULK AT MOST 1048576: true; the input reads as it did. -/
def syntaxBackUptoRow : OpenClaim := { program := "ytanpgmgkmfckaaagreatdoor", sum := "c467fa19c7e1e74a5b6a0d2a371a6d65e8c992f76c873386320461f55157bf37", func := "testamur/testamurlaw10.SyntaxBack", spec := "syntaxBack", inPlace := ["internal/bytealg.IndexByteString", "internal/bytealg.IndexString", "internal/abi.NoEscape"], unfollowed := true, recurses := true, named := ["testamur/syntax.factors", "testamur/syntax.editions", "testamur/syntax.weights", "testamur/syntax.anyNumber", "testamur/syntax.mosts", "internal/bytealg.MaxLen", "internal/strconv.uint64pow10", "math/bits.deBruijn32tab", "math/bits.deBruijn64tab"], apart := false, laid := [("math/bits.deBruijn32tab", laid_math_bits_deBruijn32tab), ("math/bits.deBruijn64tab", laid_math_bits_deBruijn64tab), ("internal/strconv.uint64pow10", laid_internal_strconv_uint64pow10), ("testamur/syntax.anyNumber", laid_testamur_syntax_anyNumber), ("testamur/syntax.factors", laid_testamur_syntax_factors), ("testamur/syntax.editions", laid_testamur_syntax_editions), ("testamur/syntax.weights", laid_testamur_syntax_weights), ("testamur/syntax.mosts", laid_testamur_syntax_mosts)], narrowed := true }
def SyntaxBackUptoSaid : Prop := syntaxBackUptoRow.holds Tryz.pinned (OpenSpec.upto syntaxBackSpec)

/-- 'testamurlaw10.SyntaxAgain', WHERE WHAT IT READS IS OF BULK AT MOST 1048576: true; the input reads as it did. -/
def syntaxAgainUptoRow : OpenClaim := { program := "ytanpgmgkmfckaaagreatdoor", sum := "c467fa19c7e1e74a5b6a0d2a371a6d65e8c992f76c873386320461f55157bf37", func := "testamur/testamurlaw10.SyntaxAgain", spec := "syntaxAgain", inPlace := ["internal/bytealg.IndexByteString", "internal/bytealg.IndexString", "internal/abi.NoEscape"], unfollowed := true, recurses := true, named := ["testamur/syntax.factors", "testamur/syntax.editions", "testamur/syntax.weights", "testamur/syntax.anyNumber", "testamur/syntax.mosts", "internal/bytealg.MaxLen", "internal/strconv.uint64pow10", "math/bits.deBruijn32tab", "math/bits.deBruijn64tab"], apart := false, laid := [("math/bits.deBruijn32tab", laid_math_bits_deBruijn32tab), ("math/bits.deBruijn64tab", laid_math_bits_deBruijn64tab), ("internal/strconv.uint64pow10", laid_internal_strconv_uint64pow10), ("testamur/syntax.anyNumber", laid_testamur_syntax_anyNumber), ("testamur/syntax.factors", laid_testamur_syntax_factors), ("testamur/syntax.editions", laid_testamur_syntax_editions), ("testamur/syntax.weights", laid_testamur_syntax_weights), ("testamur/syntax.mosts", laid_testamur_syntax_mosts)], narrowed := true }
def SyntaxAgainUptoSaid : Prop := syntaxAgainUptoRow.holds Tryz.pinned (OpenSpec.upto syntaxAgainSpec)

/-- 'testamurlaw10.SyntaxPlaces', WHERE WHAT IT READS IS OF BULK AT MOST 1048576: true; the input reads as it did. -/
def syntaxPlacesUptoRow : OpenClaim := { program := "ytanpgmgkmfckaaagreatdoor", sum := "c467fa19c7e1e74a5b6a0d2a371a6d65e8c992f76c873386320461f55157bf37", func := "testamur/testamurlaw10.SyntaxPlaces", spec := "syntaxPlaces", inPlace := ["internal/bytealg.IndexByteString", "internal/bytealg.IndexString", "internal/abi.NoEscape"], unfollowed := true, recurses := true, named := ["testamur/syntax.factors", "testamur/syntax.editions", "testamur/syntax.weights", "testamur/syntax.anyNumber", "testamur/syntax.mosts", "internal/bytealg.MaxLen", "internal/strconv.uint64pow10", "math/bits.deBruijn32tab", "math/bits.deBruijn64tab"], apart := false, laid := [("math/bits.deBruijn32tab", laid_math_bits_deBruijn32tab), ("math/bits.deBruijn64tab", laid_math_bits_deBruijn64tab), ("internal/strconv.uint64pow10", laid_internal_strconv_uint64pow10), ("testamur/syntax.anyNumber", laid_testamur_syntax_anyNumber), ("testamur/syntax.factors", laid_testamur_syntax_factors), ("testamur/syntax.editions", laid_testamur_syntax_editions), ("testamur/syntax.weights", laid_testamur_syntax_weights), ("testamur/syntax.mosts", laid_testamur_syntax_mosts)], narrowed := true }
def SyntaxPlacesUptoSaid : Prop := syntaxPlacesUptoRow.holds Tryz.pinned (OpenSpec.upto syntaxPlacesSpec)

/-- 'testamurlaw10.SyntaxJoins', WHERE WHAT IT READS IS OF BULK AT MOST 1048576: true; the input reads as it did. -/
def syntaxJoinsUptoRow : OpenClaim := { program := "ytanpgmgkmfckaaagreatdoor", sum := "c467fa19c7e1e74a5b6a0d2a371a6d65e8c992f76c873386320461f55157bf37", func := "testamur/testamurlaw10.SyntaxJoins", spec := "syntaxJoins", inPlace := ["internal/bytealg.IndexByteString", "internal/bytealg.IndexString", "internal/abi.NoEscape"], unfollowed := true, recurses := true, named := ["testamur/syntax.factors", "testamur/syntax.editions", "testamur/syntax.weights", "testamur/syntax.anyNumber", "testamur/syntax.mosts", "internal/bytealg.MaxLen", "internal/strconv.uint64pow10", "math/bits.deBruijn32tab", "math/bits.deBruijn64tab"], apart := false, laid := [("math/bits.deBruijn32tab", laid_math_bits_deBruijn32tab), ("math/bits.deBruijn64tab", laid_math_bits_deBruijn64tab), ("internal/strconv.uint64pow10", laid_internal_strconv_uint64pow10), ("testamur/syntax.anyNumber", laid_testamur_syntax_anyNumber), ("testamur/syntax.factors", laid_testamur_syntax_factors), ("testamur/syntax.editions", laid_testamur_syntax_editions), ("testamur/syntax.weights", laid_testamur_syntax_weights), ("testamur/syntax.mosts", laid_testamur_syntax_mosts)], narrowed := true }
def SyntaxJoinsUptoSaid : Prop := syntaxJoinsUptoRow.holds Tryz.pinned (OpenSpec.upto syntaxJoinsSpec)

end Rows
end Go.Proofs.YtanpgmgkmfckaaaGreatDoor
