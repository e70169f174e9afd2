/-
  NARROWER THAN 'FOR EVERY INPUT', by the rows' own cells (each row's printed sentence says how): PurposesCheckSpec: loops, laid · PurposesChangeSpec: loops, laid · PurposesSmallest: loops, laid · PurposesLess: loops, laid · PurposesTwice: loops, laid.
  DERIVED. THE GIVEN ROWS OF THIS SEAT. 5 by the template 'for every input the law returns true; each argument reads behind the call as it read before'; 0 by the template 'total and deterministic' (their statements: YtolkimpelpnpbaaGreatDoorTotals.lean).
  GIVEN WITH THE SEED: the statements are not yours to turn. If you find one false, say at which input.
  Laid BY PROGRAM, IN A SANDBOX (cutbox-rows.mjs): the forced cells as the released guide's own fill.sh prints them over the translation 0402bc6408cabc6a… (all of the seat's roots in one cut). By AI agents, Wed Nov 11 2026. No macro, syntax, notation, axiom, sorry.
-/
import Derived.Test.YtolkimpelpnpbaaGreatDoorChecked
import GoSem.Claim
import GoSem.ClaimJoined
import GoSem.ClaimMapViews
import Derived.JoinedTies
import Derived.KernelRfl
namespace Go.Proofs.YtolkimpelpnpbaaGreatDoor
/- THE CELL 'sum', in the pinned program and in every row, IS THE sha256 OF THE DUMP (.gsa) THAT YtolkimpelpnpbaaGreatDoorProg.lean LOADS. Nothing in Lean hashes anything: it is a label: what it is worth is what the hold of that sum in a sandbox is worth. -/
noncomputable def Tryz.pinned : Pinned := { name := "ytolkimpelpnpbaagreatdoor", sum := "0402bc6408cabc6afda99253cf57ff8d961e0655e2a7b0e5d6cea2847da26a60", checked := Tryz.checked }
namespace Rows
def none {H : Type} : Left H := { results := [], args := [] }

/- WHAT THE LISTED PACKAGE-LEVEL VARIABLES READ AS WHEN THE CALL BEGINS. Each datum BY PROGRAM (the guide's laid-datum.mjs) off the statement by which the dump's own 'gosem.cut.vars' lays the variable. In a bare row this is a premise. The card (YtolkimpelpnpbaaGreatDoorCards.lean) ties it to the program's text. -/
def laid_testamur_syntax_anyNumber {H : Type} : DataW H := .agg [.lit (.int .i64 0), .lit (.int .i64 1048576)]
def laid_testamur_syntax_factors {H : Type} : DataW H := .agg [.lit (.int .i64 2), .lit (.int .i64 1000)]
def laid_testamur_syntax_editions {H : Type} : DataW H := .agg [.lit (.int .i64 1), .lit (.int .i64 255)]
def laid_testamur_syntax_weights {H : Type} : DataW H := .agg [.lit (.int .i64 0), .lit (.int .i64 9)]
def laid_testamur_syntax_mosts {H : Type} : DataW H := .agg [.lit (.int .i64 0), .lit (.int .i64 32)]

/-- 'testamurlaw26.PurposesCheckSpec': WHATEVER THE INPUT: true; the input reads as it did. -/
def purposesCheckSpecSpec : ChangeSpec := { name := "purposesCheckSpec", fn := fun _ => fun
  | [d1, d2] => { results := [.lit (.bool true)], args := [d1, d2] }
  | _ => none }
def purposesCheckSpecRow : OpenClaim := { program := "ytolkimpelpnpbaagreatdoor", sum := "0402bc6408cabc6afda99253cf57ff8d961e0655e2a7b0e5d6cea2847da26a60", func := "testamur/testamurlaw26.PurposesCheckSpec", spec := "purposesCheckSpec", unfollowed := true, recurses := true, named := ["testamur/syntax.factors", "testamur/syntax.editions", "testamur/syntax.weights", "testamur/syntax.anyNumber", "testamur/syntax.mosts"], loops := true, plainKeys := false, apart := false, laid := [("testamur/syntax.anyNumber", laid_testamur_syntax_anyNumber), ("testamur/syntax.factors", laid_testamur_syntax_factors), ("testamur/syntax.editions", laid_testamur_syntax_editions), ("testamur/syntax.weights", laid_testamur_syntax_weights), ("testamur/syntax.mosts", laid_testamur_syntax_mosts)] }
def PurposesCheckSpecSaid : Prop := purposesCheckSpecRow.holds Tryz.pinned (OpenSpec.ofChange purposesCheckSpecSpec)

/-- ITS FALSE NEIGHBOUR: 'it returns false'. Refute it at one input. -/
def purposesCheckSpecWrong : ChangeSpec := { name := "purposesCheckSpec", fn := fun _ => fun
  | [d1, d2] => { results := [.lit (.bool false)], args := [d1, d2] }
  | _ => none }
def PurposesCheckSpecWrongFalsely : Prop := purposesCheckSpecRow.holds Tryz.pinned (OpenSpec.ofChange purposesCheckSpecWrong)

/-- 'testamurlaw26.PurposesChangeSpec': WHATEVER THE INPUT: true; the input reads as it did. -/
def purposesChangeSpecSpec : ChangeSpec := { name := "purposesChangeSpec", fn := fun _ => fun
  | [d1, d2, d3] => { results := [.lit (.bool true)], args := [d1, d2, d3] }
  | _ => none }
def purposesChangeSpecRow : OpenClaim := { program := "ytolkimpelpnpbaagreatdoor", sum := "0402bc6408cabc6afda99253cf57ff8d961e0655e2a7b0e5d6cea2847da26a60", func := "testamur/testamurlaw26.PurposesChangeSpec", spec := "purposesChangeSpec", unfollowed := true, recurses := true, named := ["testamur/syntax.factors", "testamur/syntax.editions", "testamur/syntax.weights", "testamur/syntax.anyNumber", "testamur/syntax.mosts"], loops := true, plainKeys := false, apart := false, laid := [("testamur/syntax.anyNumber", laid_testamur_syntax_anyNumber), ("testamur/syntax.factors", laid_testamur_syntax_factors), ("testamur/syntax.editions", laid_testamur_syntax_editions), ("testamur/syntax.weights", laid_testamur_syntax_weights), ("testamur/syntax.mosts", laid_testamur_syntax_mosts)] }
def PurposesChangeSpecSaid : Prop := purposesChangeSpecRow.holds Tryz.pinned (OpenSpec.ofChange purposesChangeSpecSpec)

/-- ITS FALSE NEIGHBOUR: 'it returns false'. Refute it at one input. -/
def purposesChangeSpecWrong : ChangeSpec := { name := "purposesChangeSpec", fn := fun _ => fun
  | [d1, d2, d3] => { results := [.lit (.bool false)], args := [d1, d2, d3] }
  | _ => none }
def PurposesChangeSpecWrongFalsely : Prop := purposesChangeSpecRow.holds Tryz.pinned (OpenSpec.ofChange purposesChangeSpecWrong)

/-- 'testamurlaw26.PurposesSmallest': WHATEVER THE INPUT: true; the input reads as it did. -/
def purposesSmallestSpec : ChangeSpec := { name := "purposesSmallest", fn := fun _ => fun
  | [d1, d2] => { results := [.lit (.bool true)], args := [d1, d2] }
  | _ => none }
def purposesSmallestRow : OpenClaim := { program := "ytolkimpelpnpbaagreatdoor", sum := "0402bc6408cabc6afda99253cf57ff8d961e0655e2a7b0e5d6cea2847da26a60", func := "testamur/testamurlaw26.PurposesSmallest", spec := "purposesSmallest", unfollowed := true, recurses := true, named := ["testamur/syntax.factors", "testamur/syntax.editions", "testamur/syntax.weights", "testamur/syntax.anyNumber", "testamur/syntax.mosts"], loops := true, plainKeys := false, apart := false, laid := [("testamur/syntax.anyNumber", laid_testamur_syntax_anyNumber), ("testamur/syntax.factors", laid_testamur_syntax_factors), ("testamur/syntax.editions", laid_testamur_syntax_editions), ("testamur/syntax.weights", laid_testamur_syntax_weights), ("testamur/syntax.mosts", laid_testamur_syntax_mosts)] }
def PurposesSmallestSaid : Prop := purposesSmallestRow.holds Tryz.pinned (OpenSpec.ofChange purposesSmallestSpec)

/-- ITS FALSE NEIGHBOUR: 'it returns false'. Refute it at one input. -/
def purposesSmallestWrong : ChangeSpec := { name := "purposesSmallest", fn := fun _ => fun
  | [d1, d2] => { results := [.lit (.bool false)], args := [d1, d2] }
  | _ => none }
def PurposesSmallestWrongFalsely : Prop := purposesSmallestRow.holds Tryz.pinned (OpenSpec.ofChange purposesSmallestWrong)

/-- 'testamurlaw26.PurposesLess': WHATEVER THE INPUT: true; the input reads as it did. -/
def purposesLessSpec : ChangeSpec := { name := "purposesLess", fn := fun _ => fun
  | [d1, d2, d3] => { results := [.lit (.bool true)], args := [d1, d2, d3] }
  | _ => none }
def purposesLessRow : OpenClaim := { program := "ytolkimpelpnpbaagreatdoor", sum := "0402bc6408cabc6afda99253cf57ff8d961e0655e2a7b0e5d6cea2847da26a60", func := "testamur/testamurlaw26.PurposesLess", spec := "purposesLess", unfollowed := true, recurses := true, named := ["testamur/syntax.factors", "testamur/syntax.editions", "testamur/syntax.weights", "testamur/syntax.anyNumber", "testamur/syntax.mosts"], loops := true, plainKeys := false, apart := false, laid := [("testamur/syntax.anyNumber", laid_testamur_syntax_anyNumber), ("testamur/syntax.factors", laid_testamur_syntax_factors), ("testamur/syntax.editions", laid_testamur_syntax_editions), ("testamur/syntax.weights", laid_testamur_syntax_weights), ("testamur/syntax.mosts", laid_testamur_syntax_mosts)] }
def PurposesLessSaid : Prop := purposesLessRow.holds Tryz.pinned (OpenSpec.ofChange purposesLessSpec)

/-- ITS FALSE NEIGHBOUR: 'it returns false'. Refute it at one input. -/
def purposesLessWrong : ChangeSpec := { name := "purposesLess", fn := fun _ => fun
  | [d1, d2, d3] => { results := [.lit (.bool false)], args := [d1, d2, d3] }
  | _ => none }
def PurposesLessWrongFalsely : Prop := purposesLessRow.holds Tryz.pinned (OpenSpec.ofChange purposesLessWrong)

/-- 'testamurlaw26.PurposesTwice': WHATEVER THE INPUT: true; the input reads as it did. -/
def purposesTwiceSpec : ChangeSpec := { name := "purposesTwice", fn := fun _ => fun
  | [d1, d2, d3, d4] => { results := [.lit (.bool true)], args := [d1, d2, d3, d4] }
  | _ => none }
def purposesTwiceRow : OpenClaim := { program := "ytolkimpelpnpbaagreatdoor", sum := "0402bc6408cabc6afda99253cf57ff8d961e0655e2a7b0e5d6cea2847da26a60", func := "testamur/testamurlaw26.PurposesTwice", spec := "purposesTwice", unfollowed := true, recurses := true, named := ["testamur/syntax.factors", "testamur/syntax.editions", "testamur/syntax.weights", "testamur/syntax.anyNumber", "testamur/syntax.mosts"], loops := true, plainKeys := false, apart := false, laid := [("testamur/syntax.anyNumber", laid_testamur_syntax_anyNumber), ("testamur/syntax.factors", laid_testamur_syntax_factors), ("testamur/syntax.editions", laid_testamur_syntax_editions), ("testamur/syntax.weights", laid_testamur_syntax_weights), ("testamur/syntax.mosts", laid_testamur_syntax_mosts)] }
def PurposesTwiceSaid : Prop := purposesTwiceRow.holds Tryz.pinned (OpenSpec.ofChange purposesTwiceSpec)

/-- ITS FALSE NEIGHBOUR: 'it returns false'. Refute it at one input. -/
def purposesTwiceWrong : ChangeSpec := { name := "purposesTwice", fn := fun _ => fun
  | [d1, d2, d3, d4] => { results := [.lit (.bool false)], args := [d1, d2, d3, d4] }
  | _ => none }
def PurposesTwiceWrongFalsely : Prop := purposesTwiceRow.holds Tryz.pinned (OpenSpec.ofChange purposesTwiceWrong)

/- THE SECOND FORM. 'bulk': how many values and letters a reading holds, each counted each time it is reached (what is shared counts as often as it is met; a slice's spare places count too). A statement '..UptoSaid' is the law's where the arguments, and the package variables that the reading takes, are together of bulk at most 1048576: NARROWER than '..Said'. Prove '..Said' where nothing that the law and all that it calls make is longer than what came in: it says more and counts as full. Else prove '..UptoSaid'. A law counts once. -/
mutual
def uptoBulk {H : Type} : DataW H → Nat
  | .lit (.string bytes) => bytes.length + 1
  | .lit _ => 1
  | .nil => 1
  | .ptr d => uptoBulk d + 1
  | .slice elems spare => uptoBulkAll elems + uptoBulkAll spare + 1
  | .agg parts => uptoBulkAll parts + 1
  | .iface _ d => uptoBulk d + 1
  | .map entries => uptoBulkEntries entries + 1
  | .held _ => 1
def uptoBulkAll {H : Type} : List (DataW H) → Nat
  | [] => 0
  | d :: r => uptoBulk d + uptoBulkAll r
def uptoBulkEntries {H : Type} : List (Lit × DataW H) → Nat
  | [] => 0
  | x :: r => uptoBulkEntry x + uptoBulkEntries r
def uptoBulkEntry {H : Type} : Lit × DataW H → Nat
  | (.string bytes, d) => bytes.length + uptoBulk d + 1
  | (_, d) => uptoBulk d + 1
 end
def uptoSmall : (H : Type) → List (DataW H) → Bool := fun _ ds => decide (uptoBulkAll ds ≤ 1048576)
def OpenSpec.upto (s : _root_.Go.ChangeSpec) : _root_.Go.OpenSpec := { _root_.Go.OpenSpec.ofChange s with cond := some uptoSmall }

/-- 'testamurlaw26.PurposesCheckSpec', WHERE WHAT IT READS IS OF BULK AT MOST 1048576: true; the input reads as it did. -/
def purposesCheckSpecUptoRow : OpenClaim := { program := "ytolkimpelpnpbaagreatdoor", sum := "0402bc6408cabc6afda99253cf57ff8d961e0655e2a7b0e5d6cea2847da26a60", func := "testamur/testamurlaw26.PurposesCheckSpec", spec := "purposesCheckSpec", unfollowed := true, recurses := true, named := ["testamur/syntax.factors", "testamur/syntax.editions", "testamur/syntax.weights", "testamur/syntax.anyNumber", "testamur/syntax.mosts"], loops := true, plainKeys := false, apart := false, laid := [("testamur/syntax.anyNumber", laid_testamur_syntax_anyNumber), ("testamur/syntax.factors", laid_testamur_syntax_factors), ("testamur/syntax.editions", laid_testamur_syntax_editions), ("testamur/syntax.weights", laid_testamur_syntax_weights), ("testamur/syntax.mosts", laid_testamur_syntax_mosts)], narrowed := true }
def PurposesCheckSpecUptoSaid : Prop := purposesCheckSpecUptoRow.holds Tryz.pinned (OpenSpec.upto purposesCheckSpecSpec)

/-- 'testamurlaw26.PurposesChangeSpec', WHERE WHAT IT READS IS OF BULK AT MOST 1048576: true; the input reads as it did. -/
def purposesChangeSpecUptoRow : OpenClaim := { program := "ytolkimpelpnpbaagreatdoor", sum := "0402bc6408cabc6afda99253cf57ff8d961e0655e2a7b0e5d6cea2847da26a60", func := "testamur/testamurlaw26.PurposesChangeSpec", spec := "purposesChangeSpec", unfollowed := true, recurses := true, named := ["testamur/syntax.factors", "testamur/syntax.editions", "testamur/syntax.weights", "testamur/syntax.anyNumber", "testamur/syntax.mosts"], loops := true, plainKeys := false, apart := false, laid := [("testamur/syntax.anyNumber", laid_testamur_syntax_anyNumber), ("testamur/syntax.factors", laid_testamur_syntax_factors), ("testamur/syntax.editions", laid_testamur_syntax_editions), ("testamur/syntax.weights", laid_testamur_syntax_weights), ("testamur/syntax.mosts", laid_testamur_syntax_mosts)], narrowed := true }
def PurposesChangeSpecUptoSaid : Prop := purposesChangeSpecUptoRow.holds Tryz.pinned (OpenSpec.upto purposesChangeSpecSpec)

/-- 'testamurlaw26.PurposesSmallest', WHERE WHAT IT READS IS OF BULK AT MOST 1048576: true; the input reads as it did. -/
def purposesSmallestUptoRow : OpenClaim := { program := "ytolkimpelpnpbaagreatdoor", sum := "0402bc6408cabc6afda99253cf57ff8d961e0655e2a7b0e5d6cea2847da26a60", func := "testamur/testamurlaw26.PurposesSmallest", spec := "purposesSmallest", unfollowed := true, recurses := true, named := ["testamur/syntax.factors", "testamur/syntax.editions", "testamur/syntax.weights", "testamur/syntax.anyNumber", "testamur/syntax.mosts"], loops := true, plainKeys := false, apart := false, laid := [("testamur/syntax.anyNumber", laid_testamur_syntax_anyNumber), ("testamur/syntax.factors", laid_testamur_syntax_factors), ("testamur/syntax.editions", laid_testamur_syntax_editions), ("testamur/syntax.weights", laid_testamur_syntax_weights), ("testamur/syntax.mosts", laid_testamur_syntax_mosts)], narrowed := true }
def PurposesSmallestUptoSaid : Prop := purposesSmallestUptoRow.holds Tryz.pinned (OpenSpec.upto purposesSmallestSpec)

/-- 'testamurlaw26.PurposesLess', WHERE WHAT IT READS IS OF BULK AT MOST 1048576: true; the input reads as it did. -/
def purposesLessUptoRow : OpenClaim := { program := "ytolkimpelpnpbaagreatdoor", sum := "0402bc6408cabc6afda99253cf57ff8d961e0655e2a7b0e5d6cea2847da26a60", func := "testamur/testamurlaw26.PurposesLess", spec := "purposesLess", unfollowed := true, recurses := true, named := ["testamur/syntax.factors", "testamur/syntax.editions", "testamur/syntax.weights", "testamur/syntax.anyNumber", "testamur/syntax.mosts"], loops := true, plainKeys := false, apart := false, laid := [("testamur/syntax.anyNumber", laid_testamur_syntax_anyNumber), ("testamur/syntax.factors", laid_testamur_syntax_factors), ("testamur/syntax.editions", laid_testamur_syntax_editions), ("testamur/syntax.weights", laid_testamur_syntax_weights), ("testamur/syntax.mosts", laid_testamur_syntax_mosts)], narrowed := true }
def PurposesLessUptoSaid : Prop := purposesLessUptoRow.holds Tryz.pinned (OpenSpec.upto purposesLessSpec)

/-- 'testamurlaw26.PurposesTwice', WHERE WHAT IT READS IS OF BULK AT MOST 1048576: true; the input reads as it did. -/
def purposesTwiceUptoRow : OpenClaim := { program := "ytolkimpelpnpbaagreatdoor", sum := "0402bc6408cabc6afda99253cf57ff8d961e0655e2a7b0e5d6cea2847da26a60", func := "testamur/testamurlaw26.PurposesTwice", spec := "purposesTwice", unfollowed := true, recurses := true, named := ["testamur/syntax.factors", "testamur/syntax.editions", "testamur/syntax.weights", "testamur/syntax.anyNumber", "testamur/syntax.mosts"], loops := true, plainKeys := false, apart := false, laid := [("testamur/syntax.anyNumber", laid_testamur_syntax_anyNumber), ("testamur/syntax.factors", laid_testamur_syntax_factors), ("testamur/syntax.editions", laid_testamur_syntax_editions), ("testamur/syntax.weights", laid_testamur_syntax_weights), ("testamur/syntax.mosts", laid_testamur_syntax_mosts)], narrowed := true }
def PurposesTwiceUptoSaid : Prop := purposesTwiceUptoRow.holds Tryz.pinned (OpenSpec.upto purposesTwiceSpec)

end Rows
end Go.Proofs.YtolkimpelpnpbaaGreatDoor
