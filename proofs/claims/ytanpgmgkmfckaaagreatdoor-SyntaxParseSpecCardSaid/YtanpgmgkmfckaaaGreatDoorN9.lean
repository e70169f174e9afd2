/- Texts of this claim joined by a program, part 9 of 9; the last is: SyntaxParseSpec: the row, the card. Condition: none. -/
import Derived.Test.YtanpgmgkmfckaaaGreatDoorN8
import Derived.Test.YtanpgmgkmfckaaaGreatDoorRows
import Derived.ChangeSame
import Derived.ChangeVars
import Derived.ChangeMaps5
import Derived.JoinedOf
import Derived.RowKit
import Derived.RowKitTokens
import Derived.LaidLaws
import Derived.LaidHandle
import Derived.Lib.LaidTab
import Derived.Carry
import Derived.Below
import Derived.Stop.Joined
import Derived.Test.YtanpgmgkmfckaaaGreatDoorCards
import Derived.Test.YtanpgmgkmfckaaaGreatDoorTie
import Derived.SevenTiedAt
set_option linter.unusedSimpArgs false
set_option linter.unusedVariables false
set_option linter.unusedSectionVars false
set_option linter.defProp false
/- From a call to a row: what is laid, the witness, a law's run. Condition: none; the seat's program. -/
namespace Go.Proofs.YtanpgmgkmfckaaaGreatDoor
open Go Go.Ab Go.Lx Go.Sx Go.ChangeShapes Go.WideShapes Go.RowKit
set_option maxRecDepth 100000
theorem own_knob : ownKnob Tryz.prog.godebug = none := by kernel_rfl
abbrev laidL : List (String × DataW Unit) := [("math/bits.deBruijn32tab", Rows.laid_math_bits_deBruijn32tab), ("math/bits.deBruijn64tab", Rows.laid_math_bits_deBruijn64tab), ("internal/strconv.uint64pow10", Rows.laid_internal_strconv_uint64pow10), ("testamur/syntax.anyNumber", Rows.laid_testamur_syntax_anyNumber), ("testamur/syntax.factors", Rows.laid_testamur_syntax_factors), ("testamur/syntax.editions", Rows.laid_testamur_syntax_editions), ("testamur/syntax.weights", Rows.laid_testamur_syntax_weights), ("testamur/syntax.mosts", Rows.laid_testamur_syntax_mosts)]
theorem cells_of_pair {enc : TypeId × Value → Unit} {w : World} {base : Nat} {sp : Nat → Bool} {held : Bool} {fuel : Nat} {t e : TypeId} {f1 f2 : Field} {fs : Array Field} {cs : List Value} {a b : Int} {p : List MemPlace}
  (ht : Tryz.prog.underlying t = some (.struct fs)) (hfs : fs.toList = [f1, f2]) (h1 : f1.type = e) (h2 : f2.type = e) (o1 : f1.offset = 0) (o2 : f2.offset = 1) (hct : Tryz.prog.cellsOf t = 2) (hce : Tryz.prog.cellsOf e = 1) (he : Tryz.prog.underlying e = some (.int .i64))
  (h : DataW.trod enc Tryz.prog w base sp held fuel t cs = some (.agg [.lit (.int .i64 a), .lit (.int .i64 b)], p)) : cs = [.int .i64 a, .int .i64 b] := by
 cases fuel with
 | zero => simp [DataW.trod] at h
 | succ fuel =>
  simp only [DataW.trod, ht, hct] at h
  split at h
  ·rename_i hl
   obtain ⟨xs, hm, hx⟩ := Option.map_eq_some_iff.1 h
   rw [hfs] at hm
   simp only [List.mapM_cons, List.mapM_nil, Option.bind_eq_bind, Option.bind_eq_some_iff, Option.pure_def, Option.some.injEq, h1, h2, o1, o2, hce] at hm
   obtain ⟨x1, e1, l1, ⟨x2, e2, l2, e3, e4⟩, e5⟩ := hm
   subst e3; subst e4; subst e5
   obtain ⟨n1, c1, rfl, _⟩ := DataW.trod_int he e1
   obtain ⟨n2, c2, rfl, _⟩ := DataW.trod_int he e2
   simp only [List.map_cons, List.map_nil, Prod.mk.injEq, DataW.agg.injEq, List.cons.injEq, DataW.lit.injEq, Lit.int.injEq, true_and, and_true] at hx
   obtain ⟨⟨rfl, rfl⟩, _⟩ := hx
   match cs, hl with
   | [u, v], _ =>
    simp at c1 c2
    rw [c1, c2]
  ·cases h
theorem var_at {W : World} {n : String} {g : Nat} {cs : Array Value} (hn : Tryz.prog.globalNamed n = some g) (h : W.var? Tryz.prog n = some cs) : ∃ T f, W.heap[g]? = some (.cells cs T f) := by
 simp only [World.var?, hn, Option.bind_some] at h
 cases hb : W.heap[g]? with
 | none => rw [hb] at h; cases h
 | some o =>
  rw [hb] at h
  cases o with
  | cells c T f => simp only [Option.some.injEq] at h; subst h; exact ⟨T, f, rfl⟩
  | _ => cases h
structure LaidIs (W : World) : Prop where
 pow : ∃ T f, W.heap[6]? = some (.cells (Lib.pow10Tab.map fun z => Value.int .u64 z).toArray T f)
 anyNumber : ∃ T f, W.heap[4]? = some (.cells [Value.int .i64 0, Value.int .i64 1048576].toArray T f)
 factors : ∃ T f, W.heap[0]? = some (.cells [Value.int .i64 2, Value.int .i64 1000].toArray T f)
 editions : ∃ T f, W.heap[1]? = some (.cells [Value.int .i64 1, Value.int .i64 255].toArray T f)
 weights : ∃ T f, W.heap[3]? = some (.cells [Value.int .i64 0, Value.int .i64 9].toArray T f)
 mosts : ∃ T f, W.heap[2]? = some (.cells [Value.int .i64 0, Value.int .i64 32].toArray T f)
theorem laid_is {W : World} (h : laidMetH Tryz.prog laidL W) : LaidIs W := by
 have h' : laidMet Tryz.prog laidL W := h
 obtain ⟨ps, ⟨g1, t1, c1, f1, p1, q1, _, _, _, _, hr1, _⟩, _⟩ := h'
 obtain ⟨g2, t2, c2, f2, p2, q2, _, _, _, _, hr2, _⟩ := hr1
 obtain ⟨g3, t3, c3, f3, p3, q3, hg3, ht3, hv3, hd3, hr3, _⟩ := hr2
 obtain ⟨g4, t4, c4, f4, p4, q4, hg4, ht4, hv4, hd4, hr4, _⟩ := hr3
 obtain ⟨g5, t5, c5, f5, p5, q5, hg5, ht5, hv5, hd5, hr5, _⟩ := hr4
 obtain ⟨g6, t6, c6, f6, p6, q6, hg6, ht6, hv6, hd6, hr6, _⟩ := hr5
 obtain ⟨g7, t7, c7, f7, p7, q7, hg7, ht7, hv7, hd7, hr7, _⟩ := hr6
 obtain ⟨g8, t8, c8, f8, p8, q8, hg8, ht8, hv8, hd8, hr8, _⟩ := hr7
 have pair : ∀ {n : String} {g t : Nat} {c : Array Value} {fu : Nat} {p : List MemPlace} {a b : Int}, Tryz.prog.globalNamed n = some g → W.var? Tryz.prog n = some c → t = 132 → DataW.trod (fun _ => ()) Tryz.prog W 0 (fun _ => true) false fu t c.toList = some (.agg [.lit (.int .i64 a), .lit (.int .i64 b)], p) → ∃ T f, W.heap[g]? = some (.cells [Value.int .i64 a, Value.int .i64 b].toArray T f) := by
  intro n g t c fu p a b hn hv ht hd
  subst ht
  obtain ⟨T, f, hh⟩ := var_at hn hv
  have := cells_of_pair (e := 3) Tryz.underlying132 rfl rfl rfl rfl rfl (by kernel_rfl) (by kernel_rfl) (by kernel_rfl) hd
  have hc : c = [Value.int .i64 a, Value.int .i64 b].toArray := by rw [← this]
  exact ⟨T, f, by rw [hh, hc]⟩
 have ty : ∀ {g t : Nat} (k : Nat), (Tryz.prog.globals[g]?).map (·.type) = some t → (Tryz.prog.globals[g]?).map (·.type) = some k → t = k := fun k h1 h2 => Option.some.inj (h1.symm.trans h2)
 refine ⟨?_, ?_, ?_, ?_, ?_, ?_⟩
 ·have e1 : Tryz.prog.globalNamed "internal/strconv.uint64pow10" = some 6 := by kernel_rfl
  obtain rfl := Option.some.inj (e1.symm.trans hg3)
  have e2 : (Tryz.prog.globals[6]?).map (·.type) = some 267 := by kernel_rfl
  obtain rfl := Option.some.inj (e2.symm.trans ht3)
  have e3 : Tryz.prog.underlying 267 = some (.array 20 258) := by kernel_rfl
  have e4 : Tryz.prog.underlying 258 = some (.int .u64) := by kernel_rfl
  have e5 : (Rows.laid_internal_strconv_uint64pow10 : DataW Unit) = Lib.tabData .u64 Lib.pow10Tab := by kernel_rfl
  rw [e5] at hd3
  obtain ⟨T, f, hh⟩ := var_at e1 hv3
  have := Lib.cells_of_tab e3 e4 (by kernel_rfl) (by kernel_rfl) hd3
  exact ⟨T, f, by rw [hh, ← this]⟩
 ·have e1 : Tryz.prog.globalNamed "testamur/syntax.anyNumber" = some 4 := by kernel_rfl
  obtain rfl := Option.some.inj (e1.symm.trans hg4)
  exact pair e1 hv4 (ty 132 ht4 (by kernel_rfl)) hd4
 ·have e1 : Tryz.prog.globalNamed "testamur/syntax.factors" = some 0 := by kernel_rfl
  obtain rfl := Option.some.inj (e1.symm.trans hg5)
  exact pair e1 hv5 (ty 132 ht5 (by kernel_rfl)) hd5
 ·have e1 : Tryz.prog.globalNamed "testamur/syntax.editions" = some 1 := by kernel_rfl
  obtain rfl := Option.some.inj (e1.symm.trans hg6)
  exact pair e1 hv6 (ty 132 ht6 (by kernel_rfl)) hd6
 ·have e1 : Tryz.prog.globalNamed "testamur/syntax.weights" = some 3 := by kernel_rfl
  obtain rfl := Option.some.inj (e1.symm.trans hg7)
  exact pair e1 hv7 (ty 132 ht7 (by kernel_rfl)) hd7
 ·have e1 : Tryz.prog.globalNamed "testamur/syntax.mosts" = some 2 := by kernel_rfl
  obtain rfl := Option.some.inj (e1.symm.trans hg8)
  exact pair e1 hv8 (ty 132 ht8 (by kernel_rfl)) hd8
noncomputable def prgOf (W : World) : Prg := ⟨Tryz.prog, fun b => if b ≤ 8 then W.heap[b]? else none⟩
noncomputable def envOf (W : World) : Env := ⟨fun _ => none, fun _ => False, (prgOf W).g⟩
theorem not_own (W : World) (b : Nat) : ¬ own (envOf W) b := by
 rintro (⟨_, _, h, _⟩ | h)
 ·cases h
 ·exact h
theorem env_om (W : World) : OM W (envOf W) [] := by
 refine ⟨fun _ _ h => (by cases h), fun _ _ h => (by cases h), fun _ _ _ _ _ h => (by cases h), fun _ h => h.elim, fun b o h => ⟨?_, not_own W b⟩, fun _ ⟨_, _, h, _⟩ => (by cases h), trivial⟩
 simp only [envOf, prgOf] at h
 split at h
 ·exact h
 ·cases h
theorem g_at (W : World) {b : Nat} (hb : b ≤ 8) : (prgOf W).g b = W.heap[b]? := by simp only [prgOf, hb, if_true]
theorem pow_of {W : World} (h : LaidIs W) : Pow (prgOf W) := by
 obtain ⟨T, f, h⟩ := h.pow
 exact ⟨T, f, by rw [g_at W (by decide), h]⟩
theorem ivl_of {W : World} (h : LaidIs W) : Ivl (prgOf W) := by
 have key : ∀ {g : Nat} {a b : Int}, g ≤ 8 → (∃ T f, W.heap[g]? = some (.cells [Value.int .i64 a, Value.int .i64 b].toArray T f)) → GlobIs (prgOf W) g (.agg [.int .i64 a, .int .i64 b]) := fun hg ⟨T, f, h⟩ => ⟨_, T, f, by rw [g_at W hg, h], by simp [D.isC, D.isCs]⟩
 exact ⟨key (by decide) h.factors, key (by decide) h.editions, key (by decide) h.mosts, key (by decide) h.weights, key (by decide) h.anyNumber⟩
theorem below_of {w w' : World} (h : Ext w w') : Below w.heap.size w w' := ⟨h.os, h.tape, h.out, h.size, fun b hb => h.keep b hb⟩
theorem law_run {f : Nat} {vs : List V} {args : List Value} {W : World} (hL : laidMetH Tryz.prog laidL W)
  (hp : ∀ {P : Prg}, P.p = Tryz.prog → Ivl P → Pow P → PCall P f vs [] (fun v => v = .d (.bool true))) (hr : V.reps W (envOf W) vs args) :
  Calls Tryz.prog f args.toArray W fun e W' => e = .returned (.bool true) ∧ Below W.heap.size W W' := by
 refine ((hp (P := prgOf W) rfl (ivl_of (laid_is hL)) (pow_of (laid_is hL))).run W (envOf W) args (env_om W) rfl hr).mono ?_
 rintro e W' ⟨v, u, rfl, rfl, h, hx⟩
 rw [rep_bool] at h
 subst h
 exact ⟨rfl, below_of hx⟩
def tab32 : List Int := [0, 1, 28, 2, 29, 14, 24, 3, 30, 22, 20, 15, 25, 17, 4, 8, 31, 27, 13, 23, 21, 19, 16, 7, 26, 12, 18, 6, 11, 5, 10, 9]
def tab64 : List Int := [0, 1, 56, 2, 57, 49, 28, 3, 61, 58, 42, 50, 38, 29, 17, 4, 62, 47, 59, 36, 45, 43, 51, 22, 53, 39, 33, 30, 24, 18, 12, 5, 63, 55, 48, 27, 60, 41, 37, 16, 46, 35, 44, 21, 52, 32, 23, 11, 54, 26, 40, 15, 34, 20, 31, 10, 25, 14, 19, 9, 13, 8, 7, 6]
noncomputable def laidWorld (os : Os) : World :=
 let w0 := World.holding Tryz.prog os ⟨#[], #[], []⟩
 { w0 with heap := ((((((((w0.heap.modify 0 fun
   | .cells _ t frozen => .cells (([2, 1000] : List Int).map fun z => Value.int .i64 z).toArray t frozen
   | o => o).modify 1 fun
   | .cells _ t frozen => .cells (([1, 255] : List Int).map fun z => Value.int .i64 z).toArray t frozen
   | o => o).modify 2 fun
   | .cells _ t frozen => .cells (([0, 32] : List Int).map fun z => Value.int .i64 z).toArray t frozen
   | o => o).modify 3 fun
   | .cells _ t frozen => .cells (([0, 9] : List Int).map fun z => Value.int .i64 z).toArray t frozen
   | o => o).modify 4 fun
   | .cells _ t frozen => .cells (([0, 1048576] : List Int).map fun z => Value.int .i64 z).toArray t frozen
   | o => o).modify 6 fun
   | .cells _ t frozen => .cells (Lib.pow10Tab.map fun z => Value.int .u64 z).toArray t frozen
   | o => o).modify 7 fun
   | .cells _ t frozen => .cells (tab32.map fun z => Value.int .u8 z).toArray t frozen
   | o => o).modify 8 fun
   | .cells _ t frozen => .cells (tab64.map fun z => Value.int .u8 z).toArray t frozen
   | o => o) }
theorem laid_met (os : Os) (args : Array Value) : laidMetH Tryz.prog laidL ((laidWorld os).forCall (fun _ _ => 0) ⟨#[], args, []⟩).memory :=
 show laidMet Tryz.prog laidL _ from laidMet_of_run' 8 (by kernel_rfl) (by kernel_rfl)
end Go.Proofs.YtanpgmgkmfckaaaGreatDoor
/- SyntaxParseSpec: the row, the card. Condition: none. -/
namespace Go.Proofs.YtanpgmgkmfckaaaGreatDoor
open Go Go.Ab Go.Lx Go.ChangeShapes Go.WideShapes Go.RowKit Go.ChangeMaps
set_option maxRecDepth 100000
theorem syntaxParseSpec_lifted (os : Os) (started : os.Started) (H : Type) (enc : TypeId × Value → H) :
  ReturnsInHanded {} Tryz.checked os 3 .any (fun w args => (Rows.syntaxParseSpecSpec.pre enc Tryz.prog Tryz.f3 [] false w args ∧ laidMetH Tryz.prog laidL w) ∧ sizedMet enc Tryz.prog Tryz.f3 (OpenSpec.ofChange Rows.syntaxParseSpecSpec) false w args)
   (Rows.syntaxParseSpecSpec.post enc Tryz.prog Tryz.f3 false true false false) := by
 refine returnsInHanded_of_change_and (C := Tryz.checked) (X := fun w _ => laidMetH Tryz.prog laidL w) (fun _ _ _ hh h => h.of_heap hh) own_knob started (by kernel_rfl) Tryz.func3
  (ChangeSpec.witness_at (enc := enc) (C := Tryz.checked) (os := os) (X := fun w _ => laidMetH Tryz.prog laidL w) false (laidWorld os) #[.string ⟨#[]⟩] 8 rfl (by kernel_rfl) (by kernel_rfl) (by kernel_rfl) (by kernel_rfl) (by kernel_rfl) (laid_met os _)) ?_
 intro W base args ds gs before hval0 hW _ _ hL _
 have hval : ∀ (j : Nat) t v, Tryz.f3.params[j]? = some t → args[j]? = some v → Value.okWide Tryz.prog W .any base t v := hval0
 have hW' := hW
 obtain ⟨p, q, hA0, hV0, rfl, hfz, hnd⟩ := hW
 have hA : DataW.TrodAll enc Tryz.prog W 0 (fun _ => true) true Tryz.f3.params.toList args.toList ds p := hA0
 have hV : DataW.TrodVars enc Tryz.prog W (fun _ => true) [] gs q := hV0
 rw [Tryz.params3] at hA hval
 obtain ⟨v0, d0, rfl, rfl, h0⟩ := trodAll_one hA
 obtain ⟨s, rfl, rfl, rfl, hs⟩ := open_string Tryz.underlying9 (hval 0 9 v0 rfl rfl) h0
 obtain ⟨rfl, rfl⟩ : gs = [] ∧ q = [] := by
  cases gs with
  | nil => exact ⟨rfl, hV⟩
  | cons g r => exact absurd hV (by intro h; cases h)
 have e1 : Rows.syntaxParseSpecSpec.fn H ([.lit (.string s.data.toList)] ++ []) = { results := [.lit (.bool true)], args := [.lit (.string s.data.toList)] } := by simp [Rows.syntaxParseSpecSpec]
 refine (law_run (f := 3) (vs := [.d (.str s.data.toList)]) (args := [.string s]) hL (fun hP hI hG => p_SyntaxParseSpec hP hI hG _ rfl) ?_).mono fun e W' ⟨he, hb⟩ => ?_
 ·simp [V.reps, V.isAgg, V.repC, D.rep]
 ·subst he
  refine ⟨_, rfl, _, _, _, [], [], [], hW', ?_, ?_, ?_, hb.frame _, fun h => by cases h⟩
  ·rw [e1]; exact trodAll_mk1 (shut_bool Tryz.underlying4 true)
  ·rw [e1]; exact trodAll_mk1 (shut_string Tryz.underlying9 hs)
  ·rw [e1]; rfl
theorem syntaxParseSpec_row : Rows.SyntaxParseSpecSaid :=
 OpenClaim.holds_of_wide 3 Tryz.f3 rfl rfl rfl rfl rfl rfl rfl ⟨rfl, rfl, rfl, rfl, rfl⟩ rfl rfl rfl rfl rfl (by kernel_rfl) Tryz.func3 (by kernel_rfl)
  (of_decide_eq_true (by kernel_rfl)) (by unfold Func.isWrapper; rw [if_neg (of_decide_eq_false (by kernel_rfl))]; exact ⟨rfl, rfl⟩)
  (fun os started H enc _ => syntaxParseSpec_lifted os started H enc)
theorem syntaxParseSpec_holds : Rows.SyntaxParseSpecCardSaid :=
 Claim7.holds_tied_plain_at .later [] [.data, .data, .data, .wider, .wider, .wider, .wider, .wider] true (true, "cf5cd1432f8b5183e5ff375dfa860e4ec6dfcdef503bc1231dabb980839ab96c") true
  syntaxParseSpec_row (fun _ h => by cases h) (by kernel_rfl) (fun _ h => by cases h) syntaxParseSpec_row_tie rfl ⟨rfl, rfl⟩ (by kernel_rfl) rfl
  (fun f fn hf hfn => by
   obtain rfl : f = 3 := Option.some.inj ((show Tryz.prog.funcNamed "testamur/testamurlaw10.SyntaxParseSpec" = some 3 by kernel_rfl).symm.trans hf) |>.symm
   obtain rfl : fn = Tryz.f3 := (Option.some.inj (Tryz.func3.symm.trans hfn)).symm
   exact ⟨by kernel_rfl, fun j t ht => by
    rw [Tryz.params3] at ht
    have h3 : t = 9 := by
     rcases j with _ | j
     ·simpa using ht.symm
     ·simp at ht
    subst h3
    exact (show Tryz.prog.wantsStandIn 9 = false by kernel_rfl)⟩)
  (by kernel_rfl)
end Go.Proofs.YtanpgmgkmfckaaaGreatDoor
