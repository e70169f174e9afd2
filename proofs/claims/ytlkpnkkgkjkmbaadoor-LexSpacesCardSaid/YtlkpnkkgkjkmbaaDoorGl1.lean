/- From a call to a row: what is laid, the witness, a law's run. Condition: none; the seat's program. -/
import Derived.Test.YtlkpnkkgkjkmbaaDoorLx16
import Derived.Test.YtlkpnkkgkjkmbaaDoorRows
import Derived.ChangeSame
import Derived.ChangeVars
import Derived.ChangeMaps5
import Derived.JoinedOf
import Derived.RowKit
import Derived.RowKitTokens
import Derived.LaidLaws
import Derived.LaidHandle
import Derived.Lib.LaidTab
import Derived.Carry
import Derived.Below
import Derived.Stop.Joined
namespace Go.Proofs.YtlkpnkkgkjkmbaaDoor
open Go Go.Ab Go.Lx Go.ChangeShapes Go.WideShapes Go.RowKit
set_option maxRecDepth 100000
theorem own_knob : ownKnob Tryd.prog.godebug = none := by kernel_rfl
theorem laid_out : laidOutB Tryd.prog = true := by kernel_rfl
abbrev laidL : List (String × DataW Unit) := [("math/bits.deBruijn32tab", Rows.laid_math_bits_deBruijn32tab), ("math/bits.deBruijn64tab", Rows.laid_math_bits_deBruijn64tab), ("internal/strconv.uint64pow10", Rows.laid_internal_strconv_uint64pow10)]
/-- what the rows' condition gives: the powers of ten -/
theorem pow_laid {W : World} (h : laidMetH Tryd.prog laidL W) : Lib.TabIs Tryd.prog W "internal/strconv.uint64pow10" .u64 Lib.pow10Tab := by
  have h' : laidMet Tryd.prog laidL W := h
  obtain ⟨ps, ⟨g1, t1, c1, f1, p1, q1, _, _, _, _, hr1, _⟩, _⟩ := h'
  obtain ⟨g2, t2, c2, f2, p2, q2, _, _, _, _, hr2, _⟩ := hr1
  obtain ⟨g3, t3, c3, f3, p3, q3, hg3, ht3, hv3, hd3, _, _⟩ := hr2
  have e1 : Tryd.prog.globalNamed "internal/strconv.uint64pow10" = some 1 := by kernel_rfl
  obtain rfl := Option.some.inj (e1.symm.trans hg3)
  have e2 : (Tryd.prog.globals[1]?).map (·.type) = some 80 := by kernel_rfl
  obtain rfl := Option.some.inj (e2.symm.trans ht3)
  have e3 : Tryd.prog.underlying 80 = some (.array 20 71) := by kernel_rfl
  have e4 : Tryd.prog.underlying 71 = some (.int .u64) := by kernel_rfl
  have e5 : (Rows.laid_internal_strconv_uint64pow10 : DataW Unit) = Lib.tabData .u64 Lib.pow10Tab := by kernel_rfl
  rw [e5] at hd3
  unfold Lib.TabIs
  rw [hv3, ← Lib.cells_of_tab e3 e4 (by kernel_rfl) (by kernel_rfl) hd3]
/-- the program in such a world -/
noncomputable def prgOf (W : World) : Prg := ⟨Tryd.prog, fun b => if b = 1 then W.heap[1]? else none⟩
noncomputable def envOf (W : World) : Env := ⟨fun _ => none, fun _ => False, (prgOf W).g⟩
theorem not_own (W : World) (b : Nat) : ¬ own (envOf W) b := by
  rintro (⟨_, _, h, _⟩ | h)
  · cases h
  · exact h
theorem env_om (W : World) : OM W (envOf W) [] := by
  refine ⟨fun _ _ h => (by cases h), fun _ _ h => (by cases h), fun _ _ _ _ _ h => (by cases h), fun _ h => h.elim, fun b o h => ⟨?_, not_own W b⟩, fun _ ⟨_, _, h, _⟩ => (by cases h), trivial⟩
  simp only [envOf, prgOf] at h
  split at h
  · rename_i e; subst e; exact h
  · cases h
theorem pow_of {W : World} (h : Lib.TabIs Tryd.prog W "internal/strconv.uint64pow10" .u64 Lib.pow10Tab) : Pow (prgOf W) := by
  have hn : Tryd.prog.globalNamed "internal/strconv.uint64pow10" = some 1 := by kernel_rfl
  simp only [Lib.TabIs, World.var?, hn, Option.bind_some] at h
  simp only [Lx.Pow, prgOf, if_true]
  cases hb : W.heap[1]? with
  | none => rw [hb] at h; cases h
  | some o =>
    rw [hb] at h
    cases o with
    | cells cs T f => simp only [Option.some.injEq] at h; subst h; exact ⟨T, f, rfl⟩
    | _ => cases h
theorem below_of {w w' : World} (h : Ext w w') : Below w.heap.size w w' := ⟨h.os, h.tape, h.out, h.size, fun b hb => h.keep b hb⟩
/-- a law that returns true, run -/
theorem law_run {f : Nat} {vs : List V} {args : List Value} {W : World} (hL : laidMetH Tryd.prog laidL W)
    (hp : ∀ {P : Prg}, P.p = Tryd.prog → Pow P → PCall P f vs [] (fun v => v = .d (.bool true))) (hr : V.reps W (envOf W) vs args) :
    Calls Tryd.prog f args.toArray W fun e W' => e = .returned (.bool true) ∧ Below W.heap.size W W' := by
  refine ((hp (P := prgOf W) rfl (pow_of (pow_laid hL))).run W (envOf W) args (env_om W) rfl hr).mono ?_
  rintro e W' ⟨v, u, rfl, rfl, h, hx⟩
  rw [rep_bool] at h
  subst h
  exact ⟨rfl, below_of hx⟩
def tab32 : List Int := [0, 1, 28, 2, 29, 14, 24, 3, 30, 22, 20, 15, 25, 17, 4, 8, 31, 27, 13, 23, 21, 19, 16, 7, 26, 12, 18, 6, 11, 5, 10, 9]
def tab64 : List Int := [0, 1, 56, 2, 57, 49, 28, 3, 61, 58, 42, 50, 38, 29, 17, 4, 62, 47, 59, 36, 45, 43, 51, 22, 53, 39, 33, 30, 24, 18, 12, 5, 63, 55, 48, 27, 60, 41, 37, 16, 46, 35, 44, 21, 52, 32, 23, 11, 54, 26, 40, 15, 34, 20, 31, 10, 25, 14, 19, 9, 13, 8, 7, 6]
/-- A world that meets the condition: the settled one, the tables laid. -/
noncomputable def laidWorld (os : Os) : World :=
  let w0 := World.holding Tryd.prog os ⟨#[], #[], []⟩
  { w0 with heap := ((w0.heap.modify 1 fun
      | .cells _ t frozen => .cells (Lib.pow10Tab.map fun z => Value.int .u64 z).toArray t frozen
      | o => o).modify 2 fun
      | .cells _ t frozen => .cells (tab32.map fun z => Value.int .u8 z).toArray t frozen
      | o => o).modify 3 fun
      | .cells _ t frozen => .cells (tab64.map fun z => Value.int .u8 z).toArray t frozen
      | o => o }
theorem laid_met (os : Os) (args : Array Value) : laidMetH Tryd.prog laidL ((laidWorld os).forCall (fun _ _ => 0) ⟨#[], args, []⟩).memory :=
  show laidMet Tryd.prog laidL _ from laidMet_of_run' 8 (by kernel_rfl) (by kernel_rfl)
end Go.Proofs.YtlkpnkkgkjkmbaaDoor
