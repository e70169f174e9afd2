/- Texts of this claim joined by a program, part 8 of 9; the last is: The law SyntaxAgain. Condition: the program is the seat's; its package variables are laid. -/
import Derived.Test.YtanpgmgkmfckaaaGreatDoorK7
import Derived.Test.YtanpgmgkmfckaaaGreatDoorProg
import Derived.KernelRfl
set_option linter.unusedSimpArgs false
set_option linter.unusedVariables false
set_option linter.unusedSectionVars false
set_option linter.defProp false
/- What can be printed. No program. -/
namespace Go.Sx
open Go Go.Ab Go.Lx
def inB (lo hi n : Int) : Bool := decide (lo ≤ n) && decide (n ≤ hi)
def Y1 {α : Type} (most : Nat) (b : α → Bool) (l : List α) : Bool := decide (l.length ≤ most) && l.all b
def unitOK (u : RUnit) : Bool := if u.of_ = [] then nameB u.name && u.factor == 0 else nameB u.name && nameB u.of_ && inB 2 1000 u.factor
def typeOK (t : RType) : Bool :=
 if t.kind = 1 then inB 0 1048576 t.lo && inB 0 1048576 t.hi && (t.of_ == [] || nameB t.of_) && t.names.length == 0
 else if t.lo ≠ 0 ∨ t.of_ ≠ [] then false
 else if t.kind = 2 then t.hi == 1023 && t.names.length == 0
 else if t.kind = 3 then t.hi == 4095 && t.names.length == 0
 else if t.kind = 4 then decide (0 < t.names.length) && Y1 16 nameB t.names && t.hi == (t.names.length : Int) - 1
 else false
def fieldOK (f : RField) : Bool := nameB f.name && typeOK f.type && Y1 4 (inB 0 9) [f.w0, f.w1, f.w2, f.w3]
def dependOK (d : RDepend) : Bool := decide (0 < d.names.length) && Y1 11 nameB d.names && nameB d.name
def Xeb : List RField → Bool
 | [] => false
 | f :: _ => f.name == [115, 101, 108, 102] && f.type.kind == 3
def schemaOK (s : RSchema) : Bool := nameB s.name && nameB s.by_ && inB 1 255 s.version && Xeb s.fields && Y1 12 fieldOK s.fields && Y1 8 dependOK s.depends
def pathOK (t : RTerm) : Bool := nameB t.name && nameB t.path && t.n == 0
def termOK (t : RTerm) : Bool := (t.name == [] && t.path == [] && inB 0 1048576 t.n) || pathOK t
def fromOK (f : RFrom) : Bool := nameB f.name && nameB f.kind && ((f.of_.name == [] && f.of_.path == [] && f.of_.n == 0) || pathOK f.of_)
def atomOK (a : RAtom) : Bool := inB 1 4 a.op && termOK a.a && termOK a.b
def setOK (s : RSet) : Bool := nameB s.path && termOK s.term
def ruleOK (r : RRule) : Bool := nameB r.head && decide (0 < r.froms.length) && Y1 3 fromOK r.froms && Y1 8 atomOK r.wheres && Y1 11 setOK r.sets
def moveOK (m : RMove) : Bool := nameB m.to_ && nameB m.from_ && inB (-1048576) 1048576 m.shift
def convertOK (c : RConvert) : Bool := nameB c.from_ && nameB c.to_ && Y1 11 moveOK c.moves
def mayOK (r : RRef) : Bool := nameB r.name && nameB r.path
def purposeOK (p : RPurpose) : Bool := nameB p.name && inB 0 32 p.most && Y1 32 mayOK p.may
def printable (s : RSrc) : Bool := Y1 8 nameB s.issuers && Y1 16 unitOK s.units && Y1 16 schemaOK s.schemas && Y1 16 ruleOK s.rules && Y1 16 convertOK s.converts && Y1 8 purposeOK s.purposes
theorem Wu {α : Type} {n : Nat} {b : α → Bool} {l : List α} : Y1 n b l = true ↔ l.length ≤ n ∧ ∀ x ∈ l, b x = true := by simp [Y1]
def X6y : Ab.Fn := ⟨fun vs => ∃ lo hi n, vs = [.d (.agg [iD lo, iD hi]), .d (iD n)], fun vs => match vs with | [.d (.agg [.int _ lo, .int _ hi]), .d (.int _ n)] => .d (.bool (inB lo hi n)) | _ => .any⟩
@[simp] theorem fnHas_val (lo hi n : Int) (a b c : IntKind) : X6y.val [.d (.agg [.int a lo, .int b hi]), .d (.int c n)] = .d (.bool (inB lo hi n)) := rfl
@[simp] theorem fnHas_pre (lo hi n : Int) : X6y.pre [.d (.agg [.int .i64 lo, .int .i64 hi]), .d (.int .i64 n)] = True := by
 rw [eq_iff_iff]; exact ⟨fun _ => trivial, fun _ => ⟨lo, hi, n, rfl⟩⟩
end Go.Sx
/- The statements of syntax.all at its element types; that they stand for the code is checked by the kernel. No condition. -/
namespace Go.Proofs.YtanpgmgkmfckaaaGreatDoor
open Go Go.Ab
set_option maxRecDepth 100000
def Yad (E sz : Nat) (z : D) : S := .seq (.rg [] [.op (some 16) (.c (.bin .lss (.t 15) (.t 14)))] [2, 13, 14, 15, 16] [])
 (.seq (.cond (.t 16) (.skip) (.exit 0))
 (.seq (.block 1 (.seq (.rg [] [.op (some 17) (.c (.idxA sz (.t 13) (.t 15))),
   .op (some 18) (.c (.ld sz true (.t 17))),
   .op (some 8) (.alloc E z),
   .op none (.st sz (.t 8) (.t 18))] [2, 8, 13, 14, 15] [])
 (.seq (.rg [] [.op (some 19) (.c (.mv (.t 2))),
   .op (some 20) (.c (.ld sz true (.t 8))),
   .op (some 21) (.callv (.t 19) [(.t 20)]),
   .op (some 22) (.c (.not (.t 21)))] [2, 13, 14, 15, 22] [])
 (.cond (.t 22) (.seq (.rg [] [.op (some 6) (.c (.mv (.bool false)))] [6] [])
 (.ret)) (.skip)))))
 (.rg [] [.op (some 23) (.c (.bin .add (.t 15) (.int .i64 1))),
   .op (some 15) (.c (.mv (.t 23)))] [2, 13, 14, 15] [])))
def Wg (E sz : Nat) (z : D) : S := .seq (.rg [] [.op (some 6) (.c (.mv (.bool false)))] [0, 1, 2] [])
 (.seq (.seq (.rg [] [.op (some 9) (.c (.mv (.t 0))),
   .op (some 10) (.c (.lenL (.t 9))),
   .op (some 11) (.c (.mv (.t 1))),
   .op (some 12) (.c (.bin .gtr (.t 10) (.t 11)))] [0, 2, 12] [])
 (.cond (.t 12) (.seq (.rg [] [.op (some 6) (.c (.mv (.bool false)))] [6] [])
 (.ret)) (.skip)))
 (.seq (.seq (.rg [] [.op (some 13) (.c (.mv (.t 0))),
   .op (some 14) (.c (.lenL (.t 13))),
   .op (some 15) (.c (.mv (.int .i64 0)))] [2, 13, 14, 15] [])
 (.block 0 (.loop [2, 13, 14, 15] (Yad E sz z))))
 (.seq (.rg [] [.op (some 6) (.c (.mv (.bool true)))] [6] [])
 (.ret))))
def Xki (E sz : Nat) (z : D) : S2 := .seq (.rg [] [(2, (.a (.t 2))), (13, (.a (.t 13))), (14, (.a (.t 14))), (15, (.a (.t 15))), (16, (.b (.bin .lss (.t 0) (.t 1)) (.a (.t 15)) (.a (.t 14))))] [])
 (.seq (.cond (.t 16) (.skip) (.exit 0))
 (.seq (.block 1 (.seq (.rg [.chk [] (.u (.ld sz true (.t 0)) (.b (.idxA sz (.t 0) (.t 1)) (.a (.t 13)) (.a (.t 15)))), .lt 18 [] (.u (.ld sz true (.t 0)) (.b (.idxA sz (.t 0) (.t 1)) (.a (.t 13)) (.a (.t 15)))), .op (some 8) (.alloc E z), .op none (.st sz (.t 8) (.t 18))] [(2, (.a (.t 2))), (8, (.a (.t 8))), (13, (.a (.t 13))), (14, (.a (.t 14))), (15, (.a (.t 15)))] [])
 (.seq (.rg [.chk [] (.u (.ld sz true (.t 0)) (.a (.t 8))), .lt 20 [] (.u (.ld sz true (.t 0)) (.a (.t 8))), .lt 19 [] (.a (.t 2)), .op (some 21) (.callv (.t 19) [(.t 20)])] [(2, (.a (.t 2))), (13, (.a (.t 13))), (14, (.a (.t 14))), (15, (.a (.t 15))), (22, (.u (.not (.t 0)) (.a (.t 21))))] [])
 (.cond (.t 22) (.seq (.rg [] [(6, (.a (.bool false)))] [])
 (.ret)) (.skip)))))
 (.rg [] [(2, (.a (.t 2))), (13, (.a (.t 13))), (14, (.a (.t 14))), (15, (.b (.bin .add (.t 0) (.t 1)) (.a (.t 15)) (.a (.int .i64 1))))] [])))
def Jr (E sz : Nat) (z : D) : S2 := .seq (.rg [] [(0, (.a (.t 0))), (1, (.a (.t 1))), (2, (.a (.t 2)))] [])
 (.seq (.seq (.rg [] [(0, (.a (.t 0))), (2, (.a (.t 2))), (12, (.b (.bin .gtr (.t 0) (.t 1)) (.u (.lenL (.t 0)) (.a (.t 0))) (.a (.t 1))))] [])
 (.cond (.t 12) (.seq (.rg [] [(6, (.a (.bool false)))] [])
 (.ret)) (.skip)))
 (.seq (.seq (.rg [] [(2, (.a (.t 2))), (13, (.a (.t 0))), (14, (.u (.lenL (.t 0)) (.a (.t 0)))), (15, (.a (.int .i64 0)))] [])
 (.block 0 (.loop [2, 13, 14, 15] (Xki E sz z))))
 (.seq (.rg [] [(6, (.a (.bool true)))] [])
 (.ret))))
theorem Yit : X0 Tryz.prog 101 3 (Wg 74 5 (.agg [.str [], .str [], .int .i64 0, .int .i64 0, .int .i64 0])) [.t 6] = true := by kernel_rfl
theorem Yk0 : (Wg 74 5 (.agg [.str [], .str [], .int .i64 0, .int .i64 0, .int .i64 0])).lift [] = some (Jr 74 5 (.agg [.str [], .str [], .int .i64 0, .int .i64 0, .int .i64 0])) := by kernel_rfl
theorem Yjb : X0 Tryz.prog 103 3 (Wg 79 6 (.agg [.str [], .str [], .int .i64 0, .int .i64 0, .nils, .nils])) [.t 6] = true := by kernel_rfl
theorem Yh7 : (Wg 79 6 (.agg [.str [], .str [], .int .i64 0, .int .i64 0, .nils, .nils])).lift [] = some (Jr 79 6 (.agg [.str [], .str [], .int .i64 0, .int .i64 0, .nils, .nils])) := by kernel_rfl
theorem Yho : X0 Tryz.prog 105 3 (Wg 50 5 (.agg [.str [], .int .i64 0, .nils, .nils, .nils])) [.t 6] = true := by kernel_rfl
theorem Yi2 : (Wg 50 5 (.agg [.str [], .int .i64 0, .nils, .nils, .nils])).lift [] = some (Jr 50 5 (.agg [.str [], .int .i64 0, .nils, .nils, .nils])) := by kernel_rfl
theorem Yhr : X0 Tryz.prog 107 3 (Wg 84 5 (.agg [.str [], .str [], .int .i64 0, .int .i64 0, .nils])) [.t 6] = true := by kernel_rfl
theorem Ykn : (Wg 84 5 (.agg [.str [], .str [], .int .i64 0, .int .i64 0, .nils])).lift [] = some (Jr 84 5 (.agg [.str [], .str [], .int .i64 0, .int .i64 0, .nils])) := by kernel_rfl
theorem Yhp : X0 Tryz.prog 109 3 (Wg 88 3 (.agg [.str [], .nils, .int .i64 0])) [.t 6] = true := by kernel_rfl
theorem Yl6 : (Wg 88 3 (.agg [.str [], .nils, .int .i64 0])).lift [] = some (Jr 88 3 (.agg [.str [], .nils, .int .i64 0])) := by kernel_rfl
theorem Yiq : X0 Tryz.prog 154 3 (Wg 93 11 (.agg [.str [], .agg [.int .i64 0, .int .i64 0, .int .i64 0, .str [], .int .i64 0, .nils], .agg [.int .i64 0, .int .i64 0, .int .i64 0, .int .i64 0]])) [.t 6] = true := by kernel_rfl
theorem Yjq : (Wg 93 11 (.agg [.str [], .agg [.int .i64 0, .int .i64 0, .int .i64 0, .str [], .int .i64 0, .nils], .agg [.int .i64 0, .int .i64 0, .int .i64 0, .int .i64 0]])).lift [] = some (Jr 93 11 (.agg [.str [], .agg [.int .i64 0, .int .i64 0, .int .i64 0, .str [], .int .i64 0, .nils], .agg [.int .i64 0, .int .i64 0, .int .i64 0, .int .i64 0]])) := by kernel_rfl
theorem Yjo : X0 Tryz.prog 156 3 (Wg 96 4 (.agg [.nils, .str [], .nils, .int .i64 0])) [.t 6] = true := by kernel_rfl
theorem Yl5 : (Wg 96 4 (.agg [.nils, .str [], .nils, .int .i64 0])).lift [] = some (Jr 96 4 (.agg [.nils, .str [], .nils, .int .i64 0])) := by kernel_rfl
theorem Yky : X0 Tryz.prog 158 3 (Wg 54 8 (.agg [.str [], .str [], .int .i64 0, .agg [.str [], .str [], .int .i64 0, .int .i64 0, .int .i64 0]])) [.t 6] = true := by kernel_rfl
theorem Ykl : (Wg 54 8 (.agg [.str [], .str [], .int .i64 0, .agg [.str [], .str [], .int .i64 0, .int .i64 0, .int .i64 0]])).lift [] = some (Jr 54 8 (.agg [.str [], .str [], .int .i64 0, .agg [.str [], .str [], .int .i64 0, .int .i64 0, .int .i64 0]])) := by kernel_rfl
theorem Yj5 : X0 Tryz.prog 161 3 (Wg 56 11 (.agg [.int .i64 0, .agg [.str [], .str [], .int .i64 0, .int .i64 0, .int .i64 0], .agg [.str [], .str [], .int .i64 0, .int .i64 0, .int .i64 0]])) [.t 6] = true := by kernel_rfl
theorem Ylg : (Wg 56 11 (.agg [.int .i64 0, .agg [.str [], .str [], .int .i64 0, .int .i64 0, .int .i64 0], .agg [.str [], .str [], .int .i64 0, .int .i64 0, .int .i64 0]])).lift [] = some (Jr 56 11 (.agg [.int .i64 0, .agg [.str [], .str [], .int .i64 0, .int .i64 0, .int .i64 0], .agg [.str [], .str [], .int .i64 0, .int .i64 0, .int .i64 0]])) := by kernel_rfl
theorem Yiy : X0 Tryz.prog 164 3 (Wg 58 7 (.agg [.str [], .int .i64 0, .agg [.str [], .str [], .int .i64 0, .int .i64 0, .int .i64 0]])) [.t 6] = true := by kernel_rfl
theorem Yi4 : (Wg 58 7 (.agg [.str [], .int .i64 0, .agg [.str [], .str [], .int .i64 0, .int .i64 0, .int .i64 0]])).lift [] = some (Jr 58 7 (.agg [.str [], .int .i64 0, .agg [.str [], .str [], .int .i64 0, .int .i64 0, .int .i64 0]])) := by kernel_rfl
theorem Yke : X0 Tryz.prog 166 3 (Wg 112 5 (.agg [.str [], .str [], .int .i64 0, .int .i64 0, .int .i64 0])) [.t 6] = true := by kernel_rfl
theorem Yhx : (Wg 112 5 (.agg [.str [], .str [], .int .i64 0, .int .i64 0, .int .i64 0])).lift [] = some (Jr 112 5 (.agg [.str [], .str [], .int .i64 0, .int .i64 0, .int .i64 0])) := by kernel_rfl
theorem Ylc : X0 Tryz.prog 168 3 (Wg 107 4 (.agg [.str [], .str [], .int .i64 0, .int .i64 0])) [.t 6] = true := by kernel_rfl
theorem Yj4 : (Wg 107 4 (.agg [.str [], .str [], .int .i64 0, .int .i64 0])).lift [] = some (Jr 107 4 (.agg [.str [], .str [], .int .i64 0, .int .i64 0])) := by kernel_rfl
end Go.Proofs.YtanpgmgkmfckaaaGreatDoor
/- Contracts: syntax.all at its element types. Condition: the program is the seat's. -/
namespace Go.Proofs.YtanpgmgkmfckaaaGreatDoor
open Go Go.Ab Go.Lx Go.Sx
set_option maxRecDepth 100000
set_option maxHeartbeats 4000000
section
variable {P : Prg} (hP : P.p = Tryz.prog)
include hP
theorem Xmh (l : List B) (most : Nat) (f : Nat) (fi : List V) (b : B → Bool) (hc : Xg P.p f = true) (hb : ∀ x ∈ l, ∀ (ob : Objs) (K : Out → Objs → Prop), K (.ret (.d (.bool (b x)))) ob → ACall P f (fi ++ [.d (D.str x)]) ob K) (hlen : l.length ≤ 9223372036854775807) {ob : Objs} {K : Out → Objs → Prop} (h : K (.ret (.d (.bool (Y1 most b l)))) ob) : ACall P 99 [.d (.list 1 (l.map D.str)), .d (.int .i64 most), .fn f fi []] ob K := by
 refine acall_lift hP mixed Yol Ysy TOk.nil fun hv hm => ?_
 have hfi : ∀ kp, V.mens (young (fresh ob) kp) fi = false := fun kp => by have := hv kp; simpa using this
 simp [Yr6]
 refine ⟨fun hm1 => ?_, fun hm1 => ?_⟩
 ·have : Y1 most b l = false := by simp [Y1]; omega
  rw [this] at h
  exact ⟨[], by simp, by simpa using hm [], by simpa using h⟩
 have hal : Y1 most b l = l.all b := by simp [Y1]; omega
 rw [hal] at h
 refine ALoop.upto l.length (fun k => [(2, .fn f fi []), (13, .d (.list 1 (l.map D.str))), (14, .d (.int .i64 l.length)), (15, .d (.int .i64 k))]) (fun _ => ob) (fun k => (l.take k).all b = true) rfl (by simp) rfl ?_ ?_
 ·intro k hk hI R rn re rr rp
  have hi : IntKind.i64.wrap ((k : Int) + 1) = (k : Int) + 1 := IntWalk.i64_in _ (by omega)
  simp [Xuf, hk]
  refine ⟨hc, hb l[k] (by simp) _ _ ?_⟩
  simp
  refine ⟨fun hf => rr _ _ ?_, fun ht => ?_⟩
  ·have : l.all b = false := by
    rw [List.all_eq_false]
    exact ⟨l[k], by simp, by simp [hf]⟩
   rw [this] at h
   simp
   exact ⟨[], by simp, by simpa using hm [], by simpa using h⟩
  ·refine rn [] _ _ ?_ (by simp [hi]) (by simp) ?_ (hm [])
   ·rw [← List.take_append_getElem hk, List.all_append]; simp [hI, ht]
   ·simpa using hfi []
 ·intro hI R re rr rp
  rw [List.take_length] at hI
  rw [hI] at h
  simp [Xuf]
  refine re _ _ _ ?_
  simp
  exact ⟨[], by simp, by simpa using hm [], by simpa using h⟩
theorem Xtb (l : List Int) (most : Nat) (f : Nat) (fi : List D) (b : Int → Bool) (hc : Xg P.p f = true) (hb : ∀ x ∈ l, ∀ (ob : Objs) (K : Out → Objs → Prop), K (.ret (.d (.bool (b x)))) ob → ACall P f (fi.map .d ++ [.d (iD x)]) ob K) (hlen : l.length ≤ 9223372036854775807) {ob : Objs} {K : Out → Objs → Prop} (h : K (.ret (.d (.bool (Y1 most b l)))) ob) : ACall P 181 [.d (.list 1 (l.map iD)), .d (.int .i64 most), .d (.fn f fi [])] ob K := by
 refine acall_lift hP mixed Yk9 Ykx TOk.nil fun hv hm => ?_
 simp [Ykz]
 refine ⟨fun hm1 => ?_, fun hm1 => ?_⟩
 ·have : Y1 most b l = false := by simp [Y1]; omega
  rw [this] at h
  exact ⟨[], by simp, by simpa using hm [], by simpa using h⟩
 have hal : Y1 most b l = l.all b := by simp [Y1]; omega
 rw [hal] at h
 refine ALoop.upto l.length (fun k => [(2, .d (.fn f fi [])), (13, .d (.list 1 (l.map iD))), (14, .d (.int .i64 l.length)), (15, .d (.int .i64 k))]) (fun _ => ob) (fun k => (l.take k).all b = true) rfl (by simp) rfl ?_ ?_
 ·intro k hk hI R rn re rr rp
  have hi : IntKind.i64.wrap ((k : Int) + 1) = (k : Int) + 1 := IntWalk.i64_in _ (by omega)
  simp [Xqd, hk]
  refine ⟨hc, hb l[k] (by simp) _ _ ?_⟩
  simp [X17, X2z]
  refine ⟨fun hf => rr _ _ ?_, fun ht => ?_⟩
  ·have : l.all b = false := by
    rw [List.all_eq_false]
    exact ⟨l[k], by simp, by simp [hf]⟩
   rw [this] at h
   simp
   exact ⟨[], by simp, by simpa using hm [], by simpa using h⟩
  ·refine rn [] _ _ ?_ (by simp [hi]) (by simp) ?_ (hm [])
   ·rw [← List.take_append_getElem hk, List.all_append]; simp [hI, ht]
   ·simp
 ·intro hI R re rr rp
  rw [List.take_length] at hI
  rw [hI] at h
  simp [Xqd]
  refine re _ _ _ ?_
  simp
  exact ⟨[], by simp, by simpa using hm [], by simpa using h⟩
theorem Xb4 {α : Type} {enc : α → D} {F E sz : Nat} {z : D} (ok : X0 Tryz.prog F 3 (Wg E sz z) [.t 6] = true) (lf : (Wg E sz z).lift [] = some (Jr E sz z)) (hz : ∃ zs, z = .agg zs) (hs : ∀ x, ∃ xs, enc x = .agg xs ∧ (D.agg xs).shape = z.shape ∧ z.shape.size = sz ∧ (D.agg xs).sz = sz)
  (l : List α) (most : Nat) (f : Nat) (fi : List V) (b : α → Bool) (hc : Xg P.p f = true) (hb : ∀ x ∈ l, ∀ (ob : Objs) (K : Out → Objs → Prop), K (.ret (.d (.bool (b x)))) ob → ACall P f (fi ++ [.d (enc x)]) ob K) (hlen : l.length ≤ 9223372036854775807) {ob : Objs} {K : Out → Objs → Prop} (h : K (.ret (.d (.bool (Y1 most b l)))) ob) : ACall P F [.d (.list sz (l.map enc)), .d (.int .i64 most), .fn f fi []] ob K := by
 obtain ⟨zs, rfl⟩ := hz
 refine acall_lift hP mixed ok lf TOk.nil fun hv hm => ?_
 have hfi : ∀ kp, V.mens (young (fresh ob) kp) fi = false := fun kp => by have := hv kp; simpa using this
 simp [Jr]
 refine ⟨fun hm1 => ?_, fun hm1 => ?_⟩
 ·have : Y1 most b l = false := by simp [Y1]; omega
  rw [this] at h
  exact ⟨[], by simp, by simpa using hm [], by simpa using h⟩
 have hal : Y1 most b l = l.all b := by simp [Y1]; omega
 rw [hal] at h
 refine ALoop.upto l.length (fun k => [(2, .fn f fi []), (13, .d (.list sz (l.map enc))), (14, .d (.int .i64 l.length)), (15, .d (.int .i64 k))]) (fun _ => ob) (fun k => (l.take k).all b = true) rfl (by simp) rfl ?_ ?_
 ·intro k hk hI R rn re rr rp
  have hi : IntKind.i64.wrap ((k : Int) + 1) = (k : Int) + 1 := IntWalk.i64_in _ (by omega)
  obtain ⟨xs, hx, h1, h2, h3⟩ := hs l[k]
  have h1' : D.shapes xs = D.shapes zs := by simpa [D.shape] using h1
  have h2' : Sh.sizes (D.shapes zs) = sz := by simpa [D.shape, Sh.size] using h2
  have h3' : D.szs xs = sz := by simpa [D.sz] using h3
  have hbk := hb l[k] (by simp)
  rw [hx] at hbk
  simp [Xki, hk, hx, h1', h2', h3']
  refine ⟨hc, hbk _ _ ?_⟩
  simp
  refine ⟨fun hf => rr _ _ ?_, fun ht => ?_⟩
  ·have : l.all b = false := by
    rw [List.all_eq_false]
    exact ⟨l[k], by simp, by simp [hf]⟩
   rw [this] at h
   simp
   exact ⟨[], by simp, by simpa using hm [], by simpa using h⟩
  ·refine rn [] _ _ ?_ (by simp [hi]) (by simp) ?_ (hm [])
   ·rw [← List.take_append_getElem hk, List.all_append]; simp [hI, ht]
   ·simpa using hfi []
 ·intro hI R re rr rp
  rw [List.take_length] at hI
  rw [hI] at h
  simp [Xki]
  refine re _ _ _ ?_
  simp
  exact ⟨[], by simp, by simpa using hm [], by simpa using h⟩
theorem Xr9 (l : List RUnit) (most : Nat) (f : Nat) (fi : List V) (b : RUnit → Bool) (hc : Xg P.p f = true) (hb : ∀ x ∈ l, ∀ (ob : Objs) (K : Out → Objs → Prop), K (.ret (.d (.bool (b x)))) ob → ACall P f (fi ++ [.d x.enc]) ob K) (hlen : l.length ≤ 9223372036854775807) {ob : Objs} {K : Out → Objs → Prop} (h : K (.ret (.d (.bool (Y1 most b l)))) ob) : ACall P 101 [.d (.list 5 (l.map RUnit.enc)), .d (.int .i64 most), .fn f fi []] ob K :=
 Xb4 hP Yit Yk0 ⟨_, rfl⟩ (fun x => ⟨_, rfl, by simp [D.shape, D.shapes, RUnit.enc, Xh, Yl], by simp [D.shape, D.shapes, Sh.size, Sh.sizes], by simp [D.sz, D.szs, RUnit.enc, Xh, Yl]⟩) l most f fi b hc hb hlen h
theorem Xjw (l : List RSchema) (most : Nat) (f : Nat) (fi : List V) (b : RSchema → Bool) (hc : Xg P.p f = true) (hb : ∀ x ∈ l, ∀ (ob : Objs) (K : Out → Objs → Prop), K (.ret (.d (.bool (b x)))) ob → ACall P f (fi ++ [.d x.enc]) ob K) (hlen : l.length ≤ 9223372036854775807) {ob : Objs} {K : Out → Objs → Prop} (h : K (.ret (.d (.bool (Y1 most b l)))) ob) : ACall P 103 [.d (.list 6 (l.map RSchema.enc)), .d (.int .i64 most), .fn f fi []] ob K :=
 Xb4 hP Yjb Yh7 ⟨_, rfl⟩ (fun x => ⟨_, rfl, by simp [D.shape, D.shapes, RSchema.enc, Xh, Yl], by simp [D.shape, D.shapes, Sh.size, Sh.sizes], by simp [D.sz, D.szs, RSchema.enc, Xh, Yl]⟩) l most f fi b hc hb hlen h
theorem Xrg (l : List RRule) (most : Nat) (f : Nat) (fi : List V) (b : RRule → Bool) (hc : Xg P.p f = true) (hb : ∀ x ∈ l, ∀ (ob : Objs) (K : Out → Objs → Prop), K (.ret (.d (.bool (b x)))) ob → ACall P f (fi ++ [.d x.enc]) ob K) (hlen : l.length ≤ 9223372036854775807) {ob : Objs} {K : Out → Objs → Prop} (h : K (.ret (.d (.bool (Y1 most b l)))) ob) : ACall P 105 [.d (.list 5 (l.map RRule.enc)), .d (.int .i64 most), .fn f fi []] ob K :=
 Xb4 hP Yho Yi2 ⟨_, rfl⟩ (fun x => ⟨_, rfl, by simp [D.shape, D.shapes, RRule.enc, Xh, Yl], by simp [D.shape, D.shapes, Sh.size, Sh.sizes], by simp [D.sz, D.szs, RRule.enc, Xh, Yl]⟩) l most f fi b hc hb hlen h
theorem Xgt (l : List RConvert) (most : Nat) (f : Nat) (fi : List V) (b : RConvert → Bool) (hc : Xg P.p f = true) (hb : ∀ x ∈ l, ∀ (ob : Objs) (K : Out → Objs → Prop), K (.ret (.d (.bool (b x)))) ob → ACall P f (fi ++ [.d x.enc]) ob K) (hlen : l.length ≤ 9223372036854775807) {ob : Objs} {K : Out → Objs → Prop} (h : K (.ret (.d (.bool (Y1 most b l)))) ob) : ACall P 107 [.d (.list 5 (l.map RConvert.enc)), .d (.int .i64 most), .fn f fi []] ob K :=
 Xb4 hP Yhr Ykn ⟨_, rfl⟩ (fun x => ⟨_, rfl, by simp [D.shape, D.shapes, RConvert.enc, Xh, Yl], by simp [D.shape, D.shapes, Sh.size, Sh.sizes], by simp [D.sz, D.szs, RConvert.enc, Xh, Yl]⟩) l most f fi b hc hb hlen h
theorem Xhv (l : List RPurpose) (most : Nat) (f : Nat) (fi : List V) (b : RPurpose → Bool) (hc : Xg P.p f = true) (hb : ∀ x ∈ l, ∀ (ob : Objs) (K : Out → Objs → Prop), K (.ret (.d (.bool (b x)))) ob → ACall P f (fi ++ [.d x.enc]) ob K) (hlen : l.length ≤ 9223372036854775807) {ob : Objs} {K : Out → Objs → Prop} (h : K (.ret (.d (.bool (Y1 most b l)))) ob) : ACall P 109 [.d (.list 3 (l.map RPurpose.enc)), .d (.int .i64 most), .fn f fi []] ob K :=
 Xb4 hP Yhp Yl6 ⟨_, rfl⟩ (fun x => ⟨_, rfl, by simp [D.shape, D.shapes, RPurpose.enc, Xh, Yl], by simp [D.shape, D.shapes, Sh.size, Sh.sizes], by simp [D.sz, D.szs, RPurpose.enc, Xh, Yl]⟩) l most f fi b hc hb hlen h
theorem Xox (l : List RField) (most : Nat) (f : Nat) (fi : List V) (b : RField → Bool) (hc : Xg P.p f = true) (hb : ∀ x ∈ l, ∀ (ob : Objs) (K : Out → Objs → Prop), K (.ret (.d (.bool (b x)))) ob → ACall P f (fi ++ [.d x.enc]) ob K) (hlen : l.length ≤ 9223372036854775807) {ob : Objs} {K : Out → Objs → Prop} (h : K (.ret (.d (.bool (Y1 most b l)))) ob) : ACall P 154 [.d (.list 11 (l.map RField.enc)), .d (.int .i64 most), .fn f fi []] ob K :=
 Xb4 hP Yiq Yjq ⟨_, rfl⟩ (fun x => ⟨_, rfl, by simp [D.shape, D.shapes, RField.enc, RType.enc, Xh, Yl], by simp [D.shape, D.shapes, Sh.size, Sh.sizes], by simp [D.sz, D.szs, RField.enc, RType.enc, Xh, Yl]⟩) l most f fi b hc hb hlen h
theorem Xjr (l : List RDepend) (most : Nat) (f : Nat) (fi : List V) (b : RDepend → Bool) (hc : Xg P.p f = true) (hb : ∀ x ∈ l, ∀ (ob : Objs) (K : Out → Objs → Prop), K (.ret (.d (.bool (b x)))) ob → ACall P f (fi ++ [.d x.enc]) ob K) (hlen : l.length ≤ 9223372036854775807) {ob : Objs} {K : Out → Objs → Prop} (h : K (.ret (.d (.bool (Y1 most b l)))) ob) : ACall P 156 [.d (.list 4 (l.map RDepend.enc)), .d (.int .i64 most), .fn f fi []] ob K :=
 Xb4 hP Yjo Yl5 ⟨_, rfl⟩ (fun x => ⟨_, rfl, by simp [D.shape, D.shapes, RDepend.enc, Xh, Yl], by simp [D.shape, D.shapes, Sh.size, Sh.sizes], by simp [D.sz, D.szs, RDepend.enc, Xh, Yl]⟩) l most f fi b hc hb hlen h
theorem Xr0 (l : List RFrom) (most : Nat) (f : Nat) (fi : List V) (b : RFrom → Bool) (hc : Xg P.p f = true) (hb : ∀ x ∈ l, ∀ (ob : Objs) (K : Out → Objs → Prop), K (.ret (.d (.bool (b x)))) ob → ACall P f (fi ++ [.d x.enc]) ob K) (hlen : l.length ≤ 9223372036854775807) {ob : Objs} {K : Out → Objs → Prop} (h : K (.ret (.d (.bool (Y1 most b l)))) ob) : ACall P 158 [.d (.list 8 (l.map RFrom.enc)), .d (.int .i64 most), .fn f fi []] ob K :=
 Xb4 hP Yky Ykl ⟨_, rfl⟩ (fun x => ⟨_, rfl, by simp [D.shape, D.shapes, RFrom.enc, RTerm.enc, Xh, Yl], by simp [D.shape, D.shapes, Sh.size, Sh.sizes], by simp [D.sz, D.szs, RFrom.enc, RTerm.enc, Xh, Yl]⟩) l most f fi b hc hb hlen h
theorem Xr5 (l : List RAtom) (most : Nat) (f : Nat) (fi : List V) (b : RAtom → Bool) (hc : Xg P.p f = true) (hb : ∀ x ∈ l, ∀ (ob : Objs) (K : Out → Objs → Prop), K (.ret (.d (.bool (b x)))) ob → ACall P f (fi ++ [.d x.enc]) ob K) (hlen : l.length ≤ 9223372036854775807) {ob : Objs} {K : Out → Objs → Prop} (h : K (.ret (.d (.bool (Y1 most b l)))) ob) : ACall P 161 [.d (.list 11 (l.map RAtom.enc)), .d (.int .i64 most), .fn f fi []] ob K :=
 Xb4 hP Yj5 Ylg ⟨_, rfl⟩ (fun x => ⟨_, rfl, by simp [D.shape, D.shapes, RAtom.enc, RTerm.enc, Xh, Yl], by simp [D.shape, D.shapes, Sh.size, Sh.sizes], by simp [D.sz, D.szs, RAtom.enc, RTerm.enc, Xh, Yl]⟩) l most f fi b hc hb hlen h
theorem Xtj (l : List RSet) (most : Nat) (f : Nat) (fi : List V) (b : RSet → Bool) (hc : Xg P.p f = true) (hb : ∀ x ∈ l, ∀ (ob : Objs) (K : Out → Objs → Prop), K (.ret (.d (.bool (b x)))) ob → ACall P f (fi ++ [.d x.enc]) ob K) (hlen : l.length ≤ 9223372036854775807) {ob : Objs} {K : Out → Objs → Prop} (h : K (.ret (.d (.bool (Y1 most b l)))) ob) : ACall P 164 [.d (.list 7 (l.map RSet.enc)), .d (.int .i64 most), .fn f fi []] ob K :=
 Xb4 hP Yiy Yi4 ⟨_, rfl⟩ (fun x => ⟨_, rfl, by simp [D.shape, D.shapes, RSet.enc, RTerm.enc, Xh, Yl], by simp [D.shape, D.shapes, Sh.size, Sh.sizes], by simp [D.sz, D.szs, RSet.enc, RTerm.enc, Xh, Yl]⟩) l most f fi b hc hb hlen h
theorem Xsn (l : List RMove) (most : Nat) (f : Nat) (fi : List V) (b : RMove → Bool) (hc : Xg P.p f = true) (hb : ∀ x ∈ l, ∀ (ob : Objs) (K : Out → Objs → Prop), K (.ret (.d (.bool (b x)))) ob → ACall P f (fi ++ [.d x.enc]) ob K) (hlen : l.length ≤ 9223372036854775807) {ob : Objs} {K : Out → Objs → Prop} (h : K (.ret (.d (.bool (Y1 most b l)))) ob) : ACall P 166 [.d (.list 5 (l.map RMove.enc)), .d (.int .i64 most), .fn f fi []] ob K :=
 Xb4 hP Yke Yhx ⟨_, rfl⟩ (fun x => ⟨_, rfl, by simp [D.shape, D.shapes, RMove.enc, Xh, Yl], by simp [D.shape, D.shapes, Sh.size, Sh.sizes], by simp [D.sz, D.szs, RMove.enc, Xh, Yl]⟩) l most f fi b hc hb hlen h
theorem Xyf (l : List RRef) (most : Nat) (f : Nat) (fi : List V) (b : RRef → Bool) (hc : Xg P.p f = true) (hb : ∀ x ∈ l, ∀ (ob : Objs) (K : Out → Objs → Prop), K (.ret (.d (.bool (b x)))) ob → ACall P f (fi ++ [.d x.enc]) ob K) (hlen : l.length ≤ 9223372036854775807) {ob : Objs} {K : Out → Objs → Prop} (h : K (.ret (.d (.bool (Y1 most b l)))) ob) : ACall P 168 [.d (.list 4 (l.map RRef.enc)), .d (.int .i64 most), .fn f fi []] ob K :=
 Xb4 hP Ylc Yj4 ⟨_, rfl⟩ (fun x => ⟨_, rfl, by simp [D.shape, D.shapes, RRef.enc, Xh, Yl], by simp [D.shape, D.shapes, Sh.size, Sh.sizes], by simp [D.sz, D.szs, RRef.enc, Xh, Yl]⟩) l most f fi b hc hb hlen h
end
end Go.Proofs.YtanpgmgkmfckaaaGreatDoor
/- Contracts: what can be printed. Condition: the program is the seat's; its intervals are laid. -/
namespace Go.Proofs.YtanpgmgkmfckaaaGreatDoor
open Go Go.Ab Go.Lx Go.Sx
set_option maxRecDepth 100000
set_option maxHeartbeats 4000000
theorem Kb {K : V → Prop} {a b : Bool} (h : K (.d (.bool a))) (e : a = true ↔ b = true) : K (.d (.bool b)) := by
 have : a = b := by
  cases a <;> cases b <;> simp_all
 rw [← this]; exact h
theorem Xhx (n : Nat) : ((n : Int) + 1 = 0) ↔ False := ⟨fun h => by omega, False.elim⟩
section
variable {P : Prg} (hP : P.p = Tryz.prog)
include hP
theorem Xym : PFn P 134 X6y := by
 rintro vs ⟨lo, hi, n, rfl⟩ ob K h
 exact X9w hP lo hi n h
theorem X04 (s : B) {ob : Objs} {K : V → Prop} (h : K (.d (.bool (nameB s)))) : PCall P 100 [.d (.str s)] ob K := c_Name hP [.d (.str s)] (by simp) ob K (by simpa using h)
theorem Xcn (t : RTerm) {ob : Objs} {K : V → Prop} (h : K (.d (.bool (Sx.pathOK t)))) : PCall P 160 [.d t.enc] ob K := by
 refine pcall_lift hP mixed (ds := [t.enc]) Yj6 Yis (TOk.cons (c_Name hP) TOk.nil) ?_
 simp [Yk8, RTerm.enc]
 simpa [Sx.pathOK] using h
variable (hI : Ivl P)
include hI
theorem Xhq (t : RTerm) {ob : Objs} {K : V → Prop} (h : K (.d (.bool (Sx.termOK t)))) : PCall P 163 [.d t.enc] ob K := by
 refine pcall_lift hP mixed (ds := [t.enc]) Yh5 Yld (TOk.cons (Xym hP) TOk.nil) ?_
 obtain ⟨nm, pa, va, fi, n⟩ := t
 cases nm with
 | nil =>
  cases pa with
  | nil =>
   cases h3 : inB 0 1048576 n with
   | true =>
    simp [X1c, RTerm.enc, hI.anyN, h3]
    simpa [Sx.termOK, h3] using h
   | false =>
    simp [X1c, RTerm.enc, hI.anyN, h3]
    refine Xcn hP ⟨[], [], va, fi, n⟩ ?_
    simp
    simpa [Sx.termOK, h3] using h
  | cons a r =>
   simp [X1c, RTerm.enc, hI.anyN]
   refine Xcn hP ⟨[], a :: r, va, fi, n⟩ ?_
   simp
   simpa [Sx.termOK] using h
 | cons a r =>
  simp [X1c, RTerm.enc, hI.anyN]
  refine Xcn hP ⟨a :: r, pa, va, fi, n⟩ ?_
  simp
  simpa [Sx.termOK] using h
theorem X2f (u : RUnit) {ob : Objs} {K : V → Prop} (h : K (.d (.bool (Sx.unitOK u)))) : PCall P 102 [.d u.enc] ob K := by
 refine pcall_lift hP mixed (ds := [u.enc]) Yk2 Yih (TOk.cons (c_Name hP) (TOk.cons (Xym hP) TOk.nil)) ?_
 by_cases h1 : u.of_ = []
 ·simp [Yf2, RUnit.enc, hI.factors, h1]
  simpa [Sx.unitOK, h1] using h
 ·cases h2 : nameB u.name <;> cases h3 : nameB u.of_ <;> simp [Yf2, RUnit.enc, hI.factors, h1, h2, h3] <;> simpa [Sx.unitOK, h1, h2, h3] using h
theorem X2p (t : RType) (hn : t.names.length ≤ 9223372036854775807) {ob : Objs} {K : V → Prop} (h : K (.d (.bool (Sx.typeOK t)))) : PCall P 180 [.d t.enc] ob K := by
 refine pcall_lift hP mixed (ds := [t.enc]) Yhi Yia (TOk.cons (c_Name hP) (TOk.cons (Xym hP) TOk.nil)) ?_
 obtain ⟨kd, lo, hi, of_, un, ns⟩ := t
 by_cases h1 : kd = 1
 ·cases h2 : inB 0 1048576 lo <;> cases of_ <;> cases ns <;> simp [Xiy, RType.enc, hI.anyN, Xh, h1, h2] <;> exact Kb h (by simp [Sx.typeOK, h1, h2, Xhx])
 ·by_cases h2 : lo = 0
  ·cases of_ with
   | nil =>
    by_cases k2 : kd = 2
    ·cases ns <;> simp [Xiy, RType.enc, hI.anyN, Xh, h1, h2, k2] <;> exact Kb h (by simp [Sx.typeOK, h1, h2, k2, Xhx])
    by_cases k3 : kd = 3
    ·cases ns <;> simp [Xiy, RType.enc, hI.anyN, Xh, h1, h2, k2, k3] <;> exact Kb h (by simp [Sx.typeOK, h1, h2, k2, k3, Xhx])
    by_cases k4 : kd = 4
    ·cases ns with
     | nil =>
      simp [Xiy, RType.enc, hI.anyN, Xh, h1, h2, k2, k3, k4]
      simpa [Sx.typeOK, h1, h2, k2, k3, k4] using h
     | cons a r =>
      simp [Xiy, RType.enc, hI.anyN, Xh, h1, h2, k2, k3, k4]
      refine Xmh hP (a :: r) 16 100 [] nameB (by rw [hP]; kernel_rfl) (fun x _ ob K h => (X04 hP x h).acall) hn ?_
      have hw : IntKind.i64.wrap (r.length : Int) = (r.length : Int) := IntWalk.i64_in _ (by simp at hn; omega)
      cases hA : Y1 16 nameB (a :: r) <;> simp [hw] <;> exact Kb h (by simp [Sx.typeOK, h1, h2, k2, k3, k4, hA, hw])
    ·simp [Xiy, X3e, RType.enc, hI.anyN, Xh, h1, h2, k2, k3, k4]
     simpa [Sx.typeOK, h1, h2, k2, k3, k4] using h
   | cons a r =>
    simp [Xiy, RType.enc, hI.anyN, Xh, h1, h2]
    simpa [Sx.typeOK, h1, h2] using h
  ·simp [Xiy, RType.enc, hI.anyN, Xh, h1, h2]
   simpa [Sx.typeOK, h1, h2] using h
theorem X83 (x : RRef) {ob : Objs} {K : V → Prop} (h : K (.d (.bool (Sx.mayOK x)))) : PCall P 169 [.d x.enc] ob K := by
 refine pcall_lift hP mixed (ds := [x.enc]) Yjv Yka (TOk.cons (c_Name hP) TOk.nil) ?_
 simp [Yko, RRef.enc]
 simpa [Sx.mayOK] using h
theorem X2t (x : RMove) {ob : Objs} {K : V → Prop} (h : K (.d (.bool (Sx.moveOK x)))) : PCall P 167 [.d x.enc] ob K := by
 refine pcall_lift hP mixed (ds := [x.enc]) Yiw Yib (TOk.cons (c_Name hP) TOk.nil) ?_
 simp [Yji, RMove.enc]
 exact Kb h (by simp [Sx.moveOK, inB, and_assoc])
theorem X77 (x : RSet) {ob : Objs} {K : V → Prop} (h : K (.d (.bool (Sx.setOK x)))) : PCall P 165 [.d x.enc] ob K := by
 refine pcall_lift hP mixed (ds := [x.enc]) Yh4 Yid (TOk.cons (c_Name hP) TOk.nil) ?_
 cases h1 : nameB x.path with
 | false =>
  simp [Ydd, RSet.enc, RTerm.enc, h1]
  simpa [Sx.setOK, h1] using h
 | true =>
  simp [Ydd, RSet.enc, RTerm.enc, h1]
  refine Xhq hP hI x.term ?_
  simp
  simpa [Sx.setOK, h1] using h
theorem X2o (x : RAtom) {ob : Objs} {K : V → Prop} (h : K (.d (.bool (Sx.atomOK x)))) : PCall P 162 [.d x.enc] ob K := by
 refine pcall_lift hP mixed (ds := [x.enc]) Yla Ykr TOk.nil ?_
 by_cases h1 : 1 ≤ x.op ∧ x.op ≤ 4
 ·simp [X8h, RAtom.enc, RTerm.enc, h1]
  refine Xhq hP hI x.a ?_
  cases h2 : termOK x.a with
  | false =>
   simp
   simpa [Sx.atomOK, h2] using h
  | true =>
   simp [h1]
   refine Xhq hP hI x.b ?_
   simp
   exact Kb h (by simp [Sx.atomOK, h1, h2, inB])
 ·have h2 : inB 1 4 x.op = false := by simpa [inB] using h1
  have hf : Sx.atomOK x = false := by simp [Sx.atomOK, h2]
  rw [hf] at h
  by_cases h3 : 1 ≤ x.op
  ·have h4 : ¬ x.op ≤ 4 := fun h4 => h1 ⟨h3, h4⟩
   simp [X8h, RAtom.enc, RTerm.enc, h3, h4]
   simpa using h
  ·simp [X8h, RAtom.enc, RTerm.enc, h3]
   simpa using h
theorem X2i (x : RFrom) {ob : Objs} {K : V → Prop} (h : K (.d (.bool (Sx.fromOK x)))) : PCall P 159 [.d x.enc] ob K := by
 refine pcall_lift hP mixed (ds := [x.enc]) Yi9 Yjp (TOk.cons (c_Name hP) TOk.nil) ?_
 obtain ⟨nm, kd, sc, ⟨a, b, v, f, n⟩⟩ := x
 have key : ∀ {ob : Objs} {K : V → Prop}, K (.d (.bool (Sx.pathOK ⟨a, b, v, f, n⟩))) → PCall P 160 [.d (.agg [.str a, .str b, iD v, iD f, iD n])] ob K := fun h => Xcn hP ⟨a, b, v, f, n⟩ h
 cases h1 : nameB nm with
 | false =>
  cases a <;> cases b <;> simp [Xrm, RFrom.enc, RTerm.enc, h1] <;> simpa [Sx.fromOK, h1] using h
 | true =>
  cases h2 : nameB kd with
  | false =>
   cases a <;> cases b <;> simp [Xrm, RFrom.enc, RTerm.enc, h1, h2] <;> simpa [Sx.fromOK, h1, h2] using h
  | true =>
   cases a with
   | nil =>
    cases b with
    | nil =>
     by_cases h3 : n = 0
     ·simp [Xrm, RFrom.enc, RTerm.enc, h1, h2, h3]
      simpa [Sx.fromOK, h1, h2, h3] using h
     ·have h3' : (n == 0) = false := by simpa using h3
      simp [Xrm, RFrom.enc, RTerm.enc, h1, h2, h3']
      refine key ?_
      simp
      simpa [Sx.fromOK, h1, h2, h3'] using h
    | cons b0 br =>
     simp [Xrm, RFrom.enc, RTerm.enc, h1, h2]
     refine key ?_
     simp
     simpa [Sx.fromOK, h1, h2] using h
   | cons a0 ar =>
    simp [Xrm, RFrom.enc, RTerm.enc, h1, h2]
    refine key ?_
    simp
    simpa [Sx.fromOK, h1, h2] using h
theorem Xsl (x : RDepend) (hn : x.names.length ≤ 9223372036854775807) {ob : Objs} {K : V → Prop} (h : K (.d (.bool (Sx.dependOK x)))) : PCall P 157 [.d x.enc] ob K := by
 refine pcall_lift hP mixed (ds := [x.enc]) Yh2 Yie (TOk.cons (c_Name hP) TOk.nil) ?_
 obtain ⟨ns, nm, fr, to⟩ := x
 cases ns with
 | nil =>
  simp [Yds, RDepend.enc, Xh]
  simpa [Sx.dependOK] using h
 | cons a r =>
  simp [Yds, RDepend.enc, Xh]
  refine Xmh hP (a :: r) 11 100 [] nameB (by rw [hP]; kernel_rfl) (fun x _ ob K h => (X04 hP x h).acall) hn ?_
  cases hA : Y1 11 nameB (a :: r) <;> simp <;> exact Kb h (by simp [Sx.dependOK, hA])
theorem Xoc (x : RConvert) (hn : x.moves.length ≤ 9223372036854775807) {ob : Objs} {K : V → Prop} (h : K (.d (.bool (Sx.convertOK x)))) : PCall P 108 [.d x.enc] ob K := by
 refine pcall_lift hP mixed (ds := [x.enc]) Ylq Yh1 (TOk.cons (c_Name hP) TOk.nil) ?_
 cases h1 : nameB x.from_ with
 | false =>
  simp [X7l, RConvert.enc, h1]
  simpa [Sx.convertOK, h1] using h
 | true =>
  cases h2 : nameB x.to_ with
  | false =>
   simp [X7l, RConvert.enc, h1, h2]
   simpa [Sx.convertOK, h1, h2] using h
  | true =>
   simp [X7l, RConvert.enc, h1, h2]
   refine Xsn hP x.moves 11 167 [] Sx.moveOK (by rw [hP]; kernel_rfl) (fun x _ ob K h => (X2t hP hI x h).acall) hn ?_
   simp
   simpa [Sx.convertOK, h1, h2] using h
theorem Xnl (x : RPurpose) (hn : x.may.length ≤ 9223372036854775807) {ob : Objs} {K : V → Prop} (h : K (.d (.bool (Sx.purposeOK x)))) : PCall P 110 [.d x.enc] ob K := by
 refine pcall_lift hP mixed (ds := [x.enc]) Yle Yjt (TOk.cons (c_Name hP) (TOk.cons (Xym hP) TOk.nil)) ?_
 cases h1 : nameB x.name with
 | false =>
  simp [X78, RPurpose.enc, h1, hI.mosts]
  simpa [Sx.purposeOK, h1] using h
 | true =>
  cases h2 : inB 0 32 x.most with
  | false =>
   simp [X78, RPurpose.enc, h1, h2, hI.mosts]
   simpa [Sx.purposeOK, h1, h2] using h
  | true =>
   simp [X78, RPurpose.enc, h1, h2, hI.mosts]
   refine Xyf hP x.may 32 169 [] Sx.mayOK (by rw [hP]; kernel_rfl) (fun x _ ob K h => (X83 hP hI x h).acall) hn ?_
   simp
   simpa [Sx.purposeOK, h1, h2] using h
theorem Xvl (x : RField) (hn : x.type.names.length ≤ 9223372036854775807) {ob : Objs} {K : V → Prop} (h : K (.d (.bool (Sx.fieldOK x)))) : PCall P 155 [.d x.enc] ob K := by
 refine pcall_lift hP mixed (ds := [x.enc]) Yh9 Yk1 (TOk.cons (c_Name hP) TOk.nil) ?_
 have key : ∀ {ob : Objs} {K : V → Prop}, K (.d (.bool (Sx.typeOK x.type))) → PCall P 180 [.d (.agg [iD x.type.kind, iD x.type.lo, iD x.type.hi, .str x.type.of_, iD x.type.unit, Xh x.type.names])] ob K := fun h => X2p hP hI x.type hn h
 simp [Yi7, RField.enc, RType.enc]
 refine X04 hP x.name ?_
 cases h1 : nameB x.name with
 | false =>
  simp
  simpa [Sx.fieldOK, h1] using h
 | true =>
  simp
  refine key ?_
  cases h2 : typeOK x.type with
  | false =>
   simp
   simpa [Sx.fieldOK, h1, h2] using h
  | true =>
   simp [hI.weights]
   refine Xtb hP [x.w0, x.w1, x.w2, x.w3] 4 134 [.agg [iD 0, iD 9]] (inB 0 9) (by rw [hP]; kernel_rfl) (fun n _ ob K h => (X9w hP 0 9 n h).acall) (by simp) ?_
   simp
   simpa [Sx.fieldOK, h1, h2] using h
theorem X03 (x : RRule) (hs : x.small) {ob : Objs} {K : V → Prop} (h : K (.d (.bool (Sx.ruleOK x)))) : PCall P 106 [.d x.enc] ob K := by
 refine pcall_lift hP mixed (ds := [x.enc]) Ybf Yhd (TOk.cons (c_Name hP) TOk.nil) ?_
 cases h1 : nameB x.head with
 | false =>
  simp [X8d, RRule.enc, h1]
  simpa [Sx.ruleOK, h1] using h
 | true =>
  by_cases h0 : 0 < x.froms.length
  ·simp [X8d, RRule.enc, h1, h0]
   refine Xr0 hP x.froms 3 159 [] Sx.fromOK (by rw [hP]; kernel_rfl) (fun x _ ob K h => (X2i hP hI x h).acall) hs.froms ?_
   cases h2 : Y1 3 Sx.fromOK x.froms with
   | false =>
    simp
    simpa [Sx.ruleOK, h1, h2] using h
   | true =>
    simp
    refine Xr5 hP x.wheres 8 162 [] Sx.atomOK (by rw [hP]; kernel_rfl) (fun x _ ob K h => (X2o hP hI x h).acall) hs.wheres ?_
    cases h3 : Y1 8 Sx.atomOK x.wheres with
    | false =>
     simp
     simpa [Sx.ruleOK, h1, h2, h3] using h
    | true =>
     simp
     refine Xtj hP x.sets 11 165 [] Sx.setOK (by rw [hP]; kernel_rfl) (fun x _ ob K h => (X77 hP hI x h).acall) hs.sets ?_
     simp
     simpa [Sx.ruleOK, h1, h2, h3, h0] using h
  ·simp [X8d, RRule.enc, h1, h0]
   simpa [Sx.ruleOK, h1, h0] using h
theorem Xrn (x : RSchema) (hs : x.small) {ob : Objs} {K : V → Prop} (h : K (.d (.bool (Sx.schemaOK x)))) : PCall P 104 [.d x.enc] ob K := by
 refine pcall_lift hP mixed (ds := [x.enc]) Yku Yjd (TOk.cons (c_Name hP) (TOk.cons (Xym hP) TOk.nil)) ?_
 obtain ⟨nm, bn, iss, ver, fs, ds⟩ := x
 cases h1 : nameB nm with
 | false =>
  simp [Xlh, RSchema.enc, h1, hI.editions]
  simpa [Sx.schemaOK, h1] using h
 | true =>
 cases h2 : nameB bn with
 | false =>
  simp [Xlh, RSchema.enc, h1, h2, hI.editions]
  simpa [Sx.schemaOK, h1, h2] using h
 | true =>
 cases h3 : inB 1 255 ver with
 | false =>
  simp [Xlh, RSchema.enc, h1, h2, h3, hI.editions]
  simpa [Sx.schemaOK, h1, h2, h3] using h
 | true =>
 cases fs with
 | nil =>
  simp [Xlh, RSchema.enc, h1, h2, h3, hI.editions]
  simpa [Sx.schemaOK, h1, h2, h3, Xeb] using h
 | cons f0 fr =>
 obtain ⟨fnm, ⟨kd, tlo, thi, tof, tun, tns⟩, w0, w1, w2, w3⟩ := f0
 by_cases h4 : fnm = [115, 101, 108, 102]
 ·subst h4
  by_cases h5 : kd = 3
  ·subst h5
   simp [Xlh, RSchema.enc, h1, h2, h3, hI.editions, RField.enc, RType.enc]
   refine Xox hP (⟨[115, 101, 108, 102], ⟨3, tlo, thi, tof, tun, tns⟩, w0, w1, w2, w3⟩ :: fr) 12 155 [] Sx.fieldOK (by rw [hP]; kernel_rfl) (fun x hx ob K h => (Xvl hP hI x (hs.names x hx) h).acall) hs.fields ?_
   cases h6 : Y1 12 Sx.fieldOK (⟨[115, 101, 108, 102], ⟨3, tlo, thi, tof, tun, tns⟩, w0, w1, w2, w3⟩ :: fr) with
   | false =>
    simp
    simpa [Sx.schemaOK, h1, h2, h3, h6] using h
   | true =>
    simp
    refine Xjr hP ds 8 157 [] Sx.dependOK (by rw [hP]; kernel_rfl) (fun x hx ob K h => (Xsl hP hI x (hs.deps x hx).names h).acall) hs.depends ?_
    simp
    simpa [Sx.schemaOK, h1, h2, h3, h6, Xeb] using h
  ·have h5' : (kd == 3) = false := by simpa using h5
   simp [Xlh, RSchema.enc, h1, h2, h3, hI.editions, h5, h5', RField.enc, RType.enc]
   simpa [Sx.schemaOK, h1, h2, h3, h5', Xeb] using h
 ·have h4' : (fnm == [115, 101, 108, 102]) = false := by simpa using h4
  simp [Xlh, RSchema.enc, h1, h2, h3, hI.editions, h4, h4', RField.enc, RType.enc]
  simpa [Sx.schemaOK, h1, h2, h3, h4', Xeb] using h
theorem Xkf (x : RSrc) (hs : x.small) {ob : Objs} {K : V → Prop} (h : K (.d (.bool (Sx.printable x)))) : PCall P 33 [.d x.enc] ob K := by
 refine pcall_lift hP mixed (ds := [x.enc]) Yph Yv3 TOk.nil ?_
 simp [Yt0, RSrc.enc, Xh]
 refine Xmh hP x.issuers 8 100 [] nameB (by rw [hP]; kernel_rfl) (fun x _ ob K h => (X04 hP x h).acall) hs.issuers ?_
 cases h1 : Y1 8 nameB x.issuers with
 | false =>
  simp
  simpa [Sx.printable, h1] using h
 | true =>
 simp
 refine Xr9 hP x.units 16 102 [] Sx.unitOK (by rw [hP]; kernel_rfl) (fun x _ ob K h => (X2f hP hI x h).acall) hs.units ?_
 cases h2 : Y1 16 Sx.unitOK x.units with
 | false =>
  simp
  simpa [Sx.printable, h1, h2] using h
 | true =>
 simp
 refine Xjw hP x.schemas 16 104 [] Sx.schemaOK (by rw [hP]; kernel_rfl) (fun x hx ob K h => (Xrn hP hI x (hs.schema x hx) h).acall) hs.schemas ?_
 cases h3 : Y1 16 Sx.schemaOK x.schemas with
 | false =>
  simp
  simpa [Sx.printable, h1, h2, h3] using h
 | true =>
 simp
 refine Xrg hP x.rules 16 106 [] Sx.ruleOK (by rw [hP]; kernel_rfl) (fun x hx ob K h => (X03 hP hI x (hs.rule x hx) h).acall) hs.rules ?_
 cases h4 : Y1 16 Sx.ruleOK x.rules with
 | false =>
  simp
  simpa [Sx.printable, h1, h2, h3, h4] using h
 | true =>
 simp
 refine Xgt hP x.converts 16 108 [] Sx.convertOK (by rw [hP]; kernel_rfl) (fun x hx ob K h => (Xoc hP hI x (hs.moves x hx) h).acall) hs.converts ?_
 cases h5 : Y1 16 Sx.convertOK x.converts with
 | false =>
  simp
  simpa [Sx.printable, h1, h2, h3, h4, h5] using h
 | true =>
 simp
 refine Xhv hP x.purposes 8 110 [] Sx.purposeOK (by rw [hP]; kernel_rfl) (fun x hx ob K h => (Xnl hP hI x (hs.may x hx) h).acall) hs.purposes ?_
 simp
 simpa [Sx.printable, h1, h2, h3, h4, h5] using h
end
end Go.Proofs.YtanpgmgkmfckaaaGreatDoor
/- The abstract statements that stand for the code of these functions, written by a program from the translation; that they do is checked by the kernel. No condition. -/
namespace Go.Proofs.YtanpgmgkmfckaaaGreatDoor
open Go Go.Ab
set_option maxRecDepth 100000
def Xy2 : Nat := 0x400b9079039cf8cb8c78404212e6c0f97820ed0b9b004f9842000
def Xn5 : Nat := 0x402800b9079039cf8cb8c78404210e6c1b9b0288d3f9b043b9b032f9b022b9b011f9b00146186186140052ef006fbb82cde6c24b339b00041481042bb006fbb82c9e6c24b239b00041480002641343bede0b107e5e3000000b9079039cf8cb8c78490109179b121140030000c0002002100173e13b84e6c044042e6c039b0418400008d1423070c3e6c102003e42e41e40e73e32e31e10109079b02e6c344e61040002
def Xoj : Nat := 0x1033e32e31e0411ae6c4f9b0288d679b03639b025f9b01539b0010618618400149d06fbb82fbc01beee0b5b9b032d5e6c0010500820944cf344bede0b114e5e240000282e41e40e73e32e31e1010818c1400b9079039cf8cb8c784042000ed000e6c13fe2c001050041039804000082
def Xxn : Nat := 0x1033e32e31e0411ce6cd387820edcf8b00779842000
def Xku : Nat := 0x41280280cf8cb8c7840417de2cdf8b0288df38b02ef8b01e38b000c61860c00526c1beee0beb8b092f9e2c0010500000854cf4125501efb782c4e38788000080cf8cb8c78404176e2c4035000c00c008300583846ed78b010c1cf8b31e2c0c61000022c508a1c3d38b04080d38cf8cb8c78105cb8b33e2c375e21040002
def Xs0 : Nat := 0x40a389f89b810116fe2ca787820eda38b00c38842000
def Xma : Nat := 0x100a028e27e26e04045b78b2ce2c0a534e045044b78783000028e27e26e0e1011abe2c3855030030000c000200214015ce0fbaae2c045068e2c9b8b051840000891422070e9e2c102029e28e27e26e040469f8b28e2c36ae21040002
def Xs8 : Nat := 0x407787386f8101164e2c7b87820ed778b00978842000
def Xni : Nat := 0x100a01de1ce1be040458b8b21e2c0a434c0450448b878300001de1ce1be0c1011a0e2c3055030c3003000085005c8db9fe2c04505de2c6f8b051840000871421870dee2c10201ee1de1ce1be04046738b1de2c35fe21040002
def Xvc : Nat := 0x404b8478438101159e2c4f87820ed4b8b006b8842000
def Xfu : Nat := 0x402804b8478438101157e2c5b8b028cd281181117e1e0c00004b8478438284046578b0a1940c30030000c0002002180157e0bb94e2c046052e2c438b061840000851421070d3e2c102013e12e11e10e04046478b12e2c354e21040002
def Xpl : Nat := 0x40aa9a040453b8b2b7820eda803f8842000
def Xp3 : Nat := 0x102aa6810114ce2c2b8b0288d2f8b00046040052ef006fbb82c42f8784000
def Xf2 : Nat := 0x100a0c0aa9a04045238b00e2c0a2347e2c084e2c041e2c003186183001486e2c24b178b000412010420f8b032c2e2c0010480820bdc01beee0b100280037b04037aa9a081011c0bf6b0c0f5b00041201076803000082
def Xhs : Nat := 0x41280280aa9a081011b3b2eb0288dcac06fb000861820014b1b092f0b0004120000250939512fb782c4bde1c000202aa68204046b6c2055000c00030000c0002002140152e09bacb01141aa81461000020c50821c3ac4080aeaa681011a9a8db21040002
def Xp6 : Nat := 0x101b69910116671e083b5b027842000
def Xgz : Nat := 0x100a01b6991011647c288d8c28818000c61860c0052ef006fbb82e124b1804855534c91afb782c481e1c00006da64610119e1de7400416d90460c00020450801c370408071b69910119a6cd761040002
def Yi8 : Nat := 0x480030828f9b008b9b03781879b07021e6c1e0e6c06639fe6c00105ee6c00009de6c1447b97890000852b3e32e31e04106285033e32e31e041000ed031e2c130e2c001041145c7880400008210aa389f89b8101146205028e27e26e04045003b409b8b04978b00041044126e2010000208329de1ce1be040451861407787386f81011400ed01be2c11ae2c0010410c36f880400008208a4b8478438101146105012e11e10e04045003b40438b043f8b00041042090e201000020812aaa6810114608502aa681011400ed028127001041041a2010000208029b69910114600501b6991011400ed0191180010410006601000020801010800575c4b1017b5abe110030405e80c00020c800308243a0ed000bc378200009510054109425306138104651f0c0002080041003b4002f0007910c0002
def Yc2 : S := zS [(zS [(zS [] Xp6)] Xgz), (zS [(zS [(zS [] Xp3)] Xf2), (zS [] Xpl)] Xhs), (zS [(zS [] Xvc)] Xfu), (zS [(zS [] Xs8)] Xni), (zS [(zS [] Xs0)] Xma), (zS [(zS [(zS [(zS [] Xy2)] Xn5)] Xoj), (zS [] Xxn)] Xku)] Yi8
theorem Yjw : X0 Tryz.prog 13 1 Yc2 [.t 2, .t 3] = true := by kernel_rfl
end Go.Proofs.YtanpgmgkmfckaaaGreatDoor
/- The same statements with their regions folded into expressions, printed by the fold itself; that they are that is checked by the kernel. No condition. -/
namespace Go.Proofs.YtanpgmgkmfckaaaGreatDoor
open Go Go.Ab
set_option maxRecDepth 100000
def Xgu : S2 := zL [] [] Xy2
def X1k := by
 have h := Eq.refl Xgu
 conv at h => rhs; cbv
 exact h
def Xho : S2 := zL [] [Xgu] Xn5
def Xpk := by
 have h := fun (a : S2) => Eq.refl (zL [] [a] Xn5)
 conv at h => intro a; rhs; cbv
 have e : Xho = _ := h Xgu
 exact e
def Xgs : S2 := zL [] [Xho] Xoj
def X23 := by
 have h := fun (a : S2) => Eq.refl (zL [] [a] Xoj)
 conv at h => intro a; rhs; cbv
 have e : Xgs = _ := h Xho
 exact e
def Xfx : S2 := zL [] [] Xxn
def X1l := by
 have h := Eq.refl Xfx
 conv at h => rhs; cbv
 exact h
def Xgn : S2 := zL [] [Xgs, Xfx] Xku
def Xo8 := by
 have h := fun (a b : S2) => Eq.refl (zL [] [a, b] Xku)
 conv at h => intro a b; rhs; cbv
 have e : Xgn = _ := h Xgs Xfx
 exact e
def Xgo : S2 := zL [] [] Xs0
def X2n := by
 have h := Eq.refl Xgo
 conv at h => rhs; cbv
 exact h
def Xf6 : S2 := zL [] [Xgo] Xma
def Xpt := by
 have h := fun (a : S2) => Eq.refl (zL [] [a] Xma)
 conv at h => intro a; rhs; cbv
 have e : Xf6 = _ := h Xgo
 exact e
def Xfq : S2 := zL [] [] Xs8
def X1a := by
 have h := Eq.refl Xfq
 conv at h => rhs; cbv
 exact h
def Xfo : S2 := zL [] [Xfq] Xni
def Xp8 := by
 have h := fun (a : S2) => Eq.refl (zL [] [a] Xni)
 conv at h => intro a; rhs; cbv
 have e : Xfo = _ := h Xfq
 exact e
def Xfz : S2 := zL [] [] Xvc
def X27 := by
 have h := Eq.refl Xfz
 conv at h => rhs; cbv
 exact h
def Xcp : S2 := zL [] [Xfz] Xfu
def Xh6 := by
 have h := fun (a : S2) => Eq.refl (zL [] [a] Xfu)
 conv at h => intro a; rhs; cbv
 have e : Xcp = _ := h Xfz
 exact e
def Xcz : S2 := zL [] [] Xpl
def Xjq := by
 have h := Eq.refl Xcz
 conv at h => rhs; cbv
 exact h
def Xd4 : S2 := zL [] [] Xp3
def Xh8 := by
 have h := Eq.refl Xd4
 conv at h => rhs; cbv
 exact h
def Xdg : S2 := zL [] [Xd4] Xf2
def Xvm := by
 have h := fun (a : S2) => Eq.refl (zL [] [a] Xf2)
 conv at h => intro a; rhs; cbv
 have e : Xdg = _ := h Xd4
 exact e
def Xdm : S2 := zL [] [Xdg, Xcz] Xhs
def Xik := by
 have h := fun (a b : S2) => Eq.refl (zL [] [a, b] Xhs)
 conv at h => intro a b; rhs; cbv
 have e : Xdm = _ := h Xdg Xcz
 exact e
def Xdu : S2 := zL [] [] Xp6
def Xxi := by
 have h := Eq.refl Xdu
 conv at h => rhs; cbv
 exact h
def Xds : S2 := zL [] [Xdu] Xgz
def Xi3 := by
 have h := fun (a : S2) => Eq.refl (zL [] [a] Xgz)
 conv at h => intro a; rhs; cbv
 have e : Xds = _ := h Xdu
 exact e
def Ydo : S2 := zL [] [Xds, Xdm, Xcp, Xfo, Xf6, Xgn] Yi8
def Ykk := by
 have h := fun (a b c d e f : S2) => Eq.refl (zL [] [a, b, c, d, e, f] Yi8)
 conv at h => intro a b c d e f; rhs; cbv
 have e : Ydo = _ := h Xds Xdm Xcp Xfo Xf6 Xgn
 exact e
theorem Yi1 : Yc2.lift [] = some Ydo := by kernel_rfl
end Go.Proofs.YtanpgmgkmfckaaaGreatDoor
/- Contract: Print. Condition: the program is the seat's; its package variables are laid. -/
namespace Go.Sx
open Go Go.Ab Go.Lx
def Xev (x : RSrc) : V := if printable x then Xd5 (Xb5 x) else .tup [.d (.str []), .d (.int .i64 100)]
structure Pb (x : RSrc) : Prop where
 issuers : x.issuers.length ≤ 8
 units : x.units.length ≤ 16
 schemas : x.schemas.length ≤ 16
 rules : x.rules.length ≤ 16
 converts : x.converts.length ≤ 16
 purposes : x.purposes.length ≤ 8
 schema : ∀ s ∈ x.schemas, s.fields ≠ [] ∧ s.fields.length ≤ 12 ∧ (∀ f ∈ s.fields, f.type.names.length ≤ 16) ∧ s.depends.length ≤ 8 ∧ ∀ d ∈ s.depends, d.names.length ≤ 11
 rule : ∀ r ∈ x.rules, r.froms.length ≤ 3 ∧ r.wheres.length ≤ 8 ∧ r.sets.length ≤ 11
 convert : ∀ c ∈ x.converts, c.moves.length ≤ 11 ∧ ∀ m ∈ c.moves, -1048576 ≤ m.shift ∧ m.shift ≤ 1048576
 purpose : ∀ p ∈ x.purposes, p.may.length ≤ 32
theorem Xis {t : RType} (h : typeOK t = true) : t.names.length ≤ 16 := by
 unfold typeOK at h
 split at h
 ·simp at h; simp [h]
 split at h
 ·cases h
 split at h
 ·simp at h; simp [h]
 split at h
 ·simp at h; simp [h]
 split at h
 ·simp [Y1] at h; omega
 ·cases h
theorem Yjj {x : RSrc} (h : printable x = true) : Pb x := by
 simp only [printable, Bool.and_eq_true] at h
 obtain ⟨⟨⟨⟨⟨h1, h2⟩, h3⟩, h4⟩, h5⟩, h6⟩ := h
 rw [Wu] at h1 h2 h3 h4 h5 h6
 refine ⟨h1.1, h2.1, h3.1, h4.1, h5.1, h6.1, fun s hs => ?_, fun r hr => ?_, fun c hc => ?_, fun p hp => ?_⟩
 ·have := h3.2 s hs
  simp only [schemaOK, Bool.and_eq_true] at this
  obtain ⟨⟨⟨_, a1⟩, a2⟩, a3⟩ := this
  rw [Wu] at a2 a3
  refine ⟨fun e => (by rw [e] at a1; cases a1), a2.1, fun f hf => ?_, a3.1, fun d hd => ?_⟩
  ·have := a2.2 f hf
   simp only [fieldOK, Bool.and_eq_true] at this
   exact Xis this.1.2
  ·have := a3.2 d hd
   simp only [dependOK, Bool.and_eq_true, Wu] at this
   exact this.1.2.1
 ·have := h4.2 r hr
  simp only [ruleOK, Bool.and_eq_true, Wu] at this
  exact ⟨this.1.1.2.1, this.1.2.1, this.2.1⟩
 ·have := h5.2 c hc
  simp only [convertOK, Bool.and_eq_true, Wu] at this
  refine ⟨this.2.1, fun m hm => ?_⟩
  have := this.2.2 m hm
  simp [moveOK, inB] at this
  exact this.2
 ·have := h6.2 p hp
  simp only [purposeOK, Bool.and_eq_true, Wu] at this
  exact this.2.1
theorem Xd1 (s : B) : (Yg s).length ≤ 3 := by simp [Yg]
theorem Xiz (u : RUnit) : (Z0 u).length ≤ 6 := by unfold Z0; split <;> simp
theorem Xdo {s : RSchema} (h : s.fields.length ≤ 12 ∧ (∀ f ∈ s.fields, f.type.names.length ≤ 16) ∧ s.depends.length ≤ 8 ∧ ∀ d ∈ s.depends, d.names.length ≤ 11) : (Yb s).length ≤ 1000 := by
 obtain ⟨h1, h2, h3, h4⟩ := h
 have l1 := X3 (f := fieldT) (c := 50) (l := s.fields.tail) (fun x hx => Xa5 (h2 x (List.mem_of_mem_tail hx)))
 have l2 := X3 (f := Yw) (c := 30) (l := s.depends) (fun x hx => Q9 (h4 x hx))
 have l3 : (Xq0 s.fields).length ≤ 4 := by cases s.fields <;> simp [Xq0]
 rw [List.length_tail] at l1
 simp only [Yb, List.length_append, List.length_cons, List.length_nil]
 omega
theorem Xjs {r : RRule} (h : r.froms.length ≤ 3 ∧ r.wheres.length ≤ 8 ∧ r.sets.length ≤ 11) : (W7 r).length ≤ 300 := by
 have l1 := X3 (f := Wj) (c := 10) (l := r.froms) (fun x _ => Xc1 x)
 have l2 := X3 (f := Yo) (c := 10) (l := r.wheres) (fun x _ => Xai x)
 have l3 := X3 (f := Xec) (c := 10) (l := r.sets) (fun x _ => Xhu x)
 simp only [W7, List.length_append, List.length_cons, List.length_nil]
 omega
theorem Xbf {c : RConvert} (h : c.moves.length ≤ 11) : (X4 c).length ≤ 200 := by
 have l1 := X3 (f := Wm) (c := 10) (l := c.moves) (fun x _ => Xed x)
 simp only [X4, List.length_append, List.length_cons, List.length_nil]
 omega
theorem Xf3 (r : RRef) : (Xke r).length ≤ 5 := by simp [Xke]
theorem Xbu {u : RPurpose} (h : u.may.length ≤ 32) : (Ya u).length ≤ 200 := by
 have l1 := X3 (f := Xke) (c := 5) (l := u.may) (fun x _ => Xf3 x)
 simp only [Ya, List.length_append, List.length_cons, List.length_nil]
 omega
end Go.Sx
namespace Go.Proofs.YtanpgmgkmfckaaaGreatDoor
open Go Go.Ab Go.Lx Go.Sx
set_option maxRecDepth 100000
set_option maxHeartbeats 4000000
section
variable {P : Prg} (hP : P.p = Tryz.prog) (hI : Ivl P) (hG : Pow P)
include hP hI hG
theorem X6p (x : RSrc) (hs : x.small) {ob : Objs} {K : V → Prop} (h : K (Xev x)) : PCall P 13 [.d x.enc] ob K := by
 refine pcall_lift hP mixed (ds := [x.enc]) Yjw Yi1 TOk.nil ?_
 simp [Ykk, RSrc.enc, Xh]
 refine Xkf hP hI x hs ?_
 cases hpr : printable x with
 | false =>
  simp
  simpa [Xev, hpr] using h
 | true =>
 have hB := Yjj hpr
 have hX : Pr [(2, .arr 44 4 []), (1, .box 99 (.agg [.sl 2 0])), (0, .box 30 (.d x.enc))] 1 2 [] := ⟨by decide, by simp, by simp⟩
 have hmX : ∀ kp, noMenO (young (fresh ([(2, .arr 44 4 []), (1, .box 99 (.agg [.sl 2 0])), (0, .box 30 (.d x.enc))] : Objs)) kp) [(2, .arr 44 4 []), (1, .box 99 (.agg [.sl 2 0])), (0, .box 30 (.d x.enc))] = true := fun kp => by simp [young]
 have l1 := X3 (f := Yg) (c := 3) (l := x.issuers) (fun y _ => Xd1 y)
 have l2 := X3 (f := Z0) (c := 6) (l := x.units) (fun y _ => Xiz y)
 have l3 := X3 (f := Yb) (c := 1000) (l := x.schemas) (fun y hy => Xdo (hB.schema y hy).2)
 have l4 := X3 (f := W7) (c := 300) (l := x.rules) (fun y hy => Xjs (hB.rule y hy))
 have l5 := X3 (f := X4) (c := 200) (l := x.converts) (fun y hy => Xbf (hB.convert y hy).1)
 have l6 := X3 (f := Ya) (c := 200) (l := x.purposes) (fun y hy => Xbu (hB.purpose y hy))
 have b1 := hB.issuers
 have b2 := hB.units
 have b3 := hB.schemas
 have b4 := hB.rules
 have b5 := hB.converts
 have b6 := hB.purposes
 have hall : (x.issuers.flatMap Yg).length + (x.units.flatMap Z0).length + (x.schemas.flatMap Yb).length + (x.rules.flatMap W7).length + (x.converts.flatMap X4).length + (x.purposes.flatMap Ya).length ≤ 26000 := by omega
 simp
 refine Yi x.issuers Yg 3 (fun y hy => Xd1 y) hX hmX (([] : List Tok)) (fun k => [(1, .ptr 0 []), (4, .ptr 1 []), (25, .d (.list 1 (x.issuers.map D.str))), (26, .d (.int .i64 x.issuers.length)), (27, .d (.int .i64 k))]) (by simp) (fun k => by simp [young]) (by simp [prO, RSrc.enc, Xh]) ?_ ?_
 ·intro k hk t1 R hb fin
  have hb' : t1.length ≤ 50000 := by simp at hb hall; omega
  have hi : IntKind.i64.wrap ((k : Int) + 1) = (k : Int) + 1 := IntWalk.i64_in _ (by omega)
  simp [Xi3, hk, Xh]
  refine Up hP [.word [105, 115, 115, 117, 101, 114], .name x.issuers[k], .sign [59]] (by simp [Part.rank]) _ 1 2 (t1) ⟨by decide, by simp [prO], by simp [prO]⟩ (by simp) (by simp [Part.few]) (by simp [Xb, Part.toks]; omega) _ ?_
  simp [prO, Xxi, hi]
  refine fin _ _ (by simp [hi]) ?_
  rw [show t1 ++ Yg x.issuers[k] = t1 ++ Xb [.word [105, 115, 115, 117, 101, 114], .name x.issuers[k], .sign [59]] from by simp [Yg, Xb, Part.toks]]
  simp [young, prO]
 ·intro R re
  simp [Xi3]
  refine re _ _ _ ?_
  clear re
  simp [RSrc.enc, Xh]
  refine Yi x.units Z0 6 (fun y hy => Xiz y) hX hmX (([] : List Tok) ++ x.issuers.flatMap Yg) (fun k => [(1, .ptr 0 []), (4, .ptr 1 []), (40, .d (.list 5 (x.units.map RUnit.enc))), (41, .d (.int .i64 x.units.length)), (42, .d (.int .i64 k))]) (by simp) (fun k => by simp [young]) (by simp [prO, RSrc.enc, Xh]) ?_ ?_
  ·intro k hk t1 R hb fin
   have hb' : t1.length ≤ 50000 := by simp at hb hall; omega
   have hi : IntKind.i64.wrap ((k : Int) + 1) = (k : Int) + 1 := IntWalk.i64_in _ (by omega)
   simp [Xik, hk, RUnit.enc]
   refine Up hP [.word [117, 110, 105, 116], .name x.units[k].name] (by simp [Part.rank]) _ 1 2 (t1) ⟨by decide, by simp [prO], by simp [prO]⟩ (by simp) (by simp [Part.few]) (by simp [Xb, Part.toks]; omega) _ ?_
   simp [prO, Xvm]
   refine ⟨fun h0 => ?_, fun h0 => ?_⟩
   ·skip
    refine Up hP [.sign [61], .num x.units[k].factor, .name x.units[k].of_] (by simp [Part.rank]) _ 1 2 (t1 ++ Xb [.word [117, 110, 105, 116], .name x.units[k].name]) ⟨by decide, by simp [prO], by simp [prO]⟩ (by simp) (by simp [Part.few]) (by simp [Xb, Part.toks]; omega) _ ?_
    simp [prO, Xh8]
    refine Up hP [.sign [59]] (by simp [Part.rank]) _ 1 2 (t1 ++ Xb [.word [117, 110, 105, 116], .name x.units[k].name] ++ Xb [.sign [61], .num x.units[k].factor, .name x.units[k].of_]) ⟨by decide, by simp [prO], by simp [prO]⟩ (by simp) (by simp [Part.few]) (by simp [Xb, Part.toks]; omega) _ ?_
    simp [prO, Xjq, hi]
    refine fin _ _ (by simp [hi]) ?_
    rw [show t1 ++ Z0 x.units[k] = t1 ++ Xb [.word [117, 110, 105, 116], .name x.units[k].name] ++ Xb [.sign [61], .num x.units[k].factor, .name x.units[k].of_] ++ Xb [.sign [59]] from by simp [Z0, Xb, Part.toks, h0]]
    simp [young, prO]
   ·simp [Xh8]
    refine Up hP [.sign [59]] (by simp [Part.rank]) _ 1 2 (t1 ++ Xb [.word [117, 110, 105, 116], .name x.units[k].name]) ⟨by decide, by simp [prO], by simp [prO]⟩ (by simp) (by simp [Part.few]) (by simp [Xb, Part.toks]; omega) _ ?_
    simp [prO, Xjq, hi]
    refine fin _ _ (by simp [hi]) ?_
    rw [show t1 ++ Z0 x.units[k] = t1 ++ Xb [.word [117, 110, 105, 116], .name x.units[k].name] ++ Xb [.sign [59]] from by simp [Z0, Xb, Part.toks, h0]]
    simp [young, prO]
  ·intro R re
   simp [Xik]
   refine re _ _ _ ?_
   clear re
   simp [RSrc.enc, Xh]
   refine Yi x.schemas Yb 1000 (fun y hy => Xdo (hB.schema y hy).2) hX hmX (([] : List Tok) ++ x.issuers.flatMap Yg ++ x.units.flatMap Z0) (fun k => [(1, .ptr 0 []), (4, .ptr 1 []), (72, .d (.list 6 (x.schemas.map RSchema.enc))), (73, .d (.int .i64 x.schemas.length)), (74, .d (.int .i64 k))]) (by simp) (fun k => by simp [young]) (by simp [prO, RSrc.enc, Xh]) ?_ ?_
   ·intro k hk t1 R hb fin
    have hb' : t1.length ≤ 50000 := by simp at hb hall; omega
    have hi : IntKind.i64.wrap ((k : Int) + 1) = (k : Int) + 1 := IntWalk.i64_in _ (by omega)
    simp [Xh6, hk, RSchema.enc]
    have hk3 := hB.schema x.schemas[k] (by simp)
    refine Xu1 hP x.schemas[k] hk3.1 hk3.2.1 hk3.2.2.1 hk3.2.2.2.1 hk3.2.2.2.2 (ts := t1) (p := 1) (q := 2) ⟨by decide, by simp [prO], by simp [prO]⟩ (by omega) ?_
    simp [X27, hi, prO]
    refine fin _ _ (by simp [hi]) ?_
    simp [young, prO]
   ·intro R re
    simp [Xh6]
    refine re _ _ _ ?_
    clear re
    simp [RSrc.enc, Xh]
    refine Yi x.rules W7 300 (fun y hy => Xjs (hB.rule y hy)) hX hmX (([] : List Tok) ++ x.issuers.flatMap Yg ++ x.units.flatMap Z0 ++ x.schemas.flatMap Yb) (fun k => [(1, .ptr 0 []), (4, .ptr 1 []), (83, .d (.list 5 (x.rules.map RRule.enc))), (84, .d (.int .i64 x.rules.length)), (85, .d (.int .i64 k))]) (by simp) (fun k => by simp [young]) (by simp [prO, RSrc.enc, Xh]) ?_ ?_
    ·intro k hk t1 R hb fin
     have hb' : t1.length ≤ 50000 := by simp at hb hall; omega
     have hi : IntKind.i64.wrap ((k : Int) + 1) = (k : Int) + 1 := IntWalk.i64_in _ (by omega)
     simp [Xp8, hk, RRule.enc]
     have hk3 := hB.rule x.rules[k] (by simp)
     refine X9k hP x.rules[k] hk3.1 hk3.2.1 hk3.2.2 (ts := t1) (p := 1) (q := 2) ⟨by decide, by simp [prO], by simp [prO]⟩ (by omega) ?_
     simp [X1a, hi, prO]
     refine fin _ _ (by simp [hi]) ?_
     simp [young, prO]
    ·intro R re
     simp [Xp8]
     refine re _ _ _ ?_
     clear re
     simp [RSrc.enc, Xh]
     refine Yi x.converts X4 200 (fun y hy => Xbf (hB.convert y hy).1) hX hmX (([] : List Tok) ++ x.issuers.flatMap Yg ++ x.units.flatMap Z0 ++ x.schemas.flatMap Yb ++ x.rules.flatMap W7) (fun k => [(1, .ptr 0 []), (4, .ptr 1 []), (94, .d (.list 5 (x.converts.map RConvert.enc))), (95, .d (.int .i64 x.converts.length)), (96, .d (.int .i64 k))]) (by simp) (fun k => by simp [young]) (by simp [prO, RSrc.enc, Xh]) ?_ ?_
     ·intro k hk t1 R hb fin
      have hb' : t1.length ≤ 50000 := by simp at hb hall; omega
      have hi : IntKind.i64.wrap ((k : Int) + 1) = (k : Int) + 1 := IntWalk.i64_in _ (by omega)
      simp [Xpt, hk, RConvert.enc]
      have hk3 := hB.convert x.converts[k] (by simp)
      refine Xsh hP x.converts[k] hk3.1 hk3.2 (ts := t1) (p := 1) (q := 2) ⟨by decide, by simp [prO], by simp [prO]⟩ (by omega) ?_
      simp [X2n, hi, prO]
      refine fin _ _ (by simp [hi]) ?_
      simp [young, prO]
     ·intro R re
      simp [Xpt]
      refine re _ _ _ ?_
      clear re
      simp [RSrc.enc, Xh]
      refine Yi x.purposes Ya 200 (fun y hy => Xbu (hB.purpose y hy)) hX hmX (([] : List Tok) ++ x.issuers.flatMap Yg ++ x.units.flatMap Z0 ++ x.schemas.flatMap Yb ++ x.rules.flatMap W7 ++ x.converts.flatMap X4) (fun k => [(4, .ptr 1 []), (105, .d (.list 3 (x.purposes.map RPurpose.enc))), (106, .d (.int .i64 x.purposes.length)), (107, .d (.int .i64 k))]) (by simp) (fun k => by simp [young]) (by simp [prO, RSrc.enc, Xh]) ?_ ?_
      ·intro k hk t1 R hb fin
       have hb' : t1.length ≤ 50000 := by simp at hb hall; omega
       have hi : IntKind.i64.wrap ((k : Int) + 1) = (k : Int) + 1 := IntWalk.i64_in _ (by omega)
       simp [Xo8, hk, RPurpose.enc]
       have hk3 := hB.purpose x.purposes[k] (by simp)
       refine Up hP [.word [112, 117, 114, 112, 111, 115, 101], .name x.purposes[k].name, .sign [123]] (by simp [Part.rank]) _ 1 2 (t1) ⟨by decide, by simp [prO], by simp [prO]⟩ (by simp) (by simp [Part.few]) (by simp [Xb, Part.toks]; omega) _ ?_
       simp [prO, X23]
       have hX1 : Pr ((3, Ob.box 88 (.d x.purposes[k].enc)) :: [(2, .arr 44 4 []), (1, .box 99 (.agg [.sl 2 0])), (0, .box 30 (.d x.enc))]) 1 2 [] := ⟨by decide, by simp, by simp⟩
       have hmX1 : ∀ kp, noMenO (young (fresh ((3, Ob.box 88 (.d x.purposes[k].enc)) :: [(2, .arr 44 4 []), (1, .box 99 (.agg [.sl 2 0])), (0, .box 30 (.d x.enc))] : Objs)) kp) ((3, Ob.box 88 (.d x.purposes[k].enc)) :: [(2, .arr 44 4 []), (1, .box 99 (.agg [.sl 2 0])), (0, .box 30 (.d x.enc))]) = true := fun kp => by simp [young]
       refine Yi x.purposes[k].may Xke 5 (fun y _ => Xf3 y) hX1 hmX1 (t1 ++ Xb [.word [112, 117, 114, 112, 111, 115, 101], .name x.purposes[k].name, .sign [123]]) (fun j => [(4, .ptr 1 []), (16, .ptr 3 []), (105, .d (.list 3 (x.purposes.map RPurpose.enc))), (106, .d (.int .i64 x.purposes.length)), (107, .d (.int .i64 k)), (120, .d (.list 4 (x.purposes[k].may.map RRef.enc))), (121, .d (.int .i64 x.purposes[k].may.length)), (122, .d (.int .i64 j))]) (by simp) (fun k => by simp [young]) (by simp [prO, RPurpose.enc]) ?_ ?_
       ·intro j hj t2 R2 hb2 fin2
        have hb2' : t2.length ≤ 60000 := by simp [Xb, Part.toks] at hb2; omega
        have hi2 : IntKind.i64.wrap ((j : Int) + 1) = (j : Int) + 1 := IntWalk.i64_in _ (by omega)
        simp [Xpk, hj, RRef.enc]
        refine Up hP [.word [109, 97, 121], .name x.purposes[k].may[j].name, .sign [46], .name x.purposes[k].may[j].path, .sign [59]] (by simp [Part.rank]) _ 1 2 (t2) ⟨by decide, by simp [prO], by simp [prO]⟩ (by simp) (by simp [Part.few]) (by simp [Xb, Part.toks]; omega) _ ?_
        simp [prO, X1k, hi2]
        refine fin2 _ _ (by simp [hi2]) ?_
        rw [show t2 ++ Xke x.purposes[k].may[j] = t2 ++ Xb [.word [109, 97, 121], .name x.purposes[k].may[j].name, .sign [46], .name x.purposes[k].may[j].path, .sign [59]] from by simp [Xke, Xb, Part.toks]]
        simp [young, prO]
       ·intro R2 re2
        simp [Xpk]
        refine re2 _ _ _ ?_
        clear re2
        simp [RPurpose.enc]
        have lm := X3 (f := Xke) (c := 5) (l := x.purposes[k].may) (fun y _ => Xf3 y)
        have lm2 : (t1 ++ Xb [.word [112, 117, 114, 112, 111, 115, 101], .name x.purposes[k].name, .sign [123]] ++ x.purposes[k].may.flatMap Xke).length ≤ 60000 := by simp [Xb, Part.toks] at lm ⊢; omega
        refine Up hP [.word [109, 111, 115, 116], .num x.purposes[k].most, .sign [59], .sign [125]] (by simp [Part.rank]) _ 1 2 (t1 ++ Xb [.word [112, 117, 114, 112, 111, 115, 101], .name x.purposes[k].name, .sign [123]] ++ x.purposes[k].may.flatMap Xke) ⟨by decide, by simp [prO], by simp [prO]⟩ (by simp) (by simp [Part.few]) (by rw [List.length_append]; simp [Xb, Part.toks] at lm2 ⊢; omega) _ ?_
        simp [prO, X1l, hi]
        refine fin _ _ (by simp [hi]) ?_
        rw [show t1 ++ Ya x.purposes[k] = t1 ++ Xb [.word [112, 117, 114, 112, 111, 115, 101], .name x.purposes[k].name, .sign [123]] ++ x.purposes[k].may.flatMap Xke ++ Xb [.word [109, 111, 115, 116], .num x.purposes[k].most, .sign [59], .sign [125]] from by simp [Ya, Xb, Part.toks]]
        simp [young, prO]
      ·intro R re
       simp [Xo8]
       refine re _ _ _ ?_
       clear re
       simp [RSrc.enc, Xh]
       have hsrc : ([] : List Tok) ++ x.issuers.flatMap Yg ++ x.units.flatMap Z0 ++ x.schemas.flatMap Yb ++ x.rules.flatMap W7 ++ x.converts.flatMap X4 ++ x.purposes.flatMap Ya = Xb5 x := by simp [Xb5]
       have hlen : (Xb5 x).length ≤ 100000 := by rw [← hsrc]; simp at hall ⊢; omega
       have hv : Xev x = Xd5 (Xb5 x) := by simp [Xev, hpr]
       rw [hv] at h
       refine PCall.borrow (n := 3) (ds := [.list 4 ((Xb5 x).map Tok.enc)]) (by simp [prO, Xb5]) (X3x hP hG (l := Xb5 x) (.inl rfl) hlen ?_)
       revert h
       unfold Xd5
       split
       ·intro h
        exact ⟨by simp [V.flatR, V.flat, D.flat], by simpa using h⟩
       ·intro h
        exact ⟨by simp [V.flatR, V.flat, D.flat], by simpa using h⟩
end
end Go.Proofs.YtanpgmgkmfckaaaGreatDoor
/- The abstract statements that stand for the code of these functions, written by a program from the translation; that they do is checked by the kernel. No condition. -/
namespace Go.Proofs.YtanpgmgkmfckaaaGreatDoor
open Go Go.Ab
set_option maxRecDepth 100000
def X5a : Nat := 0x4040f38d0c20477b9b117820ed779b000d07b97830000103ce3430811efe6cc39b0150f0410aee6c839b30133e0fb79b000400c0003000080084005040112b39b019b9b000800c000300008008400aaf9b00041ab9b01042a79b28e6c12be649f9b00069e5f979b00041939b000028f9b22e6c125e64879b00063e5f7f9b00061e5f42ae5e381068e60424e5e381062e603c1060e604d24503ce34c2c91c614304a2040804c034508c1c3739b0401ce503ce34308121be6c639b0d0dae6c119e6c00104e041090679785000082
def Xzs : Nat := 0x100d0c2044379b0e7820ed339b000cd37978300000d0c2044d79b36e6c0540c5142d39b32e6cc038383f3e6c0010030030020c014100348f0433ddc79b000410c5172e601c00002903ce3430811c63050103ce3430811c1044cf804f003b5174100008200f38d0c20465f9b0f0d40030030020c0160e10b96e6c094e6c0020030030020c0295e6c00104e082093e6c00104e00053980700008038d0c20454b9b0e0d40030030020c0160e0fb91e6c043050e6c3f9b0318d00ee6c0010411453f980700008b1422870cbe6c1002f934308114ae6c1f9b0d0c9e6c108e6c00104114508d239785000082
def X4g : Nat := 0x402ca2480c2047bf8b0c7820edbb8b000cbbf878300000b2892030811ffe2c039b0150a1040bee2cdb8b00e05e383fde2c0010030000c0003000080085005040152f38b04eb8b01e38b000c00c00030000c00020021402bbe2c00104c1040b9e2c00104c0410b7e2c00104c0000b5e2c00104a104db880d00000c2ca2480c2048d38b0c1540030000c0003000080085005e3836ecf8b01141cb8b31e2c1462c0c38b00041244131e201c00022450881c3b78b0402de0b28920308122ce2ca78b0d0ebe2c12ae2c00104910408bab8785000082
def Xt1 : Nat := 0x4020308111ee2c25e083b5de2c00321ee1e0c0000203081105e6c1b9b01503104084e6c0b9b10e057383c3e6c0010c00c000300008008500504015228114f741e6c0010431040b980700000a2ca2480c20471881402ca2480c2047101178e012800ed45d0400020802892030811a8e2c2855030030000c000200214015ce0bba7e2c065e2c0020c00c000300008008500a9b8b00041241042938b00041240025e201c0002009203081163e2c2455030030000c000200214015ce0aba2e2c045061e2c838b0518801fe2c0010411048388070000871421870dce2c10073820308115be2c638b0d0dae2c119e2c001041104088678785000082
def X5s : Nat := 0x401c308110ce2c21e083b4be2c0031cce1e0c00001c3081116e2c5f8b015030c3095e2c3b8b28e05c8f538b000430c30030000850050401524f8b01a0e4b8b01141478b10e2c153e243f8b00051e1f378b0004fe1f1d2e1e0430d0e200c30cee2030b2892071850c110200c0051421070cae2c1002b81c3081149e2c1b8b0d0c8e2c107e2c0010410c30871f8785000082
def X4o : Nat := 0x40183081132b077820edc6c0031b27830000060c2044138b05e2c0540c20820f8b34b28e065f83c2e2c0010c30030000c0002002180141006481e2c067380e2c046077b36b06078935b000777f3b000757c6038781082da00c20b480c2ca2481c61430440803000c50821c3c2c100c060c2045becb2c343bac12db000410420821ad785000082
def X6d : Nat := 0x10040c20446857820ed6400c469e0c000010308112aac15030410a9840e054b83e80010030000c00030000800850050401529c29418c00c00c00030000c00020021402a60010450820a40010450410a20010450000a00010430418603400001440c20457c51540030000c00030000800850054b81ae78114175c1461006c004104105c8070000811420070d81006040c20455d4343584540041041042115785000082
def n14 : Nat := 0x48002077e6c0865030463f8e7b08000210a34308110628500d0c2044003b4e7810000820ca2030811061850080c2044003b400400020822870c20441841401c30811000ed00100008204a1830811060850060c2044003b4778100008200a1030811060050040c20441410e0e040457380c1172081197e010454b8143003b517410000820030810d30c65030c30c30c6005784b920010c30c30c31802910010410004a01400020020420c30c30c318015e400791080002
def Yof : S := zS [(zS [] X6d), (zS [] X4o), (zS [] X5s), (zS [(zS [] X4g)] Xt1), (zS [(zS [] X5a)] Xzs)] n14
theorem Ywa : X0 Tryz.prog 14 1 Yof [.c 2 6 true] = true := by kernel_rfl
def X5f : Nat := 0x10060c2044a477820eda000c6a5e0c0000183081137b00e2c0540c5142dacc2c438128e0fd6c0010030030020c4005040112d2c072b000800c00c00831002b3b000411c1042c6c0010470000afb000410c517080b00000718308116eb071140030030020c4005a3822eb6c04406cb2b106180a8004104516b8070000831420870e71009c60c20459a33439449000410451421a4785000082
def X4b : Nat := 0x10040c20445457820ed5000c455e0c00001030811218815031040a0780e4b9783df0010030040450c00c00020030000c00030060050020c014100b48504b05d0010431040870000051030811400ed70151b1040850417200c000200510308115a14b5000c01011430030000800c00030000c01801400830059781ae6412c16172c61005800410441178070000811420070d31004c40c204548f343444400041044102110785000082
def n39 : Nat := 0x1200081078b021940c118f0b8ec20000812860c20441821401830811000ed1de0400020802840c2044180140103081105044a381012e5e020c00ed45d0400020800c20433831940c30030000c0002002180157e04b8d0cb0490030c30030000c000200218028c0010410c308a0010410410880010410002602400020020420c30030000c0002002180157e10017e11080002
def Yqi : S := zS [(zS [] X4b), (zS [] X5f)] n39
theorem Yrx : X0 Tryz.prog 39 1 Yqi [.c 2 6 true] = true := by kernel_rfl
def X3m : Nat := 0x10080c2044578b097820ed538b000c85787830000080c2044938b25e2c0540c41028f8b1ce2c6381c2e0f8b8b000400c00030000c00020021401400c00020c01410074a1e2c09ee2c0020030000c000300008008500500300008300a838b01f7839fe2c0458787dde2c0017f87dbe2c0017787c90828388090007b880310473880c2ca2481c614304408030000920308115ae2c2475000c00030000c00020021401400c00020c0142e0ab99e2c047058e2c5f8b07188016e2c0010411045f88070000851421070d3e2c1004f8203081152e2c3f8b0d0d1e2c110e2c001041104088438785000082
def X4r : Nat := 0x40183081133b077820edcac0031b37830000060c2044378b0ee2c0540c30c2338b02e2c0392c0e0f2f8b000400c00030000c00020021401400c00030000c00020021401400c00c014100b48ae2c087e2c044e2c0030030000c00030000800850050030000c000300008008500500300300a278b01f782f8b06e2c07de08e2c238b0114ae1f178b01147e1f0f8b00045e1f078b00043e1f1c6089e201c1046e201c0004e200c30c2e203ce34c2ca2462050c11c40803c0007183081140e2c1cb5000c00030000c00020021401400c00030000c00020021401400c00c0140e08bb7b012c1dacd6c2c6180d2c0010410c3d601c00020c50821c3c6c100c460c2045c2cb6c343bec12eb000410430c21ae785000082
def X5i : Nat := 0x10040c20444c57820ed4800c44de0c000010308112bb2c0540c2082a9aa382363e90010030000c0003000080085005003000080084005040212a037817000c00c00030000c00020021401400c00020021002a71240610030030000c000300008008500a9800419441021430c28c00418810421430c28000417c00021430c27400411410426c00411400026400410c209a8150000051030811581485000c00030000c00020021401400c00020021001761ae5c12015952061005000410420958070000811420070d11004440c204540d3433c438004104208210e785000082
def n40 : Nat := 0x48002066e2c0855030453e7e3b08000208a2030811061050080c2044003b4978100008204a1830811060850060c2044003b4778100008200a1030811060050040c20441011c2e0304b0380812360c3003b517410000820030810cc0c55030c3003000085005c84b8b0010c30c00c000214028a0010410002e01400020020420c30c00c0002140172400c91080002
def Ymg : S := zS [(zS [] X5i), (zS [] X4r), (zS [] X3m)] n40
theorem Yvw : X0 Tryz.prog 40 1 Ymg [.c 2 5 true] = true := by kernel_rfl
def Xzl : Nat := 0x4800205408550304555f080002
def Yj2 : Nat := 0x100a0c00c20810ed4c15030820820004840120c20c0b9138802f40b0c13bd3c004104ef410410813bd34002f30b0cb0010410003202000020800c20432831540030000c0003000080085005d04b891070450030030000c000300008008500a2000410441021800410410421000410400058090000800810800c00030000c0002002140174400d11080002
def Ydn : S := zS [(zS [] Xzl)] Yj2
theorem Ykp : X0 Tryz.prog 117 1 Ydn [.c 2 5 true] = true := by kernel_rfl
end Go.Proofs.YtanpgmgkmfckaaaGreatDoor
/- The same statements with their regions folded into expressions, printed by the fold itself; that they are that is checked by the kernel. No condition. -/
namespace Go.Proofs.YtanpgmgkmfckaaaGreatDoor
open Go Go.Ab
set_option maxRecDepth 100000
def Xo4 : S2 := zL [] [] X5a
def Xzy := by
 have h := Eq.refl Xo4
 conv at h => rhs; cbv
 exact h
def Xkn : S2 := zL [] [Xo4] Xzs
def Xu4 := by
 have h := fun (a : S2) => Eq.refl (zL [] [a] Xzs)
 conv at h => intro a; rhs; cbv
 have e : Xkn = _ := h Xo4
 exact e
def Xl2 : S2 := zL [] [] X4g
def Xts := by
 have h := Eq.refl Xl2
 conv at h => rhs; cbv
 exact h
def Xj0 : S2 := zL [] [Xl2] Xt1
def Xwk := by
 have h := fun (a : S2) => Eq.refl (zL [] [a] Xt1)
 conv at h => intro a; rhs; cbv
 have e : Xj0 = _ := h Xl2
 exact e
def Xmq : S2 := zL [] [] X5s
def Xx6 := by
 have h := Eq.refl Xmq
 conv at h => rhs; cbv
 exact h
def Xmx : S2 := zL [] [] X4o
def Xvb := by
 have h := Eq.refl Xmx
 conv at h => rhs; cbv
 exact h
def Xou : S2 := zL [] [] X6d
def Xv6 := by
 have h := Eq.refl Xou
 conv at h => rhs; cbv
 exact h
def Yq4 : S2 := zL [] [Xou, Xmx, Xmq, Xj0, Xkn] n14
def Ysk := by
 have h := fun (a b c d e : S2) => Eq.refl (zL [] [a, b, c, d, e] n14)
 conv at h => intro a b c d e; rhs; cbv
 have e : Yq4 = _ := h Xou Xmx Xmq Xj0 Xkn
 exact e
theorem Yr4 : Yof.lift [] = some Yq4 := by kernel_rfl
def Xn6 : S2 := zL [] [] X5f
def Xui := by
 have h := Eq.refl Xn6
 conv at h => rhs; cbv
 exact h
def Xlz : S2 := zL [] [] X4b
def Xwo := by
 have h := Eq.refl Xlz
 conv at h => rhs; cbv
 exact h
def Yoj : S2 := zL [] [Xlz, Xn6] n39
def Yts := by
 have h := fun (a b : S2) => Eq.refl (zL [] [a, b] n39)
 conv at h => intro a b; rhs; cbv
 have e : Yoj = _ := h Xlz Xn6
 exact e
theorem Yvh : Yqi.lift [] = some Yoj := by kernel_rfl
def Xn7 : S2 := zL [117] [] X3m
def Xxs := by
 have h := Eq.refl Xn7
 conv at h => rhs; cbv
 exact h
def Xkt : S2 := zL [117] [] X4r
def Xuw := by
 have h := Eq.refl Xkt
 conv at h => rhs; cbv
 exact h
def Xm6 : S2 := zL [117] [] X5i
def Xv3 := by
 have h := Eq.refl Xm6
 conv at h => rhs; cbv
 exact h
def Ypb : S2 := zL [117] [Xm6, Xkt, Xn7] n40
def Ys2 := by
 have h := fun (a b c : S2) => Eq.refl (zL [117] [a, b, c] n40)
 conv at h => intro a b c; rhs; cbv
 have e : Ypb = _ := h Xm6 Xkt Xn7
 exact e
theorem Ys7 : Ymg.lift [117] = some Ypb := by kernel_rfl
def Xge : S2 := zL [] [] Xzl
def X0s := by
 have h := Eq.refl Xge
 conv at h => rhs; cbv
 exact h
def Yf7 : S2 := zL [] [Xge] Yj2
def Yik := by
 have h := fun (a : S2) => Eq.refl (zL [] [a] Yj2)
 conv at h => intro a; rhs; cbv
 have e : Yf7 = _ := h Xge
 exact e
theorem Ykd : Ydn.lift [] = some Yf7 := by kernel_rfl
end Go.Proofs.YtanpgmgkmfckaaaGreatDoor
/- Contracts: the reference's Unnumbered. Condition: the program is the seat's. -/
namespace Go.Sx
open Go Go.Ab Go.Lx
theorem Zi {α β : Type} {g : α → β} {l : List α} {k : Nat} (h : k < l.length) : (l.take (k + 1)).map g = (l.take k).map g ++ [g l[k]] := by
 rw [← List.take_append_getElem h, List.map_append]; rfl
def RTerm.bare (t : RTerm) : RTerm := ⟨t.name, t.path, if t.name = [] ∧ t.path = [] then -1 else 0, 0, t.n⟩
def RFrom.bare (f : RFrom) : RFrom := ⟨f.name, f.kind, 0, ⟨f.of_.name, f.of_.path, 0, 0, f.of_.n⟩⟩
def RAtom.bare (a : RAtom) : RAtom := ⟨a.op, a.a.bare, a.b.bare⟩
def RSet.bare (s : RSet) : RSet := ⟨s.path, 0, s.term.bare⟩
def RRule.bare (r : RRule) : RRule := ⟨r.head, 0, r.froms.map RFrom.bare, r.wheres.map RAtom.bare, r.sets.map RSet.bare⟩
def RMove.bare (m : RMove) : RMove := ⟨m.to_, m.from_, 0, 0, m.shift⟩
def RConvert.bare (c : RConvert) : RConvert := ⟨c.from_, c.to_, 0, 0, c.moves.map RMove.bare⟩
def RRef.bare (r : RRef) : RRef := ⟨r.name, r.path, 0, 0⟩
def RPurpose.bare (p : RPurpose) : RPurpose := ⟨p.name, p.may.map RRef.bare, p.most⟩
def RUnit.bare (u : RUnit) : RUnit := ⟨u.name, u.of_, u.factor, 0, 0⟩
def RField.bare (f : RField) : RField := ⟨f.name, { f.type with unit := 0 }, f.w0, f.w1, f.w2, f.w3⟩
def RDepend.bare (d : RDepend) : RDepend := ⟨d.names, d.name, [], 0⟩
def RSchema.bare (s : RSchema) : RSchema := ⟨s.name, s.by_, 0, s.version, s.fields.map RField.bare, s.depends.map RDepend.bare⟩
def RSrc.bare (s : RSrc) : RSrc := ⟨s.issuers, s.units.map RUnit.bare, s.schemas.map RSchema.bare, s.rules.map RRule.bare, s.converts.map RConvert.bare, s.purposes.map RPurpose.bare⟩
def RDepend.bareD (d : RDepend) : D := .agg [Xh d.names, .str d.name, .nils, iD 0]
def RSchema.bareD (s : RSchema) : D := .agg [.str s.name, .str s.by_, iD 0, iD s.version, .list 11 (s.fields.map fun f => f.bare.enc), .list 4 (s.depends.map RDepend.bareD)]
def RUnit.bareD (u : RUnit) : D := u.bare.enc
def RRule.bareD (u : RRule) : D := u.bare.enc
def RMove.bareD (u : RMove) : D := u.bare.enc
def RConvert.bareD (u : RConvert) : D := .agg [.str u.from_, .str u.to_, iD 0, iD 0, .list 5 (u.moves.map RMove.bareD)]
def RRef.bareD (u : RRef) : D := u.bare.enc
def RPurpose.bareD (u : RPurpose) : D := .agg [.str u.name, .list 4 (u.may.map RRef.bareD), iD u.most]
@[simp] theorem RSchema.bareD_shape (s : RSchema) : s.bareD.shape = .node [.leaf, .leaf, .leaf, .leaf, .leaf, .leaf] := by simp [RSchema.bareD, D.shape]
@[simp] theorem RRule.bareD_shape (s : RRule) : s.bareD.shape = .node [.leaf, .leaf, .leaf, .leaf, .leaf] := by simp [RRule.bareD, RRule.enc, D.shape]
def RSrc.bareD (s : RSrc) : D := .agg [Xh s.issuers, .list 5 (s.units.map RUnit.bareD), .list 6 (s.schemas.map RSchema.bareD), .list 5 (s.rules.map RRule.bareD), .list 5 (s.converts.map RConvert.bareD), .list 3 (s.purposes.map RPurpose.bareD)]
theorem RDepend.bare_le (d : RDepend) : D.le d.bareD d.bare.enc := D.le.agg (.cons (D.le.refl _) (.cons (D.le.refl _) (.cons (D.le.nil _) (.cons (D.le.refl _) .nil))))
theorem Jp {α β : Type} {f : α → β} {g : β → D} {k : α → D} {l : List α} (h : ∀ x ∈ l, D.le (k x) (g (f x))) : D.les (l.map k) ((l.map f).map g) := Qp h
theorem RSchema.bare_le (s : RSchema) : D.le s.bareD s.bare.enc :=
 D.le.agg (.cons (D.le.refl _) (.cons (D.le.refl _) (.cons (D.le.refl _) (.cons (D.le.refl _) (.cons (D.le.list (Jp fun _ _ => D.le.refl _)) (.cons (D.le.list (Jp fun d _ => d.bare_le)) .nil))))))
theorem RConvert.bare_le (s : RConvert) : D.le s.bareD s.bare.enc :=
 D.le.agg (.cons (D.le.refl _) (.cons (D.le.refl _) (.cons (D.le.refl _) (.cons (D.le.refl _) (.cons (D.le.list (Jp fun _ _ => D.le.refl _)) .nil)))))
theorem RPurpose.bare_le (s : RPurpose) : D.le s.bareD s.bare.enc :=
 D.le.agg (.cons (D.le.refl _) (.cons (D.le.list (Jp fun _ _ => D.le.refl _)) (.cons (D.le.refl _) .nil)))
theorem RSrc.bare_le (s : RSrc) : D.le s.bareD s.bare.enc :=
 D.le.agg (.cons (D.le.refl _) (.cons (D.le.list (Jp fun _ _ => D.le.refl _)) (.cons (D.le.list (Jp fun d _ => d.bare_le)) (.cons (D.le.list (Jp fun _ _ => D.le.refl _)) (.cons (D.le.list (Jp fun d _ => d.bare_le)) (.cons (D.le.list (Jp fun d _ => d.bare_le)) .nil))))))
def Xxt : Ab.Fn := ⟨fun vs => ∃ t : RTerm, vs = [.d t.enc], fun vs => match vs with | [.d (.agg [.str a, .str b, _, _, .int _ n])] => .d (.agg [.str a, .str b, iD (if a = [] ∧ b = [] then -1 else 0), iD 0, iD n]) | _ => .any⟩
@[simp] theorem fnTerm_val (a b : B) (x y : D) (k : IntKind) (n : Int) : Xxt.val [.d (.agg [.str a, .str b, x, y, .int k n])] = .d (.agg [.str a, .str b, iD (if a = [] ∧ b = [] then -1 else 0), iD 0, iD n]) := rfl
@[simp] theorem fnTerm_pre (a b : B) (x y n : Int) : Xxt.pre [.d (.agg [.str a, .str b, iD x, iD y, iD n])] = True := by
 rw [eq_iff_iff]; exact ⟨fun _ => trivial, fun _ => ⟨⟨a, b, x, y, n⟩, rfl⟩⟩
end Go.Sx
namespace Go.Proofs.YtanpgmgkmfckaaaGreatDoor
open Go Go.Ab Go.Lx Go.Sx
set_option maxRecDepth 100000
set_option maxHeartbeats 4000000
section
variable {P : Prg} (hP : P.p = Tryz.prog)
include hP
theorem Xsf (t : RTerm) {ob : Objs} {K : V → Prop} (h : K (.d t.bare.enc)) : PCall P 117 [.d t.enc] ob K := by
 refine pcall_lift hP mixed (ds := [t.enc]) Ykp Ykd TOk.nil ?_
 obtain ⟨a, b, v, f, n⟩ := t
 cases a <;> cases b <;> simp [Yik, X0s, RTerm.enc] <;> simpa [RTerm.bare, RTerm.enc] using h
theorem Xrl : PFn P 117 Xxt := by
 rintro vs ⟨t, rfl⟩ ob K h
 exact Xsf hP t h
theorem Xje (x : RSchema) (hf : x.fields.length ≤ 100000) (hd : x.depends.length ≤ 100000) {ob : Objs} {K : V → Prop} (h : K (.d x.bareD)) : PCall P 39 [.d x.enc] ob K := by
 refine pcall_lift hP mixed (ds := [x.enc]) Yrx Yvh TOk.nil ?_
 simp [Yts, RSchema.enc]
 refine ALoop.upto x.fields.length (fun k => [(1, .ptr 0 []), (2, .ptr 1 []), (3, .ptr 2 []), (4, .d (.int .i64 k))]) (fun k => [(4, .arr 96 4 ([])), (3, .arr 93 11 ((x.fields.take k).map fun f => f.bare.enc)), (2, .box 79 (.agg [.d (.str x.name), .d (.str x.by_), .d (iD 0), .d (iD x.version), .sl 3 k, .sl 4 0])), (1, .box 79 (.d (.agg [.str [], .str [], iD 0, iD 0, .nils, .nils]))), (0, .box 79 (.d x.enc))]) (fun _ => True) trivial (by simp) (by simp [RSchema.enc, RField.enc, RField.bare, RType.enc, Xh]) ?_ ?_
 ·intro k hk _ R rn re rr rp
  have hi : IntKind.i64.wrap ((k : Int) + 1) = (k : Int) + 1 := IntWalk.i64_in _ (by omega)
  have hmn : min k x.fields.length = k := by omega
  simp [Xwo, hk, hmn, RSchema.enc, RField.enc, RField.bare, RType.enc, Xh]
  refine ⟨by omega, ?_⟩
  refine rn [] _ _ trivial (by simp [hi]) (by simp [young, Zi hk, RSchema.enc, RField.enc, RField.bare, RType.enc, Xh]) (by simp [young]) (by simp [young])
 ·intro _ R re rr rp
  simp [Xwo, RSchema.enc, RField.enc, RField.bare, RType.enc, Xh]
  refine re _ _ _ ?_
  clear re rr rp
  simp [RSchema.enc, RField.enc, RField.bare, RType.enc, Xh]
  refine ALoop.upto x.depends.length (fun k => [(1, .ptr 0 []), (2, .ptr 1 []), (3, .ptr 2 []), (6, .d (.int .i64 k))]) (fun k => [(4, .arr 96 4 ((x.depends.take k).map RDepend.bareD)), (3, .arr 93 11 (x.fields.map fun f => f.bare.enc)), (2, .box 79 (.agg [.d (.str x.name), .d (.str x.by_), .d (iD 0), .d (iD x.version), .sl 3 x.fields.length, .sl 4 k])), (1, .box 79 (.d (.agg [.str [], .str [], iD 0, iD 0, .nils, .nils]))), (0, .box 79 (.d x.enc))]) (fun _ => True) trivial (by simp) (by simp [RSchema.enc, RDepend.enc, RDepend.bareD, Xh, Yl, RField.enc, RField.bare, RType.enc]) ?_ ?_
  ·intro k hk _ R rn re rr rp
   have hi : IntKind.i64.wrap ((k : Int) + 1) = (k : Int) + 1 := IntWalk.i64_in _ (by omega)
   have hmn : min k x.depends.length = k := by omega
   simp [Xui, hk, hmn, RSchema.enc, RDepend.enc, RDepend.bareD, Xh, Yl, RField.enc, RField.bare, RType.enc]
   refine ⟨by omega, ?_⟩
   refine rn [] _ _ trivial (by simp [hi]) (by simp [young, Zi hk, RSchema.enc, RDepend.enc, RDepend.bareD, Xh, Yl, RField.enc, RField.bare, RType.enc]) (by simp [young]) (by simp [young])
  ·intro _ R re rr rp
   simp [Xui, RSchema.enc, RDepend.enc, RDepend.bareD, Xh, Yl, RField.enc, RField.bare, RType.enc]
   refine re _ _ _ ?_
   clear re rr rp
   simp [RSchema.enc, RDepend.enc, RDepend.bareD, Xh, Yl, RField.enc, RField.bare, RType.enc]
   simpa [RSchema.bareD, RDepend.bareD, Xh, RField.enc, RField.bare, RType.enc] using h
theorem Xrf (x : RRule) (hf : x.froms.length ≤ 100000) (hw : x.wheres.length ≤ 100000) (hs : x.sets.length ≤ 100000) {ob : Objs} {K : V → Prop} (h : K (.d x.bare.enc)) : PCall P 40 [.d x.enc] ob K := by
 refine pcall_lift hP mixed (ds := [x.enc]) Yvw Ys7 (TOk.cons (Xrl hP) TOk.nil) ?_
 simp [Ys2, RRule.enc]
 refine ALoop.upto x.froms.length (fun k => [(1, .ptr 0 []), (2, .ptr 1 []), (3, .ptr 2 []), (4, .d (.int .i64 k))]) (fun k => [(5, .arr 58 7 ([])), (4, .arr 56 11 ([])), (3, .arr 54 8 ((x.froms.take k).map fun y => y.bare.enc)), (2, .box 50 (.agg [.d (.str x.head), .d (iD 0), .sl 3 k, .sl 4 0, .sl 5 0])), (1, .box 50 (.d (.agg [.str [], iD 0, .nils, .nils, .nils]))), (0, .box 50 (.d x.enc))]) (fun _ => True) trivial (by simp) (by simp [RRule.enc, RRule.bare, RFrom.enc, RFrom.bare, RAtom.enc, RAtom.bare, RSet.enc, RSet.bare, RTerm.enc, RTerm.bare]) ?_ ?_
 ·intro k hk _ R rn re rr rp
  have hi : IntKind.i64.wrap ((k : Int) + 1) = (k : Int) + 1 := IntWalk.i64_in _ (by omega)
  have hmn : min k x.froms.length = k := by omega
  simp [Xv3, hk, hmn, RRule.enc, RRule.bare, RFrom.enc, RFrom.bare, RAtom.enc, RAtom.bare, RSet.enc, RSet.bare, RTerm.enc, RTerm.bare]
  refine ⟨by omega, ?_⟩
  refine rn [] _ _ trivial (by simp [hi]) (by simp [young, Zi hk, RRule.enc, RRule.bare, RFrom.enc, RFrom.bare, RAtom.enc, RAtom.bare, RSet.enc, RSet.bare, RTerm.enc, RTerm.bare]) (by simp [young]) (by simp [young])
 ·intro _ R re rr rp
  simp [Xv3, RRule.enc, RRule.bare, RFrom.enc, RFrom.bare, RAtom.enc, RAtom.bare, RSet.enc, RSet.bare, RTerm.enc, RTerm.bare]
  refine re _ _ _ ?_
  clear re rr rp
  simp [RRule.enc, RRule.bare, RFrom.enc, RFrom.bare, RAtom.enc, RAtom.bare, RSet.enc, RSet.bare, RTerm.enc, RTerm.bare]
  refine ALoop.upto x.wheres.length (fun k => [(1, .ptr 0 []), (2, .ptr 1 []), (3, .ptr 2 []), (6, .d (.int .i64 k))]) (fun k => [(5, .arr 58 7 ([])), (4, .arr 56 11 ((x.wheres.take k).map fun y => y.bare.enc)), (3, .arr 54 8 (x.froms.map fun y => y.bare.enc)), (2, .box 50 (.agg [.d (.str x.head), .d (iD 0), .sl 3 x.froms.length, .sl 4 k, .sl 5 0])), (1, .box 50 (.d (.agg [.str [], iD 0, .nils, .nils, .nils]))), (0, .box 50 (.d x.enc))]) (fun _ => True) trivial (by simp) (by simp [RRule.enc, RRule.bare, RFrom.enc, RFrom.bare, RAtom.enc, RAtom.bare, RSet.enc, RSet.bare, RTerm.enc, RTerm.bare]) ?_ ?_
  ·intro k hk _ R rn re rr rp
   have hi : IntKind.i64.wrap ((k : Int) + 1) = (k : Int) + 1 := IntWalk.i64_in _ (by omega)
   have hmn : min k x.wheres.length = k := by omega
   simp [Xuw, hk, hmn, RRule.enc, RRule.bare, RFrom.enc, RFrom.bare, RAtom.enc, RAtom.bare, RSet.enc, RSet.bare, RTerm.enc, RTerm.bare]
   refine ⟨by omega, ?_⟩
   refine rn [] _ _ trivial (by simp [hi]) (by simp [young, Zi hk, RRule.enc, RRule.bare, RFrom.enc, RFrom.bare, RAtom.enc, RAtom.bare, RSet.enc, RSet.bare, RTerm.enc, RTerm.bare]) (by simp [young]) (by simp [young])
  ·intro _ R re rr rp
   simp [Xuw, RRule.enc, RRule.bare, RFrom.enc, RFrom.bare, RAtom.enc, RAtom.bare, RSet.enc, RSet.bare, RTerm.enc, RTerm.bare]
   refine re _ _ _ ?_
   clear re rr rp
   simp [RRule.enc, RRule.bare, RFrom.enc, RFrom.bare, RAtom.enc, RAtom.bare, RSet.enc, RSet.bare, RTerm.enc, RTerm.bare]
   refine ALoop.upto x.sets.length (fun k => [(1, .ptr 0 []), (2, .ptr 1 []), (3, .ptr 2 []), (8, .d (.int .i64 k))]) (fun k => [(5, .arr 58 7 ((x.sets.take k).map fun y => y.bare.enc)), (4, .arr 56 11 (x.wheres.map fun y => y.bare.enc)), (3, .arr 54 8 (x.froms.map fun y => y.bare.enc)), (2, .box 50 (.agg [.d (.str x.head), .d (iD 0), .sl 3 x.froms.length, .sl 4 x.wheres.length, .sl 5 k])), (1, .box 50 (.d (.agg [.str [], iD 0, .nils, .nils, .nils]))), (0, .box 50 (.d x.enc))]) (fun _ => True) trivial (by simp) (by simp [RRule.enc, RRule.bare, RFrom.enc, RFrom.bare, RAtom.enc, RAtom.bare, RSet.enc, RSet.bare, RTerm.enc, RTerm.bare]) ?_ ?_
   ·intro k hk _ R rn re rr rp
    have hi : IntKind.i64.wrap ((k : Int) + 1) = (k : Int) + 1 := IntWalk.i64_in _ (by omega)
    have hmn : min k x.sets.length = k := by omega
    simp [Xxs, hk, hmn, RRule.enc, RRule.bare, RFrom.enc, RFrom.bare, RAtom.enc, RAtom.bare, RSet.enc, RSet.bare, RTerm.enc, RTerm.bare]
    refine ⟨by omega, ?_⟩
    refine rn [] _ _ trivial (by simp [hi]) (by simp [young, Zi hk, RRule.enc, RRule.bare, RFrom.enc, RFrom.bare, RAtom.enc, RAtom.bare, RSet.enc, RSet.bare, RTerm.enc, RTerm.bare]) (by simp [young]) (by simp [young])
   ·intro _ R re rr rp
    simp [Xxs, RRule.enc, RRule.bare, RFrom.enc, RFrom.bare, RAtom.enc, RAtom.bare, RSet.enc, RSet.bare, RTerm.enc, RTerm.bare]
    refine re _ _ _ ?_
    clear re rr rp
    simp [RRule.enc, RRule.bare, RFrom.enc, RFrom.bare, RAtom.enc, RAtom.bare, RSet.enc, RSet.bare, RTerm.enc, RTerm.bare]
    simp only [RRule.enc, RRule.bare, List.map_map] at h
    exact h
theorem Xie (x : RSrc) (b1 : x.units.length ≤ 100000) (b2 : x.schemas.length ≤ 100000) (b3 : x.rules.length ≤ 100000) (b4 : x.converts.length ≤ 100000) (b5 : x.purposes.length ≤ 100000)
  (hS : ∀ s ∈ x.schemas, s.fields.length ≤ 100000 ∧ s.depends.length ≤ 100000) (hR : ∀ s ∈ x.rules, s.froms.length ≤ 100000 ∧ s.wheres.length ≤ 100000 ∧ s.sets.length ≤ 100000) (hC : ∀ s ∈ x.converts, s.moves.length ≤ 100000) (hU : ∀ s ∈ x.purposes, s.may.length ≤ 100000)
  {ob : Objs} {K : V → Prop} (h : K (.d x.bareD)) : PCall P 14 [.d x.enc] ob K := by
 refine pcall_lift hP mixed (ds := [x.enc]) Ywa Yr4 TOk.nil ?_
 simp [Ysk, RSrc.enc, Xh]
 refine ALoop.upto x.units.length (fun k => [(1, .ptr 0 []), (2, .ptr 1 []), (3, .ptr 2 []), (4, .d (.int .i64 k))]) (fun k => [(7, .arr 88 3 ([])), (6, .arr 84 5 ([])), (5, .arr 50 5 ([])), (4, .arr 79 6 ([])), (3, .arr 74 5 ((x.units.take k).map RUnit.bareD)), (2, .box 30 (.agg [.d (Xh x.issuers), .sl 3 k, .sl 4 0, .sl 5 0, .sl 6 0, .sl 7 0])), (1, .box 30 (.d Vn)), (0, .box 30 (.d x.enc))]) (fun _ => True) trivial (by simp) (by simp [RSrc.enc, Xh]) ?_ ?_
 ·intro k hk _ R rn re rr rp
  have hi : IntKind.i64.wrap ((k : Int) + 1) = (k : Int) + 1 := IntWalk.i64_in _ (by omega)
  have hmn : min k x.units.length = k := by omega
  simp [Xv6, hk, hmn, RSrc.enc, Xh, RUnit.enc]
  refine ⟨by omega, ?_⟩
  refine rn [] _ _ trivial (by simp [hi]) (by simp [young, Zi hk, RSrc.enc, Xh, RUnit.bareD, RUnit.bare, RUnit.enc]) (by simp [young]) (by simp [young])
 ·intro _ R re rr rp
  simp [Xv6, RSrc.enc, Xh]
  refine re _ _ _ ?_
  clear re rr rp
  simp [RSrc.enc, Xh]
  refine ALoop.upto x.schemas.length (fun k => [(1, .ptr 0 []), (2, .ptr 1 []), (3, .ptr 2 []), (6, .d (.int .i64 k))]) (fun k => [(7, .arr 88 3 ([])), (6, .arr 84 5 ([])), (5, .arr 50 5 ([])), (4, .arr 79 6 ((x.schemas.take k).map RSchema.bareD)), (3, .arr 74 5 (x.units.map RUnit.bareD)), (2, .box 30 (.agg [.d (Xh x.issuers), .sl 3 x.units.length, .sl 4 k, .sl 5 0, .sl 6 0, .sl 7 0])), (1, .box 30 (.d Vn)), (0, .box 30 (.d x.enc))]) (fun _ => True) trivial (by simp) (by simp [RSrc.enc, Xh]) ?_ ?_
  ·intro k hk _ R rn re rr rp
   have hi : IntKind.i64.wrap ((k : Int) + 1) = (k : Int) + 1 := IntWalk.i64_in _ (by omega)
   have hmn : min k x.schemas.length = k := by omega
   simp [Xvb, hk, hmn, RSrc.enc, Xh, RSchema.enc]
   refine Xje hP x.schemas[k] (hS _ (by simp)).1 (hS _ (by simp)).2 ?_
   simp [hmn]
   refine ⟨by omega, ?_⟩
   refine rn [] _ _ trivial (by simp [hi]) (by simp [young, Zi hk, RSrc.enc, Xh]) (by simp [young]) (by simp [young])
  ·intro _ R re rr rp
   simp [Xvb, RSrc.enc, Xh]
   refine re _ _ _ ?_
   clear re rr rp
   simp [RSrc.enc, Xh]
   refine ALoop.upto x.rules.length (fun k => [(1, .ptr 0 []), (2, .ptr 1 []), (3, .ptr 2 []), (7, .d (.int .i64 k))]) (fun k => [(7, .arr 88 3 ([])), (6, .arr 84 5 ([])), (5, .arr 50 5 ((x.rules.take k).map RRule.bareD)), (4, .arr 79 6 (x.schemas.map RSchema.bareD)), (3, .arr 74 5 (x.units.map RUnit.bareD)), (2, .box 30 (.agg [.d (Xh x.issuers), .sl 3 x.units.length, .sl 4 x.schemas.length, .sl 5 k, .sl 6 0, .sl 7 0])), (1, .box 30 (.d Vn)), (0, .box 30 (.d x.enc))]) (fun _ => True) trivial (by simp) (by simp [RSrc.enc, Xh]) ?_ ?_
   ·intro k hk _ R rn re rr rp
    have hi : IntKind.i64.wrap ((k : Int) + 1) = (k : Int) + 1 := IntWalk.i64_in _ (by omega)
    have hmn : min k x.rules.length = k := by omega
    simp [Xx6, hk, hmn, RSrc.enc, Xh, RRule.enc]
    refine Xrf hP x.rules[k] (hR _ (by simp)).1 (hR _ (by simp)).2.1 (hR _ (by simp)).2.2 ?_
    rw [show x.rules[k].bare.enc = x.rules[k].bareD from rfl]
    simp [hmn]
    refine ⟨by omega, ?_⟩
    refine rn [] _ _ trivial (by simp [hi]) (by simp [young, Zi hk, RSrc.enc, Xh]) (by simp [young]) (by simp [young])
   ·intro _ R re rr rp
    simp [Xx6, RSrc.enc, Xh]
    refine re _ _ _ ?_
    clear re rr rp
    simp [RSrc.enc, Xh]
    refine ALoop.upto x.converts.length (fun k => [(1, .ptr 0 []), (2, .ptr 1 []), (3, .ptr 2 []), (8, .d (.int .i64 k))]) (fun k => [(7, .arr 88 3 ([])), (6, .arr 84 5 ((x.converts.take k).map RConvert.bareD)), (5, .arr 50 5 (x.rules.map RRule.bareD)), (4, .arr 79 6 (x.schemas.map RSchema.bareD)), (3, .arr 74 5 (x.units.map RUnit.bareD)), (2, .box 30 (.agg [.d (Xh x.issuers), .sl 3 x.units.length, .sl 4 x.schemas.length, .sl 5 x.rules.length, .sl 6 k, .sl 7 0])), (1, .box 30 (.d Vn)), (0, .box 30 (.d x.enc))]) (fun _ => True) trivial (by simp) (by simp [RSrc.enc, Xh]) ?_ ?_
    ·intro k hk _ R rn re rr rp
     have hi : IntKind.i64.wrap ((k : Int) + 1) = (k : Int) + 1 := IntWalk.i64_in _ (by omega)
     have hmn : min k x.converts.length = k := by omega
     simp [Xwk, hk, hmn, RSrc.enc, Xh, RConvert.enc]
     refine ALoop.upto x.converts[k].moves.length (fun j => [(1, .ptr 0 []), (2, .ptr 1 []), (3, .ptr 2 []), (8, .d (.int .i64 k)), (9, .ptr 8 []), (10, .ptr 9 []), (11, .d (.int .i64 j))]) (fun j => [(10, .arr 112 5 ((x.converts[k].moves.take j).map RMove.bareD)), (9, .box 84 (.agg [.d (.str x.converts[k].from_), .d (.str x.converts[k].to_), .d (iD 0), .d (iD 0), .sl 10 j])), (8, .box 84 (.d x.converts[k].enc)), (7, .arr 88 3 ([])), (6, .arr 84 5 ((x.converts.take k).map RConvert.bareD)), (5, .arr 50 5 (x.rules.map RRule.bareD)), (4, .arr 79 6 (x.schemas.map RSchema.bareD)), (3, .arr 74 5 (x.units.map RUnit.bareD)), (2, .box 30 (.agg [.d (Xh x.issuers), .sl 3 x.units.length, .sl 4 x.schemas.length, .sl 5 x.rules.length, .sl 6 k, .sl 7 0])), (1, .box 30 (.d Vn)), (0, .box 30 (.d x.enc))]) (fun _ => True) trivial (by simp) (by simp [RSrc.enc, Xh, RConvert.enc]) ?_ ?_
     ·intro j hj _ R' rn' re' rr' rp'
      have hl := hC _ (List.getElem_mem hk)
      have hi' : IntKind.i64.wrap ((j : Int) + 1) = (j : Int) + 1 := IntWalk.i64_in _ (by omega)
      have hmn' : min j x.converts[k].moves.length = j := by omega
      simp [Xts, hj, hmn', RSrc.enc, Xh, RConvert.enc, RMove.enc]
      refine ⟨by omega, ?_⟩
      refine rn' [] _ _ trivial (by simp [hi']) (by simp [young, Zi hj, RSrc.enc, Xh, RConvert.enc, RMove.bareD, RMove.bare, RMove.enc]) (by simp [young]) (by simp [young])
     ·intro _ R' re' rr' rp'
      simp [Xts, RSrc.enc, Xh, RConvert.enc]
      refine re' _ _ _ ?_
      clear re' rr' rp'
      simp [RSrc.enc, Xh, RConvert.enc, hmn]
      refine ⟨by omega, ?_⟩
      refine rn [] _ _ trivial (by simp [hi]) (by simp [young, Zi hk, RSrc.enc, Xh, RConvert.bareD]) (by simp [young]) (by simp [young])
    ·intro _ R re rr rp
     simp [Xwk, RSrc.enc, Xh]
     refine re _ _ _ ?_
     clear re rr rp
     simp [RSrc.enc, Xh]
     refine ALoop.upto x.purposes.length (fun k => [(1, .ptr 0 []), (2, .ptr 1 []), (3, .ptr 2 []), (13, .d (.int .i64 k))]) (fun k => [(7, .arr 88 3 ((x.purposes.take k).map RPurpose.bareD)), (6, .arr 84 5 (x.converts.map RConvert.bareD)), (5, .arr 50 5 (x.rules.map RRule.bareD)), (4, .arr 79 6 (x.schemas.map RSchema.bareD)), (3, .arr 74 5 (x.units.map RUnit.bareD)), (2, .box 30 (.agg [.d (Xh x.issuers), .sl 3 x.units.length, .sl 4 x.schemas.length, .sl 5 x.rules.length, .sl 6 x.converts.length, .sl 7 k])), (1, .box 30 (.d Vn)), (0, .box 30 (.d x.enc))]) (fun _ => True) trivial (by simp) (by simp [RSrc.enc, Xh]) ?_ ?_
     ·intro k hk _ R rn re rr rp
      have hi : IntKind.i64.wrap ((k : Int) + 1) = (k : Int) + 1 := IntWalk.i64_in _ (by omega)
      have hmn : min k x.purposes.length = k := by omega
      simp [Xu4, hk, hmn, RSrc.enc, Xh, RPurpose.enc]
      refine ALoop.upto x.purposes[k].may.length (fun j => [(1, .ptr 0 []), (2, .ptr 1 []), (3, .ptr 2 []), (13, .d (.int .i64 k)), (14, .ptr 8 []), (15, .ptr 9 []), (16, .d (.int .i64 j))]) (fun j => [(10, .arr 107 4 ((x.purposes[k].may.take j).map RRef.bareD)), (9, .box 88 (.agg [.d (.str x.purposes[k].name), .sl 10 j, .d (iD x.purposes[k].most)])), (8, .box 88 (.d x.purposes[k].enc)), (7, .arr 88 3 ((x.purposes.take k).map RPurpose.bareD)), (6, .arr 84 5 (x.converts.map RConvert.bareD)), (5, .arr 50 5 (x.rules.map RRule.bareD)), (4, .arr 79 6 (x.schemas.map RSchema.bareD)), (3, .arr 74 5 (x.units.map RUnit.bareD)), (2, .box 30 (.agg [.d (Xh x.issuers), .sl 3 x.units.length, .sl 4 x.schemas.length, .sl 5 x.rules.length, .sl 6 x.converts.length, .sl 7 k])), (1, .box 30 (.d Vn)), (0, .box 30 (.d x.enc))]) (fun _ => True) trivial (by simp) (by simp [RSrc.enc, Xh, RPurpose.enc]) ?_ ?_
      ·intro j hj _ R' rn' re' rr' rp'
       have hl := hU _ (List.getElem_mem hk)
       have hi' : IntKind.i64.wrap ((j : Int) + 1) = (j : Int) + 1 := IntWalk.i64_in _ (by omega)
       have hmn' : min j x.purposes[k].may.length = j := by omega
       simp [Xzy, hj, hmn', RSrc.enc, Xh, RPurpose.enc, RRef.enc]
       refine ⟨by omega, ?_⟩
       refine rn' [] _ _ trivial (by simp [hi']) (by simp [young, Zi hj, RSrc.enc, Xh, RPurpose.enc, RRef.bareD, RRef.bare, RRef.enc]) (by simp [young]) (by simp [young])
      ·intro _ R' re' rr' rp'
       simp [Xzy, RSrc.enc, Xh, RPurpose.enc]
       refine re' _ _ _ ?_
       clear re' rr' rp'
       simp [RSrc.enc, Xh, RPurpose.enc, hmn]
       refine ⟨by omega, ?_⟩
       refine rn [] _ _ trivial (by simp [hi]) (by simp [young, Zi hk, RSrc.enc, Xh, RPurpose.bareD]) (by simp [young]) (by simp [young])
     ·intro _ R re rr rp
      simp [Xu4, RSrc.enc, Xh]
      refine re _ _ _ ?_
      clear re rr rp
      simp [RSrc.enc, Xh]
      simpa [RSrc.bareD, Xh] using h
end
end Go.Proofs.YtanpgmgkmfckaaaGreatDoor
/- What is printed of well-formed definitions is parsed back. No program. -/
namespace Go.Sx
open Go Go.Ab Go.Lx
@[simp] theorem Ygd (s : B) (p : List Tok) : X9 (nmT s :: p) = .ok s p := by simp [X9, Xe, Jb, Xj, nmT]
@[simp] theorem k_word (s : B) (p : List Tok) : Yp s (nmT s :: p) = .ok () p := by simp [Yp, Xe, Jb, Xj, nmT]
@[simp] theorem k_sign (s : B) (p : List Tok) : X2 s (sgT s :: p) = .ok () p := by simp [X2, Xe, Jb, Xj, sgT]
theorem Jf {lo hi n : Int} (h : Yz lo hi n) (p : List Tok) : Xy lo hi (nuT n :: p) = .ok n p := by simp [Xy, Xj, nuT, h.1, h.2]
@[simp] theorem k_acc_s (s t : B) (p : List Tok) : Xt 3 s (sgT t :: p) = if s = [] ∨ t = s then .ok true p else .ok false (sgT t :: p) := by
 by_cases h : s = [] ∨ t = s <;> simp [Xt, Xj, sgT, h]
@[simp] theorem k_acc_w (s t : B) (p : List Tok) : Xt 1 s (nmT t :: p) = if s = [] ∨ t = s then .ok true p else .ok false (nmT t :: p) := by
 by_cases h : s = [] ∨ t = s <;> simp [Xt, Xj, nmT, h]
@[simp] theorem k_acc_sn (s t : B) (p : List Tok) : Xt 1 s (sgT t :: p) = .ok false (sgT t :: p) := by simp [Xt, Xj, sgT]
@[simp] theorem k_acc_sw (s t : B) (p : List Tok) : Xt 3 s (nmT t :: p) = .ok false (nmT t :: p) := by simp [Xt, Xj, nmT]
@[simp] theorem k_next_w (s t : B) (p : List Tok) : Xj 1 s (nmT t :: p) = decide (s = [] ∨ t = s) := by rw [Bool.eq_iff_iff]; simp [Xj, nmT]
@[simp] theorem k_next_ws (s t : B) (p : List Tok) : Xj 1 s (sgT t :: p) = false := by simp [Xj, sgT]
@[simp] theorem k_next_wn (s : B) (n : Int) (p : List Tok) : Xj 1 s (nuT n :: p) = false := by simp [Xj, nuT]
@[simp] theorem k_next_s (s t : B) (p : List Tok) : Xj 3 s (sgT t :: p) = decide (s = [] ∨ t = s) := by rw [Bool.eq_iff_iff]; simp [Xj, sgT]
@[simp] theorem k_next_sw (s t : B) (p : List Tok) : Xj 3 s (nmT t :: p) = false := by simp [Xj, nmT]
@[simp] theorem k_next_sn (s : B) (n : Int) (p : List Tok) : Xj 3 s (nuT n :: p) = false := by simp [Xj, nuT]
@[simp] theorem k_next_nw (s t : B) (p : List Tok) : Xj 2 s (nmT t :: p) = false := by simp [Xj, nmT]
@[simp] theorem k_next_nn (n : Int) (p : List Tok) : Xj 2 [] (nuT n :: p) = true := by simp [Xj, nuT]
theorem Xcx {s : B} (h : nm s) : s ≠ [] := by
 rintro rfl
 revert h
 unfold nm
 decide
theorem Xxu (a b : B) (p : List Tok) : Xfw (nmT a :: sgT [46] :: nmT b :: p) = .ok (a, b) p := by simp [Xfw, Xe]
theorem Xz5 {t : Term} (h : t.wf) (p : List Tok) : U9 (Z8 t.raw ++ p) = .ok t p := by
 cases t with
 | num n =>
  have h1 : Yz 0 1048576 n := h
  simp [Z8, Term.raw, U9, Xe, Jf h1]
 | path a b =>
  have h1 : a ≠ [] := Xcx h.1
  simp [Z8, Term.raw, h1, U9, Xe, Xxu]
theorem Ydf {f : From} (h : f.wf) (p : List Tok) : Ue (Wj f.raw ++ p) = .ok f p := by
 obtain ⟨a, b, c⟩ := f
 cases c with
 | none => simp [Wj, From.raw, Ue, Xe]
 | some x =>
  have h1 : x.1 ≠ [] := Xcx h.of_.1
  simp [Wj, From.raw, h1, Z8, Ue, Xe, Xxu]
theorem Ysq {o : Int} (h : Yz 1 4 o) (t : Tok) (ht : ∀ p, Xj 3 [61] (t :: p) = false) (p : List Tok) : opM (opT o ++ t :: p) = .ok o (t :: p) := by
 have ha : Xt 3 [61] (t :: p) = .ok false (t :: p) := by simp [Xt, ht]
 have h4 : o = 1 ∨ o = 2 ∨ o = 3 ∨ o = 4 := by unfold Yz at h; omega
 rcases h4 with rfl | rfl | rfl | rfl <;> simp [opT, opM, Xe, ha]
theorem X68 {a : Atom} (h : a.wf) (p : List Tok) : Us (Yo a.raw ++ p) = .ok a p := by
 obtain ⟨o, x, y⟩ := a
 have hx : ∀ q, U9 (Z8 x.raw ++ q) = .ok x q := fun q => Xz5 h.a q
 have hy : ∀ q, U9 (Z8 y.raw ++ q) = .ok y q := fun q => Xz5 h.b q
 obtain ⟨t, r, e, ht⟩ : ∃ t r, Z8 y.raw = t :: r ∧ ∀ p, Xj 3 [61] (t :: p) = false := by
  cases y with
  | num n => exact ⟨nuT n, [], by simp [Z8, Term.raw], fun p => by simp⟩
  | path a b =>
   have : a ≠ [] := Xcx h.b.1
   exact ⟨nmT a, [sgT [46], nmT b], by simp [Z8, Term.raw, this], fun p => by simp⟩
 have ho : ∀ q, opM (opT o ++ (Z8 y.raw ++ q)) = .ok o (Z8 y.raw ++ q) := fun q => by rw [e]; exact Ysq h.op t ht _
 simp [Yo, Atom.raw, Us, Xe, hx, hy, ho]
theorem Yir {a : SetT} (h : a.wf) (p : List Tok) : Xsv (Xec a.raw ++ p) = .ok a p := by
 obtain ⟨x, y⟩ := a
 have hy : ∀ q, U9 (Z8 y.raw ++ q) = .ok y q := fun q => Xz5 h.term q
 simp [Xec, SetT.raw, Xsv, Xe, hy]
theorem Yci {a : Move} (h : a.wf) (p : List Tok) : J3 (Wm a.raw ++ p) = .ok a p := by
 obtain ⟨x, y, n⟩ := a
 have hn := h.shift
 simp only [Yz] at hn
 by_cases h1 : 0 < n
 ·have : Yz 0 1048576 n := ⟨by omega, by omega⟩
  simp [Wm, Move.raw, h1, J3, Xbj, Xe, Jf this]
 ·by_cases h2 : n < 0
  ·have : Yz 0 1048576 (-n) := ⟨by omega, by omega⟩
   simp [Wm, Move.raw, h1, h2, J3, Xbj, Xe, Jf this]
  ·obtain rfl : n = 0 := by omega
   simp [Wm, Move.raw, J3, Xbj, Xe]
theorem Yj3 (a : Ref) (p : List Tok) : Xst (Xke a.raw ++ p) = .ok a p := by
 simp [Xke, Ref.raw, Xst, Xe, Xxu]
theorem Xd7 {α : Type} {c : List Tok → Bool} {read : M α} {pr : α → List Tok} : ∀ {l : List α} {n : Nat} {p : List Tok}, (∀ x ∈ l, ∀ q, read (pr x ++ q) = .ok x q ∧ c (pr x ++ q) = true) → l.length ≤ n → c p = false → Xs c read n (l.flatMap pr ++ p) = .ok l p
 | [], 0, p, _, _, hc => by simp [Xs, hc]
 | [], n + 1, p, _, _, hc => by simp [Xs, hc]
 | x :: r, 0, p, _, hl, _ => by simp at hl
 | x :: r, n + 1, p, h, hl, hc => by
  have h1 := h x (by simp) (r.flatMap pr ++ p)
  have h2 := Xd7 (l := r) (n := n) (p := p) (fun y hy => h y (by simp [hy])) (by simpa using hl) hc
  simp only [List.flatMap_cons, List.append_assoc, Xs, h1.2, if_true, Xe, h1.1, h2]
  rfl
theorem Xp7 {l : List B} {most : Nat} (h : Xd0 most l) {p : List Tok} (hc : Xj 3 [44] p = false) : Vb most (Vt l ++ p) = .ok l p := by
 obtain ⟨h1, h2, _⟩ := h
 cases l with
 | nil => exact absurd rfl h1
 | cons a r =>
  rw [← J0]
  have := Xd7 (c := Xj 3 [44]) (read := (do X2 [44]; X9)) (pr := fun x => [sgT [44], nmT x]) (l := r) (n := most - 1) (p := p) (fun x _ q => ⟨by simp [Xe], by simp⟩) (by simp at h2; omega) hc
  simp only [Zo, Vb, List.cons_append, Xe, Ygd, this]
  rfl
theorem Ye4 {t : TypeT} (h : t.wf) {p : List Tok} (h1 : Xj 1 [105, 110] p = false) (h2 : Xj 3 [44] p = false) : Xb9 (Ut t.raw ++ p) = .ok t p := by
 cases t with
 | num lo hi o =>
  obtain ⟨a, b, c⟩ := h
  have ha : Xt 1 [105, 110] p = .ok false p := by simp [Xt, h1]
  cases o with
  | none => simp [Ut, TypeT.raw, Xb9, Xe, Jf a, Jf b, ha]
  | some s =>
   have : s ≠ [] := Xcx c
   simp [Ut, TypeT.raw, this, Xb9, Xe, Jf a, Jf b]
 | date => simp [Ut, TypeT.raw, Xb9, Xe]
 | person => simp [Ut, TypeT.raw, Xb9, Xe]
 | choice l => simp [Ut, TypeT.raw, Xb9, Xe, Xp7 h h2]
theorem Xjl {a b c d : Int} (ha : Yz 0 9 a) (hb : Yz 0 9 b) (hc : Yz 0 9 c) (hd : Yz 0 9 d) (p : List Tok) : Wz (nuT a :: nuT b :: nuT c :: nuT d :: p) = .ok [a, b, c, d] p := by
 simp [Wz, Xfa, Xe, Jf ha, Jf hb, Jf hc, Jf hd]
theorem Yat {f : Field} (h : f.wf) (p : List Tok) : Qb (fieldT f.raw ++ p) = .ok f p := by
 obtain ⟨n, t, w⟩ := f
 match w, h.four, h.weights with
 | [a, b, c, d], _, hw =>
  have hk : ∀ q, Xb9 (Ut t.raw ++ nuT a :: q) = .ok t (nuT a :: q) := fun q => Ye4 h.type (by simp) (by simp)
  have := Xjl (hw a (by simp)) (hw b (by simp)) (hw c (by simp)) (hw d (by simp))
  simp [fieldT, Field.raw, Qb, Xe, hk, this]
theorem X0x {d : Depend} (h : d.wf) (p : List Tok) : U5 (Yw d.raw ++ p) = .ok d p := by
 obtain ⟨l, n⟩ := d
 have hk : ∀ q, Vb 11 (Vt l ++ nmT [103, 105, 118, 101] :: q) = .ok l (nmT [103, 105, 118, 101] :: q) := fun q => Xp7 h.names (by simp)
 simp [Yw, Depend.raw, U5, Xe, hk]
theorem Xul : ∀ (fs : List Field) (ds : List Depend) (n : Nat) (s : Schema) (p : List Tok), (∀ f ∈ fs, f.wf) → (∀ d ∈ ds, d.wf) → s.fields.length + fs.length ≤ 12 → s.depends.length + ds.length ≤ 8 → fs.length + ds.length < n →
  J5 n s (fs.flatMap (fun f => fieldT f.raw) ++ (ds.flatMap (fun d => Yw d.raw) ++ sgT [125] :: p)) = .ok { s with fields := s.fields ++ fs, depends := s.depends ++ ds } p
 | [], [], n + 1, s, p, _, _, _, _, _ => by simp [J5, Xe]
 | [], d :: ds, n + 1, s, p, hf, hd, h1, h2, h3 => by
  have hk := X0x (hd d (by simp)) (ds.flatMap (fun d => Yw d.raw) ++ sgT [125] :: p)
  have ih := Xul [] ds n { s with depends := s.depends ++ [d] } p hf (fun x hx => hd x (by simp [hx])) h1 (by simp at h2 ⊢; omega) (by simp at h3 ⊢; omega)
  simp only [List.flatMap_nil, List.nil_append] at ih
  have hne : s.depends.length ≠ 8 := by simp at h2; omega
  have hh : ∃ q, Yw d.raw ++ (ds.flatMap (fun d => Yw d.raw) ++ sgT [125] :: p) = nmT [100, 101, 112, 101, 110, 100] :: q := ⟨_, rfl⟩
  obtain ⟨q, hq⟩ := hh
  simp only [List.flatMap_nil, List.nil_append, List.flatMap_cons, List.append_assoc]
  rw [J5, Xe]
  rw [hq] at hk ⊢
  simp [ifM, Xe, Zw, hne, hk, ih]
 | f :: fs, ds, n + 1, s, p, hf, hd, h1, h2, h3 => by
  have hk := Yat (hf f (by simp)) (fs.flatMap (fun f => fieldT f.raw) ++ (ds.flatMap (fun d => Yw d.raw) ++ sgT [125] :: p))
  have ih := Xul fs ds n { s with fields := s.fields ++ [f] } p (fun x hx => hf x (by simp [hx])) hd (by simp at h1 ⊢; omega) h2 (by simp at h3 ⊢; omega)
  have hne : s.fields.length ≠ 12 := by simp at h1; omega
  have hh : ∃ q, fieldT f.raw ++ (fs.flatMap (fun f => fieldT f.raw) ++ (ds.flatMap (fun d => Yw d.raw) ++ sgT [125] :: p)) = nmT [102, 105, 101, 108, 100] :: q := ⟨_, rfl⟩
  obtain ⟨q, hq⟩ := hh
  simp only [List.flatMap_cons, List.append_assoc]
  rw [J5, Xe]
  rw [hq] at hk ⊢
  simp [ifM, Xe, Zw, hne, hk, ih]
theorem X1b (s : B) (p : List Tok) : Xan (Yg s ++ p) = .ok s p := by simp [Yg, Xan, Xe]
theorem Ygr {u : UnitT} (h : u.wf) (p : List Tok) : Xov (Z0 u.raw ++ p) = .ok u p := by
 obtain ⟨n, o⟩ := u
 cases o with
 | none => simp [Z0, UnitT.raw, Xov, Xe]
 | some x =>
  have h1 : x.2 ≠ [] := Xcx h.of_.2
  have h2 : Yz 2 1000 x.1 := h.of_.1
  simp [Z0, UnitT.raw, h1, Xov, Xe, Jf h2]
theorem Wd {α β : Type} (f : α → β) (g : β → List Tok) (l : List α) : (l.map f).flatMap g = l.flatMap fun x => g (f x) := by simp [List.flatMap_map]
theorem X1j {s : Schema} (h : s.wf) (p : List Tok) : Xak (Yb s.raw ++ p) = .ok s p := by
 obtain ⟨a, b, v, fs, ds⟩ := s
 obtain ⟨h1, h2, h3, ⟨w, r, h4⟩, h5, h6, h7, h8⟩ := h
 simp only at h1 h2 h3 h4 h5 h6 h7 h8
 subst h4
 have hs := h6 ⟨[115, 101, 108, 102], .person, w⟩ (by simp)
 match w, hs.four, hs.weights with
 | [w1, w2, w3, w4], _, hw =>
  have hk := Xjl (hw w1 (by simp)) (hw w2 (by simp)) (hw w3 (by simp)) (hw w4 (by simp))
  have hb := Xul r ds 21 ⟨a, b, v, [⟨[115, 101, 108, 102], .person, [w1, w2, w3, w4]⟩], []⟩ p (fun f hf => h6 f (by simp [hf])) h8 (by simp at h5 ⊢; omega) (by simpa using h7) (by simp at h5; omega)
  simp [Yb, Schema.raw, Xq0, Field.raw, Xak, Xe, Jf h3, hk, Wd]
  simpa [Field.raw] using hb
theorem Ygo {r : Rule} (h : r.wf) (p : List Tok) : Xqu (W7 r.raw ++ p) = .ok r p := by
 obtain ⟨hd, fs, ws, ss⟩ := r
 obtain ⟨h1, h2, h3, h4, h5, h6, h7, h8⟩ := h
 simp only at h1 h2 h3 h4 h5 h6 h7 h8
 have begin_ : ∀ (l : List SetT), Xj 1 [102, 114, 111, 109] (l.flatMap (fun x => Xec x.raw) ++ sgT [125] :: p) = false ∧ Xj 1 [119, 104, 101, 114, 101] (l.flatMap (fun x => Xec x.raw) ++ sgT [125] :: p) = false := by
  intro l
  cases l with
  | nil => simp
  | cons x r => simp [Xec]
 have begin2 : ∀ (l : List Atom), Xj 1 [102, 114, 111, 109] (l.flatMap (fun x => Yo x.raw) ++ (ss.flatMap (fun x => Xec x.raw) ++ sgT [125] :: p)) = false := by
  intro l
  cases l with
  | nil => exact (begin_ ss).1
  | cons x r => simp [Yo]
 have k3 := Xd7 (c := Xj 1 [115, 101, 116]) (read := Xsv) (pr := fun x => Xec x.raw) (l := ss) (n := 11) (p := sgT [125] :: p) (fun x hx q => ⟨Yir (h8 x hx) q, by simp [Xec]⟩) h7 (by simp)
 have k2 := Xd7 (c := Xj 1 [119, 104, 101, 114, 101]) (read := Us) (pr := fun x => Yo x.raw) (l := ws) (n := 8) (p := ss.flatMap (fun x => Xec x.raw) ++ sgT [125] :: p) (fun x hx q => ⟨X68 (h6 x hx) q, by simp [Yo]⟩) h5 (begin_ ss).2
 have k1 := Xd7 (c := Xj 1 [102, 114, 111, 109]) (read := Ue) (pr := fun x => Wj x.raw) (l := fs) (n := 3) (p := ws.flatMap (fun x => Yo x.raw) ++ (ss.flatMap (fun x => Xec x.raw) ++ sgT [125] :: p)) (fun x hx q => ⟨Ydf (h4 x hx) q, by simp [Wj]⟩) h3 (begin2 ws)
 have hb : Xj 1 [102, 114, 111, 109] (fs.flatMap (fun x => Wj x.raw) ++ (ws.flatMap (fun x => Yo x.raw) ++ (ss.flatMap (fun x => Xec x.raw) ++ sgT [125] :: p))) = true := by
  cases fs with
  | nil => exact absurd rfl h2
  | cons x r => simp [Wj]
 simp [W7, Rule.raw, Xqu, Xe, Wd, ifM, hb, k1, k2, k3]
theorem Xzh {c : Convert} (h : c.wf) (p : List Tok) : Ql (X4 c.raw ++ p) = .ok c p := by
 obtain ⟨a, b, l⟩ := c
 have k1 := Xd7 (c := Xj 1 []) (read := J3) (pr := fun x => Wm x.raw) (l := l) (n := 11) (p := sgT [125] :: p) (fun x hx q => ⟨Yci (h.moves x hx) q, by simp [Wm]⟩) h.few (by simp)
 simp [X4, Convert.raw, Ql, Xe, Wd, k1]
theorem Xy0 {c : Purpose} (h : c.wf) (p : List Tok) : Qq (Ya c.raw ++ p) = .ok c p := by
 obtain ⟨a, l, n⟩ := c
 have k1 := Xd7 (c := Xj 1 [109, 97, 121]) (read := Xst) (pr := fun x => Xke x.raw) (l := l) (n := 32) (p := nmT [109, 111, 115, 116] :: nuT n :: sgT [59] :: sgT [125] :: p) (fun x hx q => ⟨Yj3 x q, by simp [Xke]⟩) h.few (by simp)
 have hn : Yz 0 32 n := h.most
 simp [Ya, Purpose.raw, Qq, Xe, Wd, k1, Jf hn]
theorem Xdd {α : Type} {pr : α → List Tok} {put : Src → List α → Src} {cnt : Src → Nat} {most : Nat} {body : M α}
  (hcnt : ∀ s l, cnt (put s l) = cnt s + l.length) (hput : ∀ s a l, put (put s [a]) l = put s (a :: l)) (hnil : ∀ s, put s [] = s)
  (hdef : ∀ s a q, pr a ++ q ≠ [] ∧ V6 s (pr a ++ q) = Xjy (cnt s) most body (fun a => put s [a]) (pr a ++ q)) :
  ∀ (l : List α) (s : Src) (q : List Tok), (∀ a ∈ l, ∀ q, body (pr a ++ q) = .ok a q) → cnt s + l.length ≤ most → Yc (l.flatMap pr ++ q).length s (l.flatMap pr ++ q) = Yc q.length (put s l) q
 | [], s, q, _, _ => by simp [hnil]
 | a :: l, s, q, hb, hc => by
  have h1 := hb a (by simp) (l.flatMap pr ++ q)
  obtain ⟨hne, hd⟩ := hdef s a (l.flatMap pr ++ q)
  have ih := Xdd hcnt hput hnil hdef l (put s [a]) q (fun x hx => hb x (by simp [hx])) (by rw [hcnt]; simp at hc ⊢; omega)
  rw [hput] at ih
  rw [List.flatMap_cons, List.append_assoc]
  have hn : cnt s ≠ most := by simp at hc; omega
  have hd2 : V6 s (pr a ++ (l.flatMap pr ++ q)) = .ok (put s [a]) (l.flatMap pr ++ q) := by
   rw [hd]; simp [Xjy, Xe, Zw, hn, h1]
  cases hx : pr a ++ (l.flatMap pr ++ q) with
  | nil => exact absurd hx hne
  | cons t r =>
   rw [hx] at hd2
   rw [List.length_cons, Yq, Xe, hd2]
   simp only
   have hlt := J1 _ _ _ _ hd2
   simp only [List.length_cons] at hlt
   rw [Q4 _ _ _ (by omega), ih]
theorem Xqo (s : Src) (a : B) (q : List Tok) : Yg a ++ q ≠ [] ∧ V6 s (Yg a ++ q) = U1 s (Yg a ++ q) := by
 obtain ⟨r, hr⟩ : ∃ r, Yg a ++ q = nmT [105, 115, 115, 117, 101, 114] :: r := ⟨_, rfl⟩
 rw [hr]
 refine ⟨by simp, ?_⟩
 simp [V6, nmT, Xel]
theorem Xyp {x : Src} (h : x.wf) (q : List Tok) : Yc (x.issuers.flatMap (Yg) ++ q).length ⟨[], [], [], [], [], []⟩ (x.issuers.flatMap (Yg) ++ q) = Yc q.length ⟨x.issuers, [], [], [], [], []⟩ q := by
 obtain ⟨⟨f1, f2, f3, f4, f5, f6⟩, w1, w2, w3, w4, w5, w6⟩ := h
 exact Xdd (α := B) (pr := Yg) (put := fun s l => { s with issuers := s.issuers ++ l }) (cnt := fun s => s.issuers.length) (most := 8) (body := Xan) (fun s l => List.length_append) (fun s a l => by simp only [List.append_assoc, List.singleton_append]) (fun s => by simp only [List.append_nil]) (fun s a q => ⟨(Xqo s a q).1, by rw [(Xqo s a q).2, Xd3]⟩) x.issuers ⟨[], [], [], [], [], []⟩ q (fun a ha q => X1b a q) (by simpa using f1)
theorem X59 (s : Src) (a : RUnit) (q : List Tok) : Z0 a ++ q ≠ [] ∧ V6 s (Z0 a ++ q) = Xi1 s (Z0 a ++ q) := by
 obtain ⟨r, hr⟩ : ∃ r, Z0 a ++ q = nmT [117, 110, 105, 116] :: r := ⟨_, rfl⟩
 rw [hr]
 refine ⟨by simp, ?_⟩
 simp [V6, nmT, Xel]
theorem X8e {x : Src} (h : x.wf) (q : List Tok) : Yc (x.units.flatMap (fun u : UnitT => Z0 u.raw) ++ q).length ⟨x.issuers, [], [], [], [], []⟩ (x.units.flatMap (fun u : UnitT => Z0 u.raw) ++ q) = Yc q.length ⟨x.issuers, x.units, [], [], [], []⟩ q := by
 obtain ⟨⟨f1, f2, f3, f4, f5, f6⟩, w1, w2, w3, w4, w5, w6⟩ := h
 exact Xdd (α := UnitT) (pr := fun u : UnitT => Z0 u.raw) (put := fun s l => { s with units := s.units ++ l }) (cnt := fun s => s.units.length) (most := 16) (body := Xov) (fun s l => List.length_append) (fun s a l => by simp only [List.append_assoc, List.singleton_append]) (fun s => by simp only [List.append_nil]) (fun s a q => ⟨(X59 s a.raw q).1, by rw [(X59 s a.raw q).2, Xnh]⟩) x.units ⟨x.issuers, [], [], [], [], []⟩ q (fun a ha q => Ygr (w2 a ha) q) (by simpa using f2)
theorem Xqg (s : Src) (a : RSchema) (q : List Tok) : Yb a ++ q ≠ [] ∧ V6 s (Yb a ++ q) = Qd s (Yb a ++ q) := by
 obtain ⟨r, hr⟩ : ∃ r, Yb a ++ q = nmT [115, 99, 104, 101, 109, 97] :: r := ⟨_, rfl⟩
 rw [hr]
 refine ⟨by simp, ?_⟩
 simp [V6, nmT, Xel]
theorem Xtt {x : Src} (h : x.wf) (q : List Tok) : Yc (x.schemas.flatMap (fun u : Schema => Yb u.raw) ++ q).length ⟨x.issuers, x.units, [], [], [], []⟩ (x.schemas.flatMap (fun u : Schema => Yb u.raw) ++ q) = Yc q.length ⟨x.issuers, x.units, x.schemas, [], [], []⟩ q := by
 obtain ⟨⟨f1, f2, f3, f4, f5, f6⟩, w1, w2, w3, w4, w5, w6⟩ := h
 exact Xdd (α := Schema) (pr := fun u : Schema => Yb u.raw) (put := fun s l => { s with schemas := s.schemas ++ l }) (cnt := fun s => s.schemas.length) (most := 16) (body := Xak) (fun s l => List.length_append) (fun s a l => by simp only [List.append_assoc, List.singleton_append]) (fun s => by simp only [List.append_nil]) (fun s a q => ⟨(Xqg s a.raw q).1, by rw [(Xqg s a.raw q).2, Xdz]⟩) x.schemas ⟨x.issuers, x.units, [], [], [], []⟩ q (fun a ha q => X1j (w3 a ha) q) (by simpa using f3)
theorem X5u (s : Src) (a : RRule) (q : List Tok) : W7 a ++ q ≠ [] ∧ V6 s (W7 a ++ q) = Xij s (W7 a ++ q) := by
 obtain ⟨r, hr⟩ : ∃ r, W7 a ++ q = nmT [100, 101, 114, 105, 118, 101] :: r := ⟨_, rfl⟩
 rw [hr]
 refine ⟨by simp, ?_⟩
 simp [V6, nmT, Xel]
theorem Yar {x : Src} (h : x.wf) (q : List Tok) : Yc (x.rules.flatMap (fun u : Rule => W7 u.raw) ++ q).length ⟨x.issuers, x.units, x.schemas, [], [], []⟩ (x.rules.flatMap (fun u : Rule => W7 u.raw) ++ q) = Yc q.length ⟨x.issuers, x.units, x.schemas, x.rules, [], []⟩ q := by
 obtain ⟨⟨f1, f2, f3, f4, f5, f6⟩, w1, w2, w3, w4, w5, w6⟩ := h
 exact Xdd (α := Rule) (pr := fun u : Rule => W7 u.raw) (put := fun s l => { s with rules := s.rules ++ l }) (cnt := fun s => s.rules.length) (most := 16) (body := Xqu) (fun s l => List.length_append) (fun s a l => by simp only [List.append_assoc, List.singleton_append]) (fun s => by simp only [List.append_nil]) (fun s a q => ⟨(X5u s a.raw q).1, by rw [(X5u s a.raw q).2, Xj6]⟩) x.rules ⟨x.issuers, x.units, x.schemas, [], [], []⟩ q (fun a ha q => Ygo (w4 a ha) q) (by simpa using f4)
theorem Xi4 (s : Src) (a : RConvert) (q : List Tok) : X4 a ++ q ≠ [] ∧ V6 s (X4 a ++ q) = Vk s (X4 a ++ q) := by
 obtain ⟨r, hr⟩ : ∃ r, X4 a ++ q = nmT [99, 111, 110, 118, 101, 114, 116] :: r := ⟨_, rfl⟩
 rw [hr]
 refine ⟨by simp, ?_⟩
 simp [V6, nmT, Xel]
theorem Xsi {x : Src} (h : x.wf) (q : List Tok) : Yc (x.converts.flatMap (fun u : Convert => X4 u.raw) ++ q).length ⟨x.issuers, x.units, x.schemas, x.rules, [], []⟩ (x.converts.flatMap (fun u : Convert => X4 u.raw) ++ q) = Yc q.length ⟨x.issuers, x.units, x.schemas, x.rules, x.converts, []⟩ q := by
 obtain ⟨⟨f1, f2, f3, f4, f5, f6⟩, w1, w2, w3, w4, w5, w6⟩ := h
 exact Xdd (α := Convert) (pr := fun u : Convert => X4 u.raw) (put := fun s l => { s with converts := s.converts ++ l }) (cnt := fun s => s.converts.length) (most := 16) (body := Ql) (fun s l => List.length_append) (fun s a l => by simp only [List.append_assoc, List.singleton_append]) (fun s => by simp only [List.append_nil]) (fun s a q => ⟨(Xi4 s a.raw q).1, by rw [(Xi4 s a.raw q).2, Xa8]⟩) x.converts ⟨x.issuers, x.units, x.schemas, x.rules, [], []⟩ q (fun a ha q => Xzh (w5 a ha) q) (by simpa using f5)
theorem Xju (s : Src) (a : RPurpose) (q : List Tok) : Ya a ++ q ≠ [] ∧ V6 s (Ya a ++ q) = Vl s (Ya a ++ q) := by
 obtain ⟨r, hr⟩ : ∃ r, Ya a ++ q = nmT [112, 117, 114, 112, 111, 115, 101] :: r := ⟨_, rfl⟩
 rw [hr]
 refine ⟨by simp, ?_⟩
 simp [V6, nmT, Xel]
theorem Xse {x : Src} (h : x.wf) (q : List Tok) : Yc (x.purposes.flatMap (fun u : Purpose => Ya u.raw) ++ q).length ⟨x.issuers, x.units, x.schemas, x.rules, x.converts, []⟩ (x.purposes.flatMap (fun u : Purpose => Ya u.raw) ++ q) = Yc q.length ⟨x.issuers, x.units, x.schemas, x.rules, x.converts, x.purposes⟩ q := by
 obtain ⟨⟨f1, f2, f3, f4, f5, f6⟩, w1, w2, w3, w4, w5, w6⟩ := h
 exact Xdd (α := Purpose) (pr := fun u : Purpose => Ya u.raw) (put := fun s l => { s with purposes := s.purposes ++ l }) (cnt := fun s => s.purposes.length) (most := 8) (body := Qq) (fun s l => List.length_append) (fun s a l => by simp only [List.append_assoc, List.singleton_append]) (fun s => by simp only [List.append_nil]) (fun s a q => ⟨(Xju s a.raw q).1, by rw [(Xju s a.raw q).2, Xa2]⟩) x.purposes ⟨x.issuers, x.units, x.schemas, x.rules, x.converts, []⟩ q (fun a ha q => Xy0 (w6 a ha) q) (by simpa using f6)
theorem Yjf {x : Src} (h : x.wf) : Ze (Xb5 x.raw) = .ok x [] := by
 have e1 := Xyp h
 have e2 := X8e h
 have e3 := Xtt h
 have e4 := Yar h
 have e5 := Xsi h
 have e6 := Xse h []
 rw [List.append_nil, Vy] at e6
 have e : Xb5 x.raw = x.issuers.flatMap Yg ++ (x.units.flatMap (fun u => Z0 u.raw) ++ (x.schemas.flatMap (fun u => Yb u.raw) ++ (x.rules.flatMap (fun u => W7 u.raw) ++ (x.converts.flatMap (fun u => X4 u.raw) ++ x.purposes.flatMap fun u => Ya u.raw)))) := by
  simp only [Xb5, Src.raw, Wd, List.append_assoc]
 rw [Ze, e]
 exact (e1 _).trans ((e2 _).trans ((e3 _).trans ((e4 _).trans ((e5 _).trans e6))))
end Go.Sx
/- Well-formed definitions can be printed; their text is read as they are. No program. -/
namespace Go.Sx
open Go Go.Ab Go.Lx
theorem Zt {lo hi n : Int} : inB lo hi n = true ↔ Yz lo hi n := by simp [inB, Yz]
theorem Xwx {t : Term} (h : t.wf) : termOK t.raw = true := by
 cases t with
 | num n =>
  have h1 : Yz 0 1048576 n := h
  simp [termOK, Term.raw, Zt.2 h1]
 | path a b =>
  have h1 : nameB a = true := h.1
  have h2 : nameB b = true := h.2
  simp [termOK, Term.raw, pathOK, h1, h2]
theorem Yeb {f : From} (h : f.wf) : fromOK f.raw = true := by
 obtain ⟨a, b, c⟩ := f
 have h1 : nameB a = true := h.name
 have h2 : nameB b = true := h.kind
 cases c with
 | none => simp [fromOK, From.raw, h1, h2]
 | some x =>
  have h3 : nameB x.1 = true := h.of_.1
  have h4 : nameB x.2 = true := h.of_.2
  simp [fromOK, From.raw, h1, h2, pathOK, h3, h4]
theorem Ye9 {a : Atom} (h : a.wf) : atomOK a.raw = true := by simp [atomOK, Atom.raw, Zt.2 h.op, Xwx h.a, Xwx h.b]
theorem Yhj {a : SetT} (h : a.wf) : setOK a.raw = true := by
 have h1 : nameB a.path = true := h.path
 simp [setOK, SetT.raw, h1, Xwx h.term]
theorem Yfj {a : Move} (h : a.wf) : moveOK a.raw = true := by
 have h1 : nameB a.to_ = true := h.to_
 have h2 : nameB a.from_ = true := h.from_
 simp [moveOK, Move.raw, h1, h2, Zt.2 h.shift]
theorem Ykv {a : Ref} (h : a.wf) : mayOK a.raw = true := by
 have h1 : nameB a.name = true := h.name
 have h2 : nameB a.path = true := h.path
 simp [mayOK, Ref.raw, h1, h2]
theorem Xb8 {α β : Type} {f : α → β} {b : β → Bool} {l : List α} {n : Nat} (hn : l.length ≤ n) (h : ∀ x ∈ l, b (f x) = true) : Y1 n b (l.map f) = true := by
 rw [Wu]
 refine ⟨by simpa using hn, fun y hy => ?_⟩
 obtain ⟨x, hx, rfl⟩ := List.mem_map.1 hy
 exact h x hx
theorem Xx8 {l : List B} {n : Nat} (h : Xd0 n l) : Y1 n nameB l = true ∧ 0 < l.length := by
 obtain ⟨h1, h2, h3⟩ := h
 refine ⟨Wu.2 ⟨h2, h3⟩, ?_⟩
 cases l with
 | nil => exact absurd rfl h1
 | cons a r => simp
theorem Yb4 {t : TypeT} (h : t.wf) : typeOK t.raw = true := by
 cases t with
 | num lo hi o =>
  obtain ⟨a, b, c⟩ := h
  cases o with
  | none => simp [typeOK, TypeT.raw, Zt.2 a, Zt.2 b]
  | some s =>
   have hs : nameB s = true := c
   simp [typeOK, TypeT.raw, Zt.2 a, Zt.2 b, hs]
 | date => simp [typeOK, TypeT.raw]
 | person => simp [typeOK, TypeT.raw]
 | choice l =>
  have := Xx8 h
  simp [typeOK, TypeT.raw, this.1, this.2]
theorem X8k {f : Field} (h : f.wf) : fieldOK f.raw = true := by
 obtain ⟨n, t, w⟩ := f
 have hn : nameB n = true := h.name
 have ht : typeOK t.raw = true := Yb4 h.type
 match w, h.four, h.weights with
 | [a, b, c, d], _, hw =>
  simp [fieldOK, Field.raw, hn, ht, Y1, Zt.2 (hw a (by simp)), Zt.2 (hw b (by simp)), Zt.2 (hw c (by simp)), Zt.2 (hw d (by simp))]
theorem X2m {d : Depend} (h : d.wf) : dependOK d.raw = true := by
 have hn : nameB d.name = true := h.name
 have := Xx8 h.names
 simp [dependOK, Depend.raw, hn, this.1, this.2]
theorem Yfx {u : UnitT} (h : u.wf) : unitOK u.raw = true := by
 obtain ⟨n, o⟩ := u
 have hn : nameB n = true := h.name
 cases o with
 | none => simp [unitOK, UnitT.raw, hn]
 | some x =>
  have h1 : x.2 ≠ [] := Xcx h.of_.2
  have h2 : nameB x.2 = true := h.of_.2
  simp [unitOK, UnitT.raw, hn, h1, h2, Zt.2 h.of_.1]
theorem X2g {s : Schema} (h : s.wf) : schemaOK s.raw = true := by
 obtain ⟨h1, h2, h3, ⟨w, r, h4⟩, h5, h6, h7, h8⟩ := h
 have a1 : nameB s.name = true := h1
 have a2 : nameB s.by_ = true := h2
 have a3 : Y1 12 fieldOK (s.fields.map Field.raw) = true := Xb8 h5 fun x hx => X8k (h6 x hx)
 have a4 : Y1 8 dependOK (s.depends.map Depend.raw) = true := Xb8 h7 fun x hx => X2m (h8 x hx)
 have a5 : Xeb (s.fields.map Field.raw) = true := by rw [h4]; simp [Xeb, Field.raw, TypeT.raw]
 simp only [schemaOK, Schema.raw, a1, a2, Zt.2 h3, a3, a4, a5, Bool.and_self]
theorem Ygc {s : Rule} (h : s.wf) : ruleOK s.raw = true := by
 obtain ⟨h1, h2, h3, h4, h5, h6, h7, h8⟩ := h
 have a1 : nameB s.head = true := h1
 have a2 : Y1 3 fromOK (s.froms.map From.raw) = true := Xb8 h3 fun x hx => Yeb (h4 x hx)
 have a3 : Y1 8 atomOK (s.wheres.map Atom.raw) = true := Xb8 h5 fun x hx => Ye9 (h6 x hx)
 have a4 : Y1 11 setOK (s.sets.map SetT.raw) = true := Xb8 h7 fun x hx => Yhj (h8 x hx)
 have a5 : 0 < (s.froms.map From.raw).length := by
  cases hf : s.froms with
  | nil => exact absurd hf h2
  | cons a r => simp
 simp only [ruleOK, Rule.raw, a1, a2, a3, a4, a5, decide_true, Bool.and_self]
theorem Xwb {s : Convert} (h : s.wf) : convertOK s.raw = true := by
 obtain ⟨h1, h2, h3, h4⟩ := h
 have a1 : nameB s.from_ = true := h1
 have a2 : nameB s.to_ = true := h2
 have a3 : Y1 11 moveOK (s.moves.map Move.raw) = true := Xb8 h3 fun x hx => Yfj (h4 x hx)
 simp only [convertOK, Convert.raw, a1, a2, a3, Bool.and_self]
theorem Xuk {s : Purpose} (h : s.wf) : purposeOK s.raw = true := by
 obtain ⟨h1, h2, h3, h4⟩ := h
 have a1 : nameB s.name = true := h1
 have a3 : Y1 32 mayOK (s.may.map Ref.raw) = true := Xb8 h2 fun x hx => Ykv (h3 x hx)
 simp only [purposeOK, Purpose.raw, a1, a3, Zt.2 h4, Bool.and_self]
theorem Xiu {x : Src} (h : x.wf) : printable x.raw = true := by
 obtain ⟨hf, w1, w2, w3, w4, w5, w6⟩ := h
 have a1 : Y1 8 nameB x.issuers = true := Wu.2 ⟨hf.issuers, w1⟩
 have a2 : Y1 16 unitOK (x.units.map UnitT.raw) = true := Xb8 hf.units fun y hy => Yfx (w2 y hy)
 have a3 : Y1 16 schemaOK (x.schemas.map Schema.raw) = true := Xb8 hf.schemas fun y hy => X2g (w3 y hy)
 have a4 : Y1 16 ruleOK (x.rules.map Rule.raw) = true := Xb8 hf.rules fun y hy => Ygc (w4 y hy)
 have a5 : Y1 16 convertOK (x.converts.map Convert.raw) = true := Xb8 hf.converts fun y hy => Xwb (w5 y hy)
 have a6 : Y1 8 purposeOK (x.purposes.map Purpose.raw) = true := Xb8 hf.purposes fun y hy => Xuk (w6 y hy)
 simp only [printable, Src.raw, a1, a2, a3, a4, a5, a6, Bool.and_self]
theorem Wt {α β : Type} {f : α → β} {g : β → β} (h : ∀ x, g (f x) = f x) (l : List α) : (l.map f).map g = l.map f := by
 rw [List.map_map]; exact List.map_congr_left fun x _ => h x
theorem Xxx {t : Term} (h : t.wf) : t.raw.bare = t.raw := by
 cases t with
 | num n => rfl
 | path a b =>
  have h1 : a ≠ [] := Xcx h.1
  simp [Term.raw, RTerm.bare, h1]
theorem Xdn {α β : Type} {f : α → β} {g : β → β} {l : List α} (h : ∀ x ∈ l, g (f x) = f x) : (l.map f).map g = l.map f := by
 rw [List.map_map]; exact List.map_congr_left h
theorem Yfn (f : From) : f.raw.bare = f.raw := by
 obtain ⟨a, b, c⟩ := f
 cases c <;> rfl
theorem Yem {a : Atom} (h : a.wf) : a.raw.bare = a.raw := by simp [Atom.raw, RAtom.bare, Xxx h.a, Xxx h.b]
theorem Yj8 {a : SetT} (h : a.wf) : a.raw.bare = a.raw := by simp [SetT.raw, RSet.bare, Xxx h.term]
theorem Yga (u : UnitT) : u.raw.bare = u.raw := by obtain ⟨n, o⟩ := u; cases o <;> rfl
theorem X7i (f : Field) : f.raw.bare = f.raw := by obtain ⟨n, t, w⟩ := f; cases t <;> rfl
theorem X8r {x : Src} (h : x.wf) : x.raw.bare = x.raw := by
 obtain ⟨hf, w1, w2, w3, w4, w5, w6⟩ := h
 have a2 : (x.units.map UnitT.raw).map RUnit.bare = x.units.map UnitT.raw := Wt Yga _
 have a3 : (x.schemas.map Schema.raw).map RSchema.bare = x.schemas.map Schema.raw := Wt (fun s => by
  have e1 : (s.fields.map Field.raw).map RField.bare = s.fields.map Field.raw := Wt X7i _
  have e2 : (s.depends.map Depend.raw).map RDepend.bare = s.depends.map Depend.raw := Wt (f := Depend.raw) (g := RDepend.bare) (fun _ => rfl) _
  simp only [Schema.raw, RSchema.bare, e1, e2]) _
 have a4 : (x.rules.map Rule.raw).map RRule.bare = x.rules.map Rule.raw := Xdn fun r hr => by
  have e1 : (r.froms.map From.raw).map RFrom.bare = r.froms.map From.raw := Wt Yfn _
  have e2 : (r.wheres.map Atom.raw).map RAtom.bare = r.wheres.map Atom.raw := Xdn fun a ha => Yem ((w4 r hr).wheres a ha)
  have e3 : (r.sets.map SetT.raw).map RSet.bare = r.sets.map SetT.raw := Xdn fun a ha => Yj8 ((w4 r hr).sets a ha)
  simp only [Rule.raw, RRule.bare, e1, e2, e3]
 have a5 : (x.converts.map Convert.raw).map RConvert.bare = x.converts.map Convert.raw := Wt (fun c => by
  have e1 : (c.moves.map Move.raw).map RMove.bare = c.moves.map Move.raw := Wt (f := Move.raw) (g := RMove.bare) (fun _ => rfl) _
  simp only [Convert.raw, RConvert.bare, e1]) _
 have a6 : (x.purposes.map Purpose.raw).map RPurpose.bare = x.purposes.map Purpose.raw := Wt (fun c => by
  have e1 : (c.may.map Ref.raw).map RRef.bare = c.may.map Ref.raw := Wt (f := Ref.raw) (g := RRef.bare) (fun _ => rfl) _
  simp only [Purpose.raw, RPurpose.bare, e1]) _
 simp only [Src.raw, RSrc.bare, a2, a3, a4, a5, a6]
def Vd (l : List Tok) : Prop := ∀ t ∈ l, validB t = true
theorem Vd.nil : Vd [] := fun _ h => by cases h
theorem Vd.cons {t : Tok} {l : List Tok} (h : validB t = true) (h' : Vd l) : Vd (t :: l) := fun u hu => by
 rcases List.mem_cons.1 hu with rfl | hu
 ·exact h
 ·exact h' u hu
theorem Vd.app {a b : List Tok} (h : Vd a) (h' : Vd b) : Vd (a ++ b) := fun u hu => by
 rcases List.mem_append.1 hu with hu | hu
 ·exact h u hu
 ·exact h' u hu
theorem Vd.flat {α : Type} {f : α → List Tok} {l : List α} (h : ∀ x ∈ l, Vd (f x)) : Vd (l.flatMap f) := fun u hu => by
 obtain ⟨x, hx, hu⟩ := List.mem_flatMap.1 hu
 exact h x hx u hu
theorem Q2 {s : B} (h : nm s) : validB (nmT s) = true := by
 have : nameB s = true := h
 simp [validB, nmT, this]
theorem Xh3 {lo hi n : Int} (h : Yz lo hi n) (h0 : 0 ≤ lo) (h1 : hi ≤ 1099511627776) : validB (nuT n) = true := by
 unfold Yz at h
 have h2 : 0 ≤ n := by omega
 have h3 : n ≤ 1099511627776 := by omega
 simp [validB, nuT, h2, h3]
theorem Xk5 {t : Term} (h : t.wf) : Vd (Z8 t.raw) := by
 cases t with
 | num n =>
  have h1 : Yz 0 1048576 n := h
  simp only [Z8, Term.raw, if_true]
  exact .cons (Xh3 h1 (by decide) (by decide)) .nil
 | path a b =>
  have h1 : a ≠ [] := Xcx h.1
  simp only [Z8, Term.raw, h1, if_false]
  exact .cons (Q2 h.1) (.cons (by decide) (.cons (Q2 h.2) .nil))
theorem Xgx : ∀ {l : List B}, (∀ s ∈ l, nm s) → Vd (Vt l)
 | [], _ => .nil
 | [a], h => .cons (Q2 (h a (by simp))) .nil
 | a :: b :: r, h => .cons (Q2 (h a (by simp))) (.cons (by decide) (Xgx fun s hs => h s (by simp at hs ⊢; exact .inr hs)))
theorem X63 {t : TypeT} (h : t.wf) : Vd (Ut t.raw) := by
 cases t with
 | num lo hi o =>
  obtain ⟨a, b, c⟩ := h
  cases o with
  | none =>
   simp [Ut, TypeT.raw]
   exact .cons (by decide) (.cons (Xh3 a (by decide) (by decide)) (.cons (by decide) (.cons (Xh3 b (by decide) (by decide)) .nil)))
  | some s =>
   have h1 : s ≠ [] := Xcx c
   simp [Ut, TypeT.raw, h1]
   exact .cons (by decide) (.cons (Xh3 a (by decide) (by decide)) (.cons (by decide) (.cons (Xh3 b (by decide) (by decide)) (.cons (by decide) (.cons (Q2 c) .nil)))))
 | date => exact .cons (by decide) .nil
 | person => exact .cons (by decide) .nil
 | choice l => exact .cons (by decide) (Xgx h.2.2)
theorem X1g {f : Field} (h : f.wf) : Vd (fieldT f.raw) := by
 obtain ⟨n, t, w⟩ := f
 match w, h.four, h.weights with
 | [a, b, c, d], _, hw =>
  exact .app (.app (.cons (by decide) (.cons (Q2 h.name) (.cons (by decide) .nil))) (X63 h.type)) (.cons (Xh3 (hw a (by simp)) (by decide) (by decide)) (.cons (Xh3 (hw b (by simp)) (by decide) (by decide)) (.cons (Xh3 (hw c (by simp)) (by decide) (by decide)) (.cons (Xh3 (hw d (by simp)) (by decide) (by decide)) (.cons (by decide) .nil)))))
theorem Xw6 {d : Depend} (h : d.wf) : Vd (Yw d.raw) := .app (.cons (by decide) (Xgx h.names.2.2)) (.cons (by decide) (.cons (Q2 h.name) (.cons (by decide) .nil)))
theorem Ykt (o : Int) : Vd (opT o) := by
 unfold opT
 (repeat' split)
 ·exact .cons (by decide) .nil
 ·exact .cons (by decide) .nil
 ·exact .cons (by decide) (.cons (by decide) .nil)
 ·exact .cons (by decide) (.cons (by decide) .nil)
 ·exact .nil
theorem X8i {f : From} (h : f.wf) : Vd (Wj f.raw) := by
 obtain ⟨a, b, c⟩ := f
 cases c with
 | none =>
  simp [Wj, From.raw]
  exact .cons (by decide) (.cons (Q2 h.name) (.cons (Q2 h.kind) (.cons (by decide) .nil)))
 | some x =>
  have h1 : x.1 ≠ [] := Xcx h.of_.1
  simp [Wj, From.raw, h1, Z8]
  exact .cons (by decide) (.cons (Q2 h.name) (.cons (Q2 h.kind) (.cons (by decide) (.cons (Q2 h.of_.1) (.cons (by decide) (.cons (Q2 h.of_.2) (.cons (by decide) .nil)))))))
theorem X8g {m : Move} (h : m.wf) : Vd (Wm m.raw) := by
 obtain ⟨a, b, n⟩ := m
 have hn := h.shift
 unfold Yz at hn
 simp only at hn
 by_cases h1 : 0 < n
 ·simp [Wm, Move.raw, h1]
  exact .cons (Q2 h.to_) (.cons (by decide) (.cons (Q2 h.from_) (.cons (by decide) (.cons (Xh3 (lo := 0) (hi := 1048576) ⟨by omega, by omega⟩ (by decide) (by decide)) (.cons (by decide) .nil)))))
 by_cases h2 : n < 0
 ·simp [Wm, Move.raw, h1, h2]
  exact .cons (Q2 h.to_) (.cons (by decide) (.cons (Q2 h.from_) (.cons (by decide) (.cons (Xh3 (lo := 0) (hi := 1048576) ⟨by omega, by omega⟩ (by decide) (by decide)) (.cons (by decide) .nil)))))
 ·simp [Wm, Move.raw, h1, h2]
  exact .cons (Q2 h.to_) (.cons (by decide) (.cons (Q2 h.from_) (.cons (by decide) .nil)))
theorem Xwd {s : Schema} (h : s.wf) : Vd (Yb s.raw) := by
 obtain ⟨h1, h2, h3, ⟨w, r, h4⟩, h5, h6, h7, h8⟩ := h
 have hs := h6 ⟨[115, 101, 108, 102], .person, w⟩ (by rw [h4]; simp)
 match w, hs.four, hs.weights, h4 with
 | [w1, w2, w3, w4], _, hw, h4 =>
  have e1 : Xq0 (s.fields.map Field.raw) = [nuT w1, nuT w2, nuT w3, nuT w4] := by rw [h4]; rfl
  have e2 : (s.fields.map Field.raw).tail = r.map Field.raw := by rw [h4]; rfl
  simp only [Yb, Schema.raw, e1, e2, Wd]
  refine .app (.app (.app (.app (.app ?_ ?_) (.cons (by decide) .nil)) (.flat fun f hf => X1g (h6 f (by rw [h4]; simp [hf])))) (.flat fun d hd => Xw6 (h8 d hd))) (.cons (by decide) .nil)
  ·exact .cons (by decide) (.cons (Q2 h1) (.cons (by decide) (.cons (Q2 h2) (.cons (by decide) (.cons (Xh3 h3 (by decide) (by decide)) (.cons (by decide) .nil))))))
  ·exact .cons (Xh3 (hw w1 (by simp)) (by decide) (by decide)) (.cons (Xh3 (hw w2 (by simp)) (by decide) (by decide)) (.cons (Xh3 (hw w3 (by simp)) (by decide) (by decide)) (.cons (Xh3 (hw w4 (by simp)) (by decide) (by decide)) .nil)))
theorem X4q {x : Src} (h : x.wf) : Vd (Xb5 x.raw) := by
 obtain ⟨hf, w1, w2, w3, w4, w5, w6⟩ := h
 simp only [Xb5, Src.raw, Wd]
 refine .app (.app (.app (.app (.app (.flat fun s hs => ?_) (.flat fun u hu => ?_)) (.flat fun s hs => Xwd (w3 s hs))) (.flat fun r hr => ?_)) (.flat fun c hc => ?_)) (.flat fun u hu => ?_)
 ·exact .cons (by decide) (.cons (Q2 (w1 s hs)) (.cons (by decide) .nil))
 ·obtain ⟨n, o⟩ := u
  have hw := w2 _ hu
  cases o with
  | none =>
   simp [Z0, UnitT.raw]
   exact .cons (by decide) (.cons (Q2 hw.name) (.cons (by decide) .nil))
  | some y =>
   have h1 : y.2 ≠ [] := Xcx hw.of_.2
   simp [Z0, UnitT.raw, h1]
   exact .cons (by decide) (.cons (Q2 hw.name) (.cons (by decide) (.cons (Xh3 hw.of_.1 (by decide) (by decide)) (.cons (Q2 hw.of_.2) (.cons (by decide) .nil)))))
 ·have hw := w4 r hr
  simp only [W7, Rule.raw, Wd]
  refine .app (.app (.app (.app (.cons (by decide) (.cons (Q2 hw.head) (.cons (by decide) .nil))) (.flat fun f hf => X8i (hw.froms f hf))) (.flat fun a ha => ?_)) (.flat fun s hs => ?_)) (.cons (by decide) .nil)
  ·have ha' := hw.wheres a ha
   exact .app (.app (.app (.cons (by decide) (Xk5 ha'.a)) (Ykt _)) (Xk5 ha'.b)) (.cons (by decide) .nil)
  ·have hs' := hw.sets s hs
   exact .app (.app (.cons (by decide) (.cons (Q2 hs'.path) (.cons (by decide) .nil))) (Xk5 hs'.term)) (.cons (by decide) .nil)
 ·have hw := w5 c hc
  simp only [X4, Convert.raw, Wd]
  exact .app (.app (.cons (by decide) (.cons (Q2 hw.from_) (.cons (by decide) (.cons (Q2 hw.to_) (.cons (by decide) .nil))))) (.flat fun m hm => X8g (hw.moves m hm))) (.cons (by decide) .nil)
 ·have hw := w6 u hu
  simp only [Ya, Purpose.raw, Wd]
  refine .app (.app (.cons (by decide) (.cons (Q2 hw.name) (.cons (by decide) .nil))) (.flat fun m hm => ?_)) (.cons (by decide) (.cons (Xh3 hw.most (by decide) (by decide)) (.cons (by decide) (.cons (by decide) .nil))))
  have hm' := hw.may m hm
  exact .cons (by decide) (.cons (Q2 hm'.name) (.cons (by decide) (.cons (Q2 hm'.path) (.cons (by decide) .nil))))
def at0 (t : Tok) : Tok := { t with at_ := 0 }
theorem X5j : Mv at0 := fun _ => ⟨rfl, rfl, rfl⟩
theorem Xqq : ∀ {l m : List Tok}, Xf1 l m = true → l.map at0 = m.map at0
 | [], [], _ => rfl
 | [], _ :: _, h => by simp [Xf1] at h
 | _ :: _, [], h => by simp [Xf1] at h
 | s :: l, t :: m, h => by
  simp only [Xf1, Bool.and_eq_true] at h
  have h2 := Xqq h.2
  have h1 : at0 s = at0 t := by
   have := h.1
   simp [X2s] at this
   obtain ⟨k, tx, n, a⟩ := s
   obtain ⟨k', tx', n', a'⟩ := t
   simp [at0] at this ⊢
   simp_all
  rw [List.map_cons, List.map_cons, h1, h2]
theorem Xr6 {l m : List Tok} {x : Src} (hs : Xf1 l m = true) (h : Ze l = .ok x []) : Ze m = .ok x [] := by
 have e := Xqq hs
 have hl : l.length = m.length := by have := congrArg List.length e; simpa using this
 have h1 := (W1 l.length X1u).mv at0 X5j l
 have h2 := (W1 l.length X1u).mv at0 X5j m
 rw [e] at h1
 rw [h1] at h2
 unfold Ze at h ⊢
 rw [← hl]
 rw [h] at h2
 simp only [R.map, List.map_nil] at h2
 cases hm : Yc l.length X1u m with
 | ok y r =>
  rw [hm] at h2
  simp only [R.map, R.ok.injEq] at h2
  obtain ⟨rfl, hr⟩ := h2
  have : r = [] := by simpa using hr.symm
  rw [this]
 | err r e => rw [hm] at h2; simp [R.map] at h2
theorem Yc1 {x : Src} (h : x.wf) : ∃ m, Vr (Ym (Xb5 x.raw)) 0 = .ok m ∧ Ze m = .ok x [] := by
 obtain ⟨m, h1, h2⟩ := Xfb (Xb5 x.raw) 0 (X4q h)
 exact ⟨m, h1, Xr6 h2 (Yjf h)⟩
end Go.Sx
/- The abstract statements that stand for the code of these functions, written by a program from the translation; that they do is checked by the kernel. No condition. -/
namespace Go.Proofs.YtanpgmgkmfckaaaGreatDoor
open Go Go.Ab
set_option maxRecDepth 100000
def n5 : Nat := 0x48002046e2c0de178b01bb6b0802e138b01e2c200dbd0f8b02e2c08b381078f43046041078f48046041078f40e2c000dbd003b77b0b0c0dbd280036f75b00020000f43b74b0f0f3b18706d1e34000200a2060c4cac031b00c2c2065030c30c30c6005789b82b6c1c1b6c1c0b6cc65becb9ebac049386bde2800020c8002040b837810000acb0402c1830eb06e988a89026f699c22ce026f6804e3809bd0c1181026f430460409bd940901ba22000ed8cc0c08bd1c0022f610000ed80c0c485e34c2ca2481c61440c20403400820071840c47c07877816c701b7e575c79c04d38304675f1c00020c800205a0de65808b3800c30c30c31802830460440000971005c40c3003b563031577820000820051030d50140130c65030c30c30c6005784b824070501c041495245e44124e01278a00008320008106e0de0400023c400f002001f40f43b4e3c335870039e0c000208320008102e0de04000230400c0022c900832c08000208000102e0de040002
def ir5 : S := zS [] n5
theorem ok5 : X0 Tryz.prog 5 1 ir5 [.t 2] = true := by kernel_rfl
end Go.Proofs.YtanpgmgkmfckaaaGreatDoor
/- The same statements with their regions folded into expressions, printed by the fold itself; that they are that is checked by the kernel. No condition. -/
namespace Go.Proofs.YtanpgmgkmfckaaaGreatDoor
open Go Go.Ab
set_option maxRecDepth 100000
def lt5 : S2 := zL [] [] n5
def Et5 := by
 have h := Eq.refl lt5
 conv at h => rhs; cbv
 exact h
theorem lf5 : ir5.lift [] = some lt5 := by kernel_rfl
end Go.Proofs.YtanpgmgkmfckaaaGreatDoor
/- The law SyntaxAgain. Condition: the program is the seat's; its package variables are laid. -/
namespace Go.Sx
open Go Go.Ab Go.Lx
def Xqf : RSrc := ⟨[], [], [], [], [], []⟩
theorem zero_le : D.le Vn Xqf.enc := D.le.agg (.cons (D.le.nil _) (.cons (D.le.nil _) (.cons (D.le.nil _) (.cons (D.le.nil _) (.cons (D.le.nil _) (.cons (D.le.nil _) .nil))))))
theorem Xrs : Xqf.small := ⟨by simp [Xqf], by simp [Xqf], by simp [Xqf], by simp [Xqf], by simp [Xqf], by simp [Xqf], by simp [Xqf], by simp [Xqf], by simp [Xqf], by simp [Xqf]⟩
theorem X15 {x : Src} (h : x.wf) : Xev x.raw = .tup [.d (.str (Ym (Xb5 x.raw))), .d (.int .i64 0)] := by
 have hv : (Xb5 x.raw).all validB = true := by rw [List.all_eq_true]; exact X4q h
 simp [Xev, Xiu h, Xd5, hv]
theorem Xk8 {x : Src} (h : x.wf) (hl : (Ym (Xb5 x.raw)).length ≤ 65536) : Q0 (Ym (Xb5 x.raw)) = .tup [.d x.enc, .d (.int .i64 0), .d (.int .i64 0)] := by
 obtain ⟨m, h1, h2⟩ := Yc1 h
 rw [Q0, if_neg (by omega), h1]
 simp only [h2]
 rfl
end Go.Sx
namespace Go.Proofs.YtanpgmgkmfckaaaGreatDoor
open Go Go.Ab Go.Lx Go.Sx
set_option maxRecDepth 100000
set_option maxHeartbeats 1000000
section
variable {P : Prg} (hP : P.p = Tryz.prog)
include hP
theorem Xk3 {ob : Objs} {K : V → Prop} (h : K (.d (.bool true))) : PCall P 11 [.d Vn, .d Vn] ob K :=
 PCall.le (xs := [Vn, Vn]) (ys := [Xqf.enc, Xqf.enc]) (.cons zero_le (.cons zero_le .nil)) (Xu2 hP Xrs h)
theorem Xmf {x : Src} (hx : x.wf) {y : RSrc} (hy : y.bare = x.raw) {ob : Objs} {K : V → Prop} (h : K (.d (.bool true))) : PCall P 11 [.d x.enc, .d y.bareD] ob K := by
 have hb := y.bare_le
 rw [hy] at hb
 exact PCall.le (xs := [x.enc, y.bareD]) (ys := [x.raw.enc, x.raw.enc]) (.cons (X28 hx) (.cons hb .nil)) (Xu2 hP (Xfs hx) h)
theorem X8w {x : Src} (hx : x.wf) {ob : Objs} {K : V → Prop} (h : K (.d x.raw.bareD)) : PCall P 14 [.d x.enc] ob K := by
 have hf := hx.few
 refine PCall.le (xs := [x.enc]) (ys := [x.raw.enc]) (.cons (X28 hx) .nil) (Xie hP x.raw ?_ ?_ ?_ ?_ ?_ ?_ ?_ ?_ ?_ h)
 ·have := hf.units; simp [Src.raw]; omega
 ·have := hf.schemas; simp [Src.raw]; omega
 ·have := hf.rules; simp [Src.raw]; omega
 ·have := hf.converts; simp [Src.raw]; omega
 ·have := hf.purposes; simp [Src.raw]; omega
 ·intro s hs
  simp only [Src.raw, List.mem_map] at hs
  obtain ⟨t, ht, rfl⟩ := hs
  have := hx.schemas t ht
  have h1 := this.few
  have h2 := this.less
  constructor <;> simp [Schema.raw] <;> omega
 ·intro s hs
  simp only [Src.raw, List.mem_map] at hs
  obtain ⟨t, ht, rfl⟩ := hs
  have := hx.rules t ht
  have h1 := this.few
  have h2 := this.less
  have h3 := this.least
  refine ⟨?_, ?_, ?_⟩ <;> simp [Rule.raw] <;> omega
 ·intro s hs
  simp only [Src.raw, List.mem_map] at hs
  obtain ⟨t, ht, rfl⟩ := hs
  have := (hx.converts t ht).few
  simp [Convert.raw]; omega
 ·intro s hs
  simp only [Src.raw, List.mem_map] at hs
  obtain ⟨t, ht, rfl⟩ := hs
  have := (hx.purposes t ht).few
  simp [Purpose.raw]; omega
variable (hI : Ivl P) (hG : Pow P)
include hI hG
theorem Xrw {x : Src} (hx : x.wf) {ob : Objs} {K : V → Prop} (h : K (.tup [.d (.str (Ym (Xb5 x.raw))), .d (.int .i64 0)])) : PCall P 13 [.d x.enc] ob K :=
 PCall.le (xs := [x.enc]) (ys := [x.raw.enc]) (.cons (X28 hx) .nil) (X6p hP hI hG x.raw (Xfs hx) (by rw [X15 hx]; exact h))
theorem p_SyntaxAgain (s : B) {ob : Objs} {K : V → Prop} (h : K (.d (.bool true))) : PCall P 5 [.d (.str s)] ob K := by
 refine pcall_lift hP mixed (ds := [.str s]) ok5 lf5 TOk.nil ?_
 simp [Et5]
 refine Ybs hP hI hG ?_
 simp
 refine ⟨fun _ => h, fun hsm => ?_⟩
 obtain ⟨d1, i1, e1, v1, s1, o1⟩ := Xof s (by omega)
 refine Xj7 hP hI s ?_
 rw [v1]
 rcases o1 with ⟨rfl, rfl, l1, x, hl1, hp1, rfl, wx⟩ | ⟨he1, rfl⟩
 ·obtain ⟨xs, hxs⟩ : ∃ xs, x.enc = D.agg xs := ⟨_, rfl⟩
  have c1 : ∀ {ob : Objs} {K : V → Prop}, K (.tup [.d (.str (Ym (Xb5 x.raw))), .d (.int .i64 0)]) → PCall P 13 [.d (.agg xs)] ob K := by rw [← hxs]; exact Xrw hP hI hG wx
  have c2 : ∀ {ob : Objs} {K : V → Prop}, K (.d x.raw.bareD) → PCall P 14 [.d (.agg xs)] ob K := by rw [← hxs]; exact X8w hP wx
  have c3 : ∀ {ob : Objs} {K : V → Prop}, K (.d (.bool true)) → PCall P 11 [.d (.agg xs), .d x.raw.bareD] ob K := by rw [← hxs]; exact Xmf hP wx (X8r wx)
  have c4 : ∀ {ob : Objs} {K : V → Prop}, K (.d (.bool true)) → PCall P 11 [.d (.agg xs), .d (.agg xs)] ob K := by rw [← hxs]; exact Xrx hP wx
  rw [hxs] at s1 ⊢
  have s2 : D.shapes xs = [.leaf, .leaf, .leaf, .leaf, .leaf, .leaf] := by simpa [D.shape] using s1
  simp [s2]
  refine c1 ?_
  simp [s2]
  refine c2 ?_
  try simp [s2]
  refine c3 ?_
  try simp [s2]
  refine Xj7 hP hI _ ?_
  by_cases hlen : (Ym (Xb5 x.raw)).length ≤ 65536
  ·rw [Xk8 wx hlen, hxs]
   have hlen' : ¬ (65536 : Int) < ((Ym (Xb5 x.raw)).length : Int) := by omega
   simp [s2, hlen']
   intro _
   refine c4 ?_
   simp
   exact h
  ·have hlen' : 65536 < (Ym (Xb5 x.raw)).length := by omega
   rw [Q0, if_pos hlen']
   have hlen2 : (65536 : Int) < ((Ym (Xb5 x.raw)).length : Int) := by omega
   simp [hlen2]
   exact h
 ·simp [he1]
  refine Xk3 hP ?_
  simp
  exact h
end
end Go.Proofs.YtanpgmgkmfckaaaGreatDoor
