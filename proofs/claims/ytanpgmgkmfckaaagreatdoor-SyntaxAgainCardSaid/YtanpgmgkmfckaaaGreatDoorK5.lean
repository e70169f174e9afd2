/- Texts of this claim joined by a program, part 5 of 9; the last is: Plain facts on runs of bytes. No program. -/
import Derived.Test.YtanpgmgkmfckaaaGreatDoorK4
import Derived.Test.YtanpgmgkmfckaaaGreatDoorProg
import Derived.KernelRfl
set_option linter.unusedSimpArgs false
set_option linter.unusedVariables false
set_option linter.unusedSectionVars false
set_option linter.defProp false
/- Contracts: classes of bytes and names, of the program and of the document. Condition: the program is the seat's. -/
namespace Go.Proofs.YtanpgmgkmfckaaaGreatDoor
open Go Go.Ab Go.Lx
theorem mixed : Tryz.prog.follows .mixedOrders = true := by kernel_rfl
set_option maxRecDepth 100000

def fnS (f : List UInt8 → Bool) : Ab.Fn := ⟨fun vs => match vs with | [.d (.str _)] => True | _ => False, fun vs => match vs with | [.d (.str s)] => .d (.bool (f s)) | _ => .any⟩
@[simp] theorem fnS_pre (f : List UInt8 → Bool) (s : List UInt8) : (fnS f).pre [.d (.str s)] = True := by simp only [fnS]
@[simp] theorem fnS_val (f : List UInt8 → Bool) (s : List UInt8) : (fnS f).val [.d (.str s)] = .d (.bool (f s)) := by simp only [fnS]
theorem Yf0 {P : Prg} {k : Nat} {f : List UInt8 → Bool} (h : ∀ s ob (K : V → Prop), K (.d (.bool (f s))) → PCall P k [.d (.str s)] ob K) : PFn P k (fnS f) := by
 intro vs hp ob K hK
 simp only [fnS] at hp hK
 split at hp
 ·exact h _ _ _ hK
 ·exact hp.elim

section
variable {P : Prg} (hP : P.p = Tryz.prog)
include hP
theorem c_Name : PFn P 100 (fnS nameB) := Yf0 fun s ob K h => by
 refine pcall_lift hP mixed (ds := [.str s]) Yc0 Yje TOk.nil ?_
 have h' : ∀ b, b = nameB s → K (.d (.bool b)) := fun b e => e ▸ h
 clear h
 simp [Yhw]
 refine ⟨fun hne => h' _ ?_, fun h0 h1 => ?_⟩
 ·rcases hne with rfl | h1
  ·simp [nameB]
  ·simp [nameB]; omega
 ·have h0' : 1 ≤ s.length := by cases s with | nil => exact absurd rfl h0 | cons => simp
  refine ALoop.go (ι := Nat) (fun k => [(0, .d (.str s)), (14, .d (.int .i64 s.length)), (15, .d (.int .i64 k))]) (fun _ => []) (fun k => k ≤ s.length ∧ (∀ i, i < k → Xiq (s.getD i 0).toNat = true) ∧ (0 < k → Wa (s.getD 0 0).toNat = true)) (fun k => s.length - k) 0 ⟨by omega, by omega, by omega⟩ (by simp) rfl ?_
  rintro k ⟨hk, hp, hl⟩ R rn re rr _
  simp [X24]
  simp only [List.getD_eq_getElem?_getD] at hp hl rn
  refine ⟨fun hlt => ⟨hlt, fun e1 e2 e3 => rr _ _ ?_, fun e => rn [] (k + 1) _ _ ⟨by omega, fun i hi => ?_, fun _ => ?_⟩ (by omega) ?_ rfl rfl rfl⟩, fun hge => re _ _ _ ?_⟩
  ·simp
   refine h' _ (Eq.symm ?_)
   rw [Bool.eq_false_iff]
   intro hn
   simp only [nameB, Bool.and_eq_true, Xsy, List.getD_eq_getElem?_getD] at hn
   have := hn.2 k hlt
   have h2 := hn.1.2
   rcases e3 with rfl | e3
   ·simp [Wa] at h2; omega
   ·simp [Xiq, Wa, Qy] at this; omega
  ·by_cases hi' : i = k
   ·subst hi'; simp [Xiq, Wa, Qy]; omega
   ·exact hp i (by omega)
  ·by_cases h2 : k = 0
   ·subst h2; simp [Wa]; omega
   ·exact hl (by omega)
  ·simp; exact IntWalk.i64_in _ (by omega)
  ·have hk' : k = s.length := by omega
   subst hk'
   simp
   refine h' _ (Eq.symm ?_)
   simp only [nameB, Bool.and_eq_true, Xsy, List.getD_eq_getElem?_getD]
   exact ⟨⟨by simp; omega, hl h0'⟩, hp⟩
end
end Go.Proofs.YtanpgmgkmfckaaaGreatDoor
/- Contracts: names, signs and numbers of the document. Condition: the program is the seat's. -/
namespace Go.Lx
open Go Go.Ab
def Vq : Int → List UInt8 → Option Int
 | n, [] => some n
 | n, c :: r => if 1099511627776 < 10 * n + (c.toNat - 48) then none else Vq (10 * n + (c.toNat - 48)) r
theorem Xq3 {s : List UInt8} {k : Nat} {n : Int} (h : k < s.length) : Vq n (s.drop k) = if 1099511627776 < 10 * n + ((s[k]?.getD 0).toNat - 48) then none else Vq (10 * n + ((s[k]?.getD 0).toNat - 48)) (s.drop (k + 1)) := by
 rw [List.drop_eq_getElem_cons h]
 simp [Vq, h]
end Go.Lx
namespace Go.Proofs.YtanpgmgkmfckaaaGreatDoor
open Go Go.Ab Go.Lx
set_option maxRecDepth 100000
section
variable {P : Prg} (hP : P.p = Tryz.prog)
include hP
end
end Go.Proofs.YtanpgmgkmfckaaaGreatDoor
/- Slices of tokens. No program. -/
namespace Go.Lx
open Go Go.Ab
def TD (a : D) (l : List Tok) : Prop := a = toks l ∨ a = .nils ∧ l = []
section
variable {a : D} {l : List Tok} (h : TD a l)
include h
theorem TD.len : Xef (.d a) = .d (.int .i64 l.length) := by rcases h with rfl | ⟨rfl, rfl⟩ <;> simp [toks]
theorem TD.lenS (ob : Objs) : Xft ob (.d a) = True := by rcases h with rfl | ⟨rfl, rfl⟩ <;> simp [toks]
theorem TD.idxS (k : IntKind) (i : Int) : Xsd 4 (.d a) (.d (.int k i)) = (0 ≤ i ∧ i < l.length) := by
 rcases h with rfl | ⟨rfl, rfl⟩
 ·simp [toks]
 ·simp [Xsd, Xc7]
theorem TD.idx {k : IntKind} {i : Nat} (hi : i < l.length) : Xsk (.d a) (.d (.int k i)) = .d (.ref (l[i]?.getD default).enc) := by
 rcases h with rfl | ⟨rfl, rfl⟩
 ·simp [toks, hi]
 ·simp at hi
end
def X2s (s t : Tok) : Bool := decide (s.kind = t.kind) && decide (s.text = t.text) && decide (s.n = t.n)
def Xf1 : List Tok → List Tok → Bool
 | [], [] => true
 | s :: l, t :: m => X2s s t && Xf1 l m
 | _, _ => false
end Go.Lx
/- The lexer as a plain function of bytes. No program. -/
namespace Go.Lx
open Go Go.Ab

def Zm (c : UInt8) : Bool := Wa c.toNat
def X1 (c : UInt8) : Bool := Qy c.toNat
def Um (c : UInt8) : Bool := Xd2 c.toNat
def Zl (c : UInt8) : Bool := Xiq c.toNat
def signB (c : UInt8) : Bool := signI c.toNat
def Vv (c : UInt8) : Bool := c != 10

inductive St where
 | skip (n : Nat)
 | tok (k : Int) (t : List UInt8) (m : Int) (n : Nat)
 | err

def Xam (t : List UInt8) : Option Int := match Vq 0 t with
 | none => none
 | some n => if t.length = 1 ∨ t.headD 0 ≠ 48 then some n else none

def stp (c : UInt8) (r : List UInt8) : St :=
 if Um c then .skip 0
 else if c = 47 ∧ r.head? = some 47 then .skip (r.takeWhile Vv).length
 else if Zm c then
  if (r.takeWhile Zl).length + 1 ≤ 32 then .tok 1 (c :: r.takeWhile Zl) 0 (r.takeWhile Zl).length else .err
 else if X1 c then
  match Xam (c :: r.takeWhile X1) with
  | some n => .tok 2 [] n (r.takeWhile X1).length
  | none => .err
 else if signB c then .tok 3 [c] 0 0 else .err

inductive Res where
 | ok (l : List Tok)
 | err (at_ : Nat)

def X0g (t : Tok) : Res → Res
 | .ok l => .ok (t :: l)
 | .err e => .err e
def X0a (l : List Tok) : Res → Res
 | .ok l' => .ok (l ++ l')
 | .err e => .err e

def Vr : List UInt8 → Nat → Res
 | [], _ => .ok []
 | c :: r, off => match stp c r with
  | .skip n => Vr (r.drop n) (off + n + 1)
  | .tok k t m n => X0g ⟨k, t, m, off⟩ (Vr (r.drop n) (off + n + 1))
  | .err => .err off
termination_by l => l.length
decreasing_by all_goals (simp only [List.length_drop, List.length_cons]; omega)

def Yhb : Res → V
 | .ok l => .tup [.d (toks l), .d (.int .i64 0), .d (.int .i64 0)]
 | .err e => .tup [.d .nils, .d (.int .i64 e), .d (.int .i64 90)]
def X5l (s : List UInt8) : V := if s.length > 65536 then .tup [.d .nils, .d (.int .i64 0), .d (.int .i64 2)] else Yhb (Vr s 0)

theorem X0u (r : Res) : X0a [] r = r := by cases r <;> rfl
theorem Xha (l : List Tok) (t : Tok) (r : Res) : X0a l (X0g t r) = X0a (l ++ [t]) r := by cases r <;> simp [X0a, X0g]

def tw (p : UInt8 → Bool) (s : List UInt8) (j : Nat) : Nat := ((s.drop j).takeWhile p).length
theorem Yiz {p : UInt8 → Bool} {s : List UInt8} {j : Nat} (h : s.length ≤ j) : tw p s j = 0 := by simp [tw, List.drop_of_length_le h]
theorem Xwh {p : UInt8 → Bool} {s : List UInt8} {j : Nat} (h : j < s.length) (hp : p (s[j]?.getD 0) = true) : tw p s j = tw p s (j + 1) + 1 := by
 simp [h] at hp
 unfold tw
 rw [List.drop_eq_getElem_cons h, List.takeWhile_cons, if_pos hp]; rfl
theorem Yi5 {p : UInt8 → Bool} {s : List UInt8} {j : Nat} (h : j < s.length) (hp : p (s[j]?.getD 0) = false) : tw p s j = 0 := by
 simp [h] at hp
 unfold tw
 rw [List.drop_eq_getElem_cons h, List.takeWhile_cons, hp]; rfl
theorem Xrt (p : UInt8 → Bool) (s : List UInt8) (j : Nat) (h : j ≤ s.length) : j + tw p s j ≤ s.length := by
 have := (List.takeWhile_sublist p (l := s.drop j)).length_le
 simp [tw] at this ⊢; omega
theorem Zf (p : UInt8 → Bool) : ∀ l : List UInt8, l.takeWhile p = l.take (l.takeWhile p).length
 | [] => rfl
 | c :: r => by
  simp only [List.takeWhile_cons]
  split
  ·simp; exact Zf p r
  ·rfl
theorem X4m {p : UInt8 → Bool} {x : UInt8} : ∀ {l : List UInt8}, x ∈ l.takeWhile p → p x = true
 | c :: r, h => by
  rw [List.takeWhile_cons] at h
  split at h
  ·rename_i hc
   rcases List.mem_cons.mp h with rfl | h
   ·exact hc
   ·exact X4m h
  ·cases h
theorem U2 {s : List UInt8} {i : Nat} (h : i < s.length) : s.drop i = (s[i]?.getD 0) :: s.drop (i + 1) := by
 rw [List.drop_eq_getElem_cons h]; simp [h]
theorem X9t (p : UInt8 → Bool) {s : List UInt8} {i : Nat} (h : i < s.length) (hp : p (s[i]?.getD 0) = true) :
  (s.take (i + tw p s i)).drop i = (s[i]?.getD 0) :: (s.drop (i + 1)).takeWhile p ∧ tw p s i = ((s.drop (i + 1)).takeWhile p).length + 1 := by
 have h1 : tw p s i = ((s.drop (i + 1)).takeWhile p).length + 1 := Xwh h hp
 refine ⟨?_, h1⟩
 rw [List.drop_take, Nat.add_sub_cancel_left, h1, U2 h, List.take_succ_cons, ← Zf]

theorem X07 {s : List UInt8} {i off : Nat} (h : s.length ≤ i) : Vr (s.drop i) off = .ok [] := by
 rw [List.drop_of_length_le h, Vr]
theorem X8x {s : List UInt8} {i : Nat} (h : i < s.length) : Vr (s.drop i) i = match stp (s[i]?.getD 0) (s.drop (i + 1)) with
  | .skip n => Vr (s.drop (i + n + 1)) (i + n + 1)
  | .tok k t m n => X0g ⟨k, t, m, i⟩ (Vr (s.drop (i + n + 1)) (i + n + 1))
  | .err => .err i := by
 rw [U2 h, Vr]
 cases stp (s[i]?.getD 0) (s.drop (i + 1)) with
 | err => rfl
 | skip n => simp only [List.drop_drop]; congr 2; omega
 | tok k t m n => simp only [List.drop_drop]; congr 3; omega
theorem Xi7 {s : List UInt8} {i : Nat} : (s.drop i).head? = s[i]? := by simp [List.head?_drop]
end Go.Lx
/- The parser of sources as plain functions of tokens. No program. -/
namespace Go.Sx
open Go Go.Ab Go.Lx
abbrev B := List UInt8
inductive R (α : Type) where
 | ok (a : α) (ts : List Tok)
 | err (ts : List Tok) (e : Int)
abbrev M (α : Type) := List Tok → R α
def M.bind {α β : Type} (m : M α) (f : α → M β) : M β := fun ts => match m ts with
 | .ok a ts' => f a ts'
 | .err ts' e => .err ts' e
def M.pure {α : Type} (a : α) : M α := fun ts => .ok a ts
instance : Monad M where
 pure := M.pure
 bind := M.bind
section
variable {α β : Type}
@[simp] theorem X69 (a : α) (ts : List Tok) : (pure a : M α) ts = .ok a ts := rfl
theorem Xe (m : M α) (f : α → M β) (ts : List Tok) : (m >>= f) ts = match m ts with
 | .ok a ts' => f a ts'
 | .err ts' e => .err ts' e := rfl
theorem Xx {γ : Type} (m : M α) (f : α → M β) (g : β → M γ) : ((m >>= f) >>= g) = (m >>= fun a => f a >>= g) := by
 funext ts
 simp only [Xe]
 cases m ts <;> rfl
theorem Ys (a : α) (f : α → M β) : ((pure a : M α) >>= f) = f a := rfl
def ifM (c : List Tok → Bool) (a b : M α) : M α := fun ts => if c ts then a ts else b ts
def fail (e : Int) : M α := fun ts => .err ts e
end
def Xj (k : Int) (t : B) : List Tok → Bool
 | [] => false
 | x :: _ => decide (x.kind = k) && (decide (t = []) || x.text == t)
def Jb (k : Int) (t : B) : M Tok := fun ts => if Xj k t ts then .ok (ts.headD default) ts.tail else .err ts 100
def X9 : M B := do let t ← Jb 1 []; pure t.text
def Yp (t : B) : M Unit := do let _ ← Jb 1 t; pure ()
def X2 (t : B) : M Unit := do let _ ← Jb 3 t; pure ()
def Xt (k : Int) (t : B) : M Bool := fun ts => if Xj k t ts then .ok true ts.tail else .ok false ts
def Xy (lo hi : Int) : M Int := fun ts => if Xj 2 [] ts && decide (lo ≤ (ts.headD default).n) && decide ((ts.headD default).n ≤ hi) then .ok (ts.headD default).n ts.tail else .err ts 100
theorem Xe0 {lo hi n : Int} {ts ts' : List Tok} (h : Xy lo hi ts = .ok n ts') : lo ≤ n ∧ n ≤ hi := by
 simp only [Xy] at h
 split at h
 ·rename_i hc
  simp only [Bool.and_eq_true, decide_eq_true_eq] at hc
  cases h
  exact ⟨hc.1.2, hc.2⟩
 ·cases h
def Zw (many most : Nat) : M Unit := fun ts => if many = most then .err ts 2 else .ok () ts
def Xs {α : Type} (begins : List Tok → Bool) (read : M α) : Nat → M (List α)
 | 0 => fun ts => if begins ts then .err ts 2 else .ok [] ts
 | n + 1 => fun ts => if begins ts then (do let a ← read; let l ← Xs begins read n; pure (a :: l) : M (List α)) ts else .ok [] ts

inductive Term where
 | num (n : Int)
 | path (a b : B)
structure From where
 name : B
 kind : B
 of_ : Option (B × B)
structure Atom where
 op : Int
 a : Term
 b : Term
structure SetT where
 path : B
 term : Term
structure Move where
 to_ : B
 from_ : B
 shift : Int
structure Ref where
 name : B
 path : B
inductive TypeT where
 | num (lo hi : Int) (of_ : Option B)
 | date
 | person
 | choice (l : List B)
structure Field where
 name : B
 type : TypeT
 weights : List Int
structure Depend where
 names : List B
 name : B
structure UnitT where
 name : B
 of_ : Option (Int × B)
structure Schema where
 name : B
 by_ : B
 version : Int
 fields : List Field
 depends : List Depend
structure Rule where
 head : B
 froms : List From
 wheres : List Atom
 sets : List SetT
structure Convert where
 from_ : B
 to_ : B
 moves : List Move
structure Purpose where
 name : B
 may : List Ref
 most : Int
structure Src where
 issuers : List B
 units : List UnitT
 schemas : List Schema
 rules : List Rule
 converts : List Convert
 purposes : List Purpose
abbrev iD (n : Int) : D := .int .i64 n
def Term.enc : Term → D
 | .num n => .agg [.str [], .str [], iD (-1), iD 0, iD n]
 | .path a b => .agg [.str a, .str b, iD 0, iD 0, iD 0]
def From.enc (f : From) : D := .agg [.str f.name, .str f.kind, iD 0, match f.of_ with | none => .agg [.str [], .str [], iD 0, iD 0, iD 0] | some x => .agg [.str x.1, .str x.2, iD 0, iD 0, iD 0]]
def Atom.enc (a : Atom) : D := .agg [iD a.op, a.a.enc, a.b.enc]
def SetT.enc (s : SetT) : D := .agg [.str s.path, iD 0, s.term.enc]
def Move.enc (m : Move) : D := .agg [.str m.to_, .str m.from_, iD 0, iD 0, iD m.shift]
def Ref.enc (r : Ref) : D := .agg [.str r.name, .str r.path, iD 0, iD 0]
def Xh (l : List B) : D := .list 1 (l.map .str)
def TypeT.enc : TypeT → D
 | .num lo hi of_ => .agg [iD 1, iD lo, iD hi, .str (of_.getD []), iD 0, .nils]
 | .date => .agg [iD 2, iD 0, iD 1023, .str [], iD 0, .nils]
 | .person => .agg [iD 3, iD 0, iD 4095, .str [], iD 0, .nils]
 | .choice l => .agg [iD 4, iD 0, iD (l.length - 1), .str [], iD 0, Xh l]
def Field.enc (f : Field) : D := .agg [.str f.name, f.type.enc, .agg (f.weights.map iD)]
def Depend.enc (d : Depend) : D := .agg [Xh d.names, .str d.name, .nils, iD 0]
def UnitT.enc (u : UnitT) : D := match u.of_ with
 | none => .agg [.str u.name, .str [], iD 0, iD 0, iD 0]
 | some x => .agg [.str u.name, .str x.2, iD x.1, iD 0, iD 0]
def Schema.enc (s : Schema) : D := .agg [.str s.name, .str s.by_, iD 0, iD s.version, .list 11 (s.fields.map Field.enc), .list 4 (s.depends.map Depend.enc)]
def Rule.enc (r : Rule) : D := .agg [.str r.head, iD 0, .list 8 (r.froms.map From.enc), .list 11 (r.wheres.map Atom.enc), .list 7 (r.sets.map SetT.enc)]
def Convert.enc (c : Convert) : D := .agg [.str c.from_, .str c.to_, iD 0, iD 0, .list 5 (c.moves.map Move.enc)]
def Purpose.enc (p : Purpose) : D := .agg [.str p.name, .list 4 (p.may.map Ref.enc), iD p.most]

def Xfw : M (B × B) := do let a ← X9; X2 [46]; let b ← X9; pure (a, b)
def U9 : M Term := fun ts => if Xj 2 [] ts then (do let n ← Xy 0 1048576; pure (.num n) : M Term) ts else (do let x ← Xfw; pure (.path x.1 x.2) : M Term) ts
def Ue : M From := do
 Yp [102, 114, 111, 109]
 let a ← X9
 let b ← X9
 let c ← Xt 1 [111, 102]
 if c then do let x ← Xfw; X2 [59]; pure ⟨a, b, some x⟩ else do X2 [59]; pure ⟨a, b, none⟩
def opM : M Int := do
 let b ← Xt 3 [61]
 if b then pure 1 else do
  let b ← Xt 3 [60]
  if b then do
   let b ← Xt 3 [61]
   pure (if b then 3 else 2)
  else do X2 [33]; X2 [61]; pure 4
def Us : M Atom := do
 Yp [119, 104, 101, 114, 101]
 let a ← U9
 let o ← opM
 let b ← U9
 X2 [59]
 pure ⟨o, a, b⟩
def Xsv : M SetT := do Yp [115, 101, 116]; let a ← X9; X2 [61]; let t ← U9; X2 [59]; pure ⟨a, t⟩
def Xbj : M Int := do
 let b ← Xt 3 [43]
 if b then Xy 0 1048576 else do
  let b ← Xt 3 [45]
  if b then do let n ← Xy 0 1048576; pure (-n) else pure 0
def J3 : M Move := do let a ← X9; X2 [61]; let b ← X9; let n ← Xbj; X2 [59]; pure ⟨a, b, n⟩
def Xst : M Ref := do Yp [109, 97, 121]; let x ← Xfw; X2 [59]; pure ⟨x.1, x.2⟩
def Xfa : Nat → M (List Int)
 | 0 => pure []
 | n + 1 => do let a ← Xy 0 9; let l ← Xfa n; pure (a :: l)
def Wz : M (List Int) := Xfa 4
def Vb (most : Nat) : M (List B) := do let a ← X9; let l ← Xs (Xj 3 [44]) (do X2 [44]; X9) (most - 1); pure (a :: l)
def Xb9 : M TypeT := do
 let b ← Xt 1 [110, 117, 109, 98, 101, 114]
 if b then do
  let lo ← Xy 0 1048576
  Yp [116, 111]
  let hi ← Xy 0 1048576
  let b ← Xt 1 [105, 110]
  if b then do let n ← X9; pure (.num lo hi (some n)) else pure (.num lo hi none)
 else do
  let b ← Xt 1 [100, 97, 116, 101]
  if b then pure .date else do
   let b ← Xt 1 [112, 101, 114, 115, 111, 110]
   if b then pure .person else do
    let b ← Xt 1 [99, 104, 111, 105, 99, 101]
    if b then do let l ← Vb 16; pure (.choice l) else fail 100
def Qb : M Field := do Yp [102, 105, 101, 108, 100]; let n ← X9; X2 [58]; let t ← Xb9; let w ← Wz; X2 [59]; pure ⟨n, t, w⟩
def U5 : M Depend := do Yp [100, 101, 112, 101, 110, 100]; let l ← Vb 11; Yp [103, 105, 118, 101]; let n ← X9; X2 [59]; pure ⟨l, n⟩

def U1 (s : Src) : M Src := do
 Zw s.issuers.length 8
 Yp [105, 115, 115, 117, 101, 114]
 let a ← X9
 X2 [59]
 pure { s with issuers := s.issuers ++ [a] }
def Xi1 (s : Src) : M Src := do
 Zw s.units.length 16
 Yp [117, 110, 105, 116]
 let a ← X9
 let b ← Xt 3 [61]
 if b then do
  let n ← Xy 2 1000
  let o ← X9
  X2 [59]
  pure { s with units := s.units ++ [⟨a, some (n, o)⟩] }
 else do
  X2 [59]
  pure { s with units := s.units ++ [⟨a, none⟩] }
def J5 : Nat → Schema → M Schema
 | 0, _ => fail 0
 | n + 1, s => do
  let b ← Xt 3 [125]
  if b then pure s else (ifM (Xj 1 [102, 105, 101, 108, 100]) (do Zw s.fields.length 12; let f ← Qb; J5 n { s with fields := s.fields ++ [f] }) (ifM (Xj 1 [100, 101, 112, 101, 110, 100]) (do Zw s.depends.length 8; let d ← U5; J5 n { s with depends := s.depends ++ [d] }) (fail 100)))
def Qd (s : Src) : M Src := do
 Zw s.schemas.length 16
 Yp [115, 99, 104, 101, 109, 97]
 let a ← X9
 Yp [98, 121]
 let b ← X9
 Yp [118, 101, 114, 115, 105, 111, 110]
 let v ← Xy 1 255
 Yp [115, 101, 108, 102]
 let w ← Wz
 X2 [123]
 let x ← J5 21 ⟨a, b, v, [⟨[115, 101, 108, 102], .person, w⟩], []⟩
 pure { s with schemas := s.schemas ++ [x] }
def Xij (s : Src) : M Src := do
 Zw s.rules.length 16
 Yp [100, 101, 114, 105, 118, 101]
 let a ← X9
 X2 [123]
 ifM (Xj 1 [102, 114, 111, 109]) (do
  let f ← Xs (Xj 1 [102, 114, 111, 109]) Ue 3
  let w ← Xs (Xj 1 [119, 104, 101, 114, 101]) Us 8
  let t ← Xs (Xj 1 [115, 101, 116]) Xsv 11
  X2 [125]
  pure { s with rules := s.rules ++ [⟨a, f, w, t⟩] }) (fail 100)
def Vk (s : Src) : M Src := do
 Zw s.converts.length 16
 Yp [99, 111, 110, 118, 101, 114, 116]
 let a ← X9
 Yp [116, 111]
 let b ← X9
 X2 [123]
 let l ← Xs (Xj 1 []) J3 11
 X2 [125]
 pure { s with converts := s.converts ++ [⟨a, b, l⟩] }
def Vl (s : Src) : M Src := do
 Zw s.purposes.length 8
 Yp [112, 117, 114, 112, 111, 115, 101]
 let a ← X9
 X2 [123]
 let l ← Xs (Xj 1 [109, 97, 121]) Xst 32
 Yp [109, 111, 115, 116]
 let n ← Xy 0 32
 X2 [59]
 X2 [125]
 pure { s with purposes := s.purposes ++ [⟨a, l, n⟩] }

def atI (en : Int) : List Tok → Int
 | [] => en
 | x :: _ => x.at_
def Xl8 (ts : List Tok) (e : Int) : Int := match ts with
 | [] => 100
 | _ => e
abbrev pv (ts : List Tok) (en : Int) (S : V) : V := .agg [.d (.list 4 (ts.map Tok.enc)), .d (.int .i64 en), S]
abbrev Qt (en : Int) (ts : List Tok) (e : Int) : D := .iface 60 (.agg [.int .i64 (atI en ts), .int .i64 (Xl8 ts e)])
abbrev pb (ts : List Tok) (en : Int) (S : V) : Ob := .box 66 (pv ts en S)
def PK {α : Type} (K : Out → Objs → Prop) (ob : Objs) (p : Nat) (en : Int) (S : V) (v : α → V) : R α → Prop
 | .ok a ts => K (.ret (v a)) (setO ob p (pb ts en S))
 | .err ts e => K (.panic (.d (Qt en ts e))) (setO ob p (pb ts en S))
section
variable {α β : Type} {K : Out → Objs → Prop} {ob : Objs} {p : Nat} {en : Int} {S : V} {v : α → V}
@[simp] theorem PK_ok (a : α) (ts : List Tok) : PK K ob p en S v (.ok a ts) = K (.ret (v a)) (setO ob p (pb ts en S)) := rfl
@[simp] theorem PK_err (e : Int) (ts : List Tok) : PK K ob p en S v (.err ts e) = K (.panic (.d (Qt en ts e))) (setO ob p (pb ts en S)) := rfl
theorem PK.bind {K' : Out → Objs → Prop} {ob1 : Objs} {v' : β → V} {m : M α} {f : α → M β} {ts : List Tok} (h : PK K ob p en S v' ((m >>= f) ts))
  (he : ∀ ts' e, K (.panic (.d (Qt en ts' e))) (setO ob p (pb ts' en S)) → K' (.panic (.d (Qt en ts' e))) (setO ob1 p (pb ts' en S)))
  (hk : ∀ a ts', m ts = .ok a ts' → PK K ob p en S v' (f a ts') → K' (.ret (v a)) (setO ob1 p (pb ts' en S))) : PK K' ob1 p en S v (m ts) := by
 rw [Xe] at h
 cases hm : m ts with
 | ok a ts' => rw [hm] at h; exact hk a ts' hm h
 | err ts' e => rw [hm] at h; exact he ts' e h
end
theorem PK.tail {α : Type} {K K' : Out → Objs → Prop} {ob ob1 : Objs} {p : Nat} {en : Int} {S : V} {v : α → V} {v' : α → V} {m : M α} {ts : List Tok} (h : PK K ob p en S v' (m ts))
  (he : ∀ ts' e, K (.panic (.d (Qt en ts' e))) (setO ob p (pb ts' en S)) → K' (.panic (.d (Qt en ts' e))) (setO ob1 p (pb ts' en S)))
  (hk : ∀ a ts', m ts = .ok a ts' → K (.ret (v' a)) (setO ob p (pb ts' en S)) → K' (.ret (v a)) (setO ob1 p (pb ts' en S))) : PK K' ob1 p en S v (m ts) := by
 cases hm : m ts with
 | ok a ts' => rw [hm] at h; exact hk a ts' hm h
 | err ts' e => rw [hm] at h; exact he ts' e h
theorem Y8 {q : Nat → Bool} : ∀ {ob : Objs} {k E : Nat} {v : V}, noMenO q ob = true → lookO ob k = some (.box E v) → V.men q v = false
 | (j, o) :: r, k, E, v, h, hl => by
  simp only [lookO] at hl
  split at hl
  ·cases hl
   simp only [noMenO, Bool.and_eq_true, Bool.not_eq_true'] at h
   exact h.1
  ·refine Y8 (ob := r) ?_ hl
   cases o <;> simp_all [noMenO]
theorem Yk : ∀ {ob : Objs} {k : Nat} {o : Ob}, lookO ob k = some o → setO ob k o = ob
 | (j, o') :: r, k, o, h => by
  simp only [lookO] at h
  simp only [setO]
  split
  ·rename_i e; simp [e] at h; subst h; rfl
  ·rename_i e; rw [Yk (by simpa [e] using h)]
@[simp] theorem succ_ne (n : Nat) : ((n : Int) + 1 = 0) = False := by simp; omega
@[simp] theorem one_le_succ (n : Nat) : (1 ≤ (n : Int) + 1) = True := by simp; omega
@[simp] theorem ex3 (a b n : Nat) (c : List D) : (∃ E z xs, (a = E ∧ b = z ∧ c = xs) ∧ n = xs.length) = (n = c.length) := by
 rw [eq_iff_iff]
 exact ⟨fun ⟨_, _, _, ⟨_, _, h3⟩, h4⟩ => h3 ▸ h4, fun h => ⟨_, _, _, ⟨rfl, rfl, rfl⟩, h⟩⟩
@[simp] theorem add11 (n : Nat) : n + 1 + 1 = n + 2 := rfl
@[simp] theorem add21 (n : Nat) : n + 2 + 1 = n + 3 := rfl
@[simp] theorem add31 (n : Nat) : n + 3 + 1 = n + 4 := rfl
@[simp] theorem add41 (n : Nat) : n + 4 + 1 = n + 5 := rfl
@[simp] theorem add51 (n : Nat) : n + 5 + 1 = n + 6 := rfl
@[simp] theorem add61 (n : Nat) : n + 6 + 1 = n + 7 := rfl
@[simp] theorem add71 (n : Nat) : n + 7 + 1 = n + 8 := rfl
@[simp] theorem add12 (n : Nat) : n + 1 + 2 = n + 3 := rfl
@[simp] theorem add22 (n : Nat) : n + 2 + 2 = n + 4 := rfl
theorem Y4 {ob : Objs} {k : Nat} {o : Ob} (h : lookO ob k = some o) : k < fresh ob := by
 rcases Nat.lt_or_ge k (fresh ob) with h1 | h1
 ·exact h1
 ·rw [Yn ob k h1] at h; cases h
theorem Xc {ob ob2 : Objs} {p : Nat} {ts ts' : List Tok} {en : Int} {S : V} (hp : lookO ob p = some (pb ts en S)) (hm : ∀ kp, noMenO (young (fresh ob) kp) ob = true) {K : Objs → Prop} {vs : List V} (h : K (setO ob p (pb ts' en S))) (hv : V.mens (young (fresh ob) []) vs = false) (hd : Zs (young (fresh ob) []) ob2 = setO ob p (pb ts' en S)) : Zp (fresh ob) K vs ob2 := by
 refine ⟨[], hv, ?_, ?_⟩
 ·rw [hd]
  refine noMenO_set_box _ _ _ _ _ (hm _) ?_
  have := Y8 (hm []) hp
  simpa [pv] using this
 ·rw [hd]; exact h
@[simp] theorem Term.enc_shape (t : Term) : t.enc.shape = .node [.leaf, .leaf, .leaf, .leaf, .leaf] := by cases t <;> simp [Term.enc, D.shape]
@[simp] theorem TypeT.enc_shape (t : TypeT) : t.enc.shape = .node [.leaf, .leaf, .leaf, .leaf, .leaf, .leaf] := by cases t <;> simp [TypeT.enc, Xh, D.shape]
theorem Xps : ∀ {n : Nat} {ts ts' : List Tok} {l : List Int}, Xfa n ts = .ok l ts' → l.length = n
 | 0, ts, ts', l, h => by cases h; rfl
 | n + 1, ts, ts', l, h => by
  simp only [Xfa, Xe] at h
  cases h1 : Xy 0 9 ts with
  | err a b => rw [h1] at h; cases h
  | ok a t1 =>
   rw [h1] at h
   cases h2 : Xfa n t1 with
   | err a b => simp only [h2] at h; cases h
   | ok l' t2 =>
    simp only [h2] at h
    cases h
    simp [Xps h2]
theorem Ux {ts ts' : List Tok} {l : List Int} (h : Wz ts = .ok l ts') : ∃ a b c d, l = [a, b, c, d] := by
 have := Xps h
 match l, this with
 | [a, b, c, d], _ => exact ⟨a, b, c, d, rfl⟩
theorem Xde {α : Type} {begins : List Tok → Bool} {read : M α} : ∀ {n : Nat} {ts ts' : List Tok} {l : List α}, Xs begins read n ts = .ok l ts' → l.length ≤ n
 | 0, ts, ts', l, h => by
  simp only [Xs] at h
  split at h
  ·cases h
  ·cases h; simp
 | n + 1, ts, ts', l, h => by
  simp only [Xs] at h
  split at h
  ·simp only [Xe] at h
   cases h1 : read ts with
   | err a b => rw [h1] at h; cases h
   | ok a t1 =>
    rw [h1] at h
    cases h2 : Xs begins read n t1 with
    | err a b => simp only [h2] at h; cases h
    | ok l' t2 =>
     simp only [h2] at h
     cases h
     have := Xde h2
     simpa using this
  ·cases h; simp
theorem Xkg {n : Nat} {ts ts' : List Tok} {l : List B} (h : Vb n ts = .ok l ts') : 1 ≤ l.length ∧ l.length ≤ n - 1 + 1 := by
 simp only [Vb, Xe] at h
 cases h1 : X9 ts with
 | err a b => rw [h1] at h; cases h
 | ok a t1 =>
  rw [h1] at h
  cases h2 : Xs (Xj 3 [44]) (do X2 [44]; X9) (n - 1) t1 with
  | err a b => simp only [h2] at h; cases h
  | ok l' t2 =>
   simp only [h2] at h
   cases h
   have := Xde h2
   simpa using this
@[simp] theorem From.enc_shape (f : From) : f.enc.shape = .node [.leaf, .leaf, .leaf, .node [.leaf, .leaf, .leaf, .leaf, .leaf]] := by
 obtain ⟨a, b, c⟩ := f
 cases c <;> simp [From.enc, D.shape]
@[simp] theorem Atom.enc_shape (f : Atom) : f.enc.shape = .node [.leaf, .node [.leaf, .leaf, .leaf, .leaf, .leaf], .node [.leaf, .leaf, .leaf, .leaf, .leaf]] := by simp [Atom.enc, D.shape]
@[simp] theorem SetT.enc_shape (f : SetT) : f.enc.shape = .node [.leaf, .leaf, .node [.leaf, .leaf, .leaf, .leaf, .leaf]] := by simp [SetT.enc, D.shape]
@[simp] theorem Move.enc_shape (f : Move) : f.enc.shape = .node [.leaf, .leaf, .leaf, .leaf, .leaf] := by simp [Move.enc, D.shape]
@[simp] theorem Ref.enc_shape (f : Ref) : f.enc.shape = .node [.leaf, .leaf, .leaf, .leaf] := by simp [Ref.enc, D.shape]
abbrev Yy (s : Src) : V := .agg [.sl 5 s.issuers.length, .sl 6 s.units.length, .sl 7 s.schemas.length, .sl 8 s.rules.length, .sl 9 s.converts.length, .sl 10 s.purposes.length]
abbrev Yk3 : Ob := .map [(.str [105, 115, 115, 117, 101, 114], .fn 19 [] []), (.str [117, 110, 105, 116], .fn 20 [] []), (.str [115, 99, 104, 101, 109, 97], .fn 21 [] []), (.str [100, 101, 114, 105, 118, 101], .fn 22 [] []), (.str [99, 111, 110, 118, 101, 114, 116], .fn 23 [] []), (.str [112, 117, 114, 112, 111, 115, 101], .fn 24 [] [])]
abbrev Vn : D := .agg [.nils, .nils, .nils, .nils, .nils, .nils]
abbrev stO (en : Int) (ts : List Tok) (s : Src) : Objs :=
 [(10, .arr 88 3 (s.purposes.map Purpose.enc)), (9, .arr 84 5 (s.converts.map Convert.enc)), (8, .arr 50 5 (s.rules.map Rule.enc)), (7, .arr 79 6 (s.schemas.map Schema.enc)), (6, .arr 74 5 (s.units.map UnitT.enc)), (5, .arr 9 1 (s.issuers.map D.str)),
  (4, pb ts en (Yy s)), (3, Yk3), (2, .box 31 (.d (.int .i64 0))), (1, .box 3 (.d (.int .i64 0))), (0, .box 30 (.d Vn))]
def PS (K : Out → Objs → Prop) (en : Int) : R Src → Prop
 | .ok s ts => K (.ret (.tup [])) (stO en ts s)
 | .err ts e => ∀ s, K (.panic (.d (Qt en ts e))) (stO en ts s)
theorem PS.bind {α : Type} {K K' : Out → Objs → Prop} {en : Int} {S : V} {ob1 : Objs} {v : α → V} {m : M α} {f : α → M Src} {ts : List Tok} (h : PS K en ((m >>= f) ts))
  (he : ∀ ts' e, (∀ s, K (.panic (.d (Qt en ts' e))) (stO en ts' s)) → K' (.panic (.d (Qt en ts' e))) (setO ob1 4 (pb ts' en S)))
  (hk : ∀ a ts', m ts = .ok a ts' → PS K en (f a ts') → K' (.ret (v a)) (setO ob1 4 (pb ts' en S))) : PK K' ob1 4 en S v (m ts) := by
 rw [Xe] at h
 cases hm : m ts with
 | ok a ts' => rw [hm] at h; exact hk a ts' hm h
 | err ts' e => rw [hm] at h; exact he ts' e h
theorem Xm {en : Int} {ts : List Tok} {s : Src} {K : Objs → Prop} {vs : List V} {ob2 : Objs} (h : K (stO en ts s)) (hv : V.mens (young 11 []) vs = false) (hd : Zs (young 11 []) ob2 = stO en ts s) : Zp 11 K vs ob2 := by
 refine ⟨[], hv, ?_, ?_⟩
 ·rw [hd]; simp [young, Qs]
 ·rw [hd]; exact h
structure Few (s : Src) : Prop where
 issuers : s.issuers.length ≤ 8
 units : s.units.length ≤ 16
 schemas : s.schemas.length ≤ 16
 rules : s.rules.length ≤ 16
 converts : s.converts.length ≤ 16
 purposes : s.purposes.length ≤ 8
end Go.Sx
/- Contracts: the parser's small readers. Condition: the program is the seat's. -/
namespace Go.Proofs.YtanpgmgkmfckaaaGreatDoor
open Go Go.Ab Go.Lx Go.Sx
set_option maxRecDepth 100000
section
variable {P : Prg} (hP : P.p = Tryz.prog) {ob : Objs} {p : Nat} {ts : List Tok} {en : Int} {S : V} (hS : V.allD [S] = none) (hp : lookO ob p = some (pb ts en S)) {K : Out → Objs → Prop}
include hP hS hp
theorem W4 (e : Int) (h : K (.panic (.d (Qt en ts e))) (setO ob p (pb ts en S))) : ACall P 25 [.ptr p [], .d (.int .i64 e)] ob K := by
 refine acall_lift hP mixed Yuv Yuy TOk.nil fun _ hm => ?_
 cases ts with
 | nil =>
  simp [Yng, hp]
  exact Xc hp hm (by simpa [Qt, atI, Xl8] using h) (by simp) (by simp [Yk hp])
 | cons t ts =>
  simp [Yng, X6q, hp, Tok.enc]
  exact Xc hp hm (by simpa [Qt, atI, Xl8] using h) (by simp) (by simp [Yk hp])
theorem Xab (k : Int) (t : B) (h : K (.ret (.d (.bool (Xj k t ts)))) (setO ob p (pb ts en S))) : ACall P 65 [.ptr p [], .d (.int .i64 k), .d (.str t)] ob K := by
 refine acall_lift hP mixed Yvs Ytj TOk.nil fun _ hm => ?_
 cases ts with
 | nil =>
  simp [Ypo, hp]
  exact Xc hp hm (by simpa [Xj] using h) (by simp) (by simp [Yk hp])
 | cons x ts =>
  simp [Ypo, hp, Tok.enc]
  exact Xc hp hm (by simpa [Xj] using h) (by simp) (by simp [Yk hp])
theorem Xpv (k : Int) (t : B) (h : PK K ob p en S (fun t => .d t.enc) (Jb k t ts)) : ACall P 133 [.ptr p [], .d (.int .i64 k), .d (.str t)] ob K := by
 refine acall_lift hP mixed Yl0 Ylr TOk.nil fun _ hm => ?_
 simp [Ylw, hp]
 refine Xab hP hS (ts := ts) (en := en) (S := S) (by simp [hp]) _ _ ?_
 simp [hp]
 refine ⟨fun hn => ?_, fun hn => ?_⟩
 ·simp [Jb, hn] at h
  refine W4 hP hS (ts := ts) (en := en) (S := S) (by simp [hp]) _ ?_
  simp [hp]
  exact Xc hp hm h (by simp) (by simp [hp])
 ·cases ts with
  | nil => simp [Xj] at hn
  | cons x ts =>
   simp [Jb, hn] at h
   simp [X0z, hp, hS, Tok.enc]
   exact Xc hp hm h (by simp) (by simp [hp])
theorem Zd (h : PK K ob p en S (fun t => .d (.str t)) (X9 ts)) : ACall P 60 [.ptr p []] ob K := by
 refine acall_lift hP mixed Yr1 Yss TOk.nil fun _ hm => ?_
 simp [Yv7, hp]
 refine Xpv hP hS hp _ _ ?_
 refine PK.bind h (fun ts' e h => ?_) (fun a ts' ha h => ?_)
 ·simp
  exact Xc hp hm h (by simp) (by simp [hp])
 ·simp [Tok.enc]
  exact Xc hp hm h (by simp) (by simp [hp])
theorem Zx (t : B) (h : PK K ob p en S (fun _ => .tup []) (Yp t ts)) : ACall P 59 [.ptr p [], .d (.str t)] ob K := by
 refine acall_lift hP mixed Ysp Yvx TOk.nil fun _ hm => ?_
 simp [Ytb, hp]
 refine Xpv hP hS hp _ _ ?_
 refine PK.bind h (fun ts' e h => ?_) (fun a ts' ha h => ?_)
 ·simp
  exact Xc hp hm h (by simp) (by simp [hp])
 ·simp [Tok.enc]
  exact Xc hp hm h (by simp) (by simp [hp])
theorem Yh (t : B) (h : PK K ob p en S (fun _ => .tup []) (X2 t ts)) : ACall P 61 [.ptr p [], .d (.str t)] ob K := by
 refine acall_lift hP mixed Yu4 Yv9 TOk.nil fun _ hm => ?_
 simp [Ysd, hp]
 refine Xpv hP hS hp _ _ ?_
 refine PK.bind h (fun ts' e h => ?_) (fun a ts' ha h => ?_)
 ·simp
  exact Xc hp hm h (by simp) (by simp [hp])
 ·simp [Tok.enc]
  exact Xc hp hm h (by simp) (by simp [hp])
theorem Y7 (k : Int) (t : B) (h : PK K ob p en S (fun b => .d (.bool b)) (Xt k t ts)) : ACall P 62 [.ptr p [], .d (.int .i64 k), .d (.str t)] ob K := by
 refine acall_lift hP mixed Ysj Yvz TOk.nil fun _ hm => ?_
 simp [Yue, hp]
 refine Xab hP hS hp _ _ ?_
 simp [hp]
 refine ⟨fun hn => ?_, fun hn => ?_⟩
 ·simp [Xt, hn] at h
  exact Xc hp hm h (by simp) (by simp [hp])
 ·cases ts with
  | nil => simp [Xj] at hn
  | cons x ts =>
   simp [Xt, hn] at h
   simp [hp, hS]
   exact Xc hp hm h (by simp) (by simp [hp])
theorem Xbg (many most : Nat) (h : PK K ob p en S (fun _ => .tup []) (Zw many most ts)) : ACall P 58 [.ptr p [], .d (.int .i64 many), .d (.int .i64 most)] ob K := by
 refine acall_lift hP mixed Yrq Yu2 TOk.nil fun _ hm => ?_
 simp [Yuj, hp]
 refine ⟨fun hn => ?_, fun hn => ?_⟩
 ·simp [Zw, show many = most by omega] at h
  refine W4 hP hS hp _ ?_
  simp
  exact Xc hp hm h (by simp) (by simp [hp])
 ·simp [Zw, show many ≠ most by omega] at h
  exact Xc hp hm h (by simp) (by simp [Yk hp])
end
end Go.Proofs.YtanpgmgkmfckaaaGreatDoor
/- Contracts: the parser's readers of parts. Condition: the program is the seat's, and its intervals are laid. -/
namespace Go.Proofs.YtanpgmgkmfckaaaGreatDoor
open Go Go.Ab Go.Lx Go.Sx
set_option maxRecDepth 100000
attribute [local simp ↓] ql qn qo qi qh qj qk qm zt zp zr zu zq zl zm zk zo zn qq qp qw qx zg qy qv qr zh qu qt qs qz zb za zd ze zf zx zw zz zy qb qa qd qc qe qg qf zj zi
structure Ivl (P : Prg) : Prop where
 factors : GlobIs P 0 (.agg [.int .i64 2, .int .i64 1000])
 editions : GlobIs P 1 (.agg [.int .i64 1, .int .i64 255])
 mosts : GlobIs P 2 (.agg [.int .i64 0, .int .i64 32])
 weights : GlobIs P 3 (.agg [.int .i64 0, .int .i64 9])
 anyN : GlobIs P 4 (.agg [.int .i64 0, .int .i64 1048576])
section
variable {P : Prg} (hP : P.p = Tryz.prog)
include hP
theorem X9w (lo hi n : Int) {ob : Objs} {K : V → Prop} (h : K (.d (.bool (decide (lo ≤ n) && decide (n ≤ hi))))) : PCall P 134 [.d (.agg [.int .i64 lo, .int .i64 hi]), .d (.int .i64 n)] ob K := by
 refine pcall_lift hP mixed (ds := [.agg [.int .i64 lo, .int .i64 hi], .int .i64 n]) Yiu Ykw TOk.nil ?_
 simp [Yjl]
 simpa using h
variable {ob : Objs} {p : Nat} {ts : List Tok} {en : Int} {S : V} (hS : V.allD [S] = none) (hp : lookO ob p = some (pb ts en S)) {K : Out → Objs → Prop}
include hS hp
theorem Zj (lo hi : Int) (h : PK K ob p en S (fun n => .d (.int .i64 n)) (Xy lo hi ts)) : ACall P 63 [.ptr p [], .d (.agg [.int .i64 lo, .int .i64 hi])] ob K := by
 refine acall_lift hP mixed Yu6 Yuf TOk.nil fun _ hm => ?_
 simp [Ytr, hp, hS]
 refine Xab hP hS (ts := ts) (en := en) (S := S) (by simp [hp]) _ _ ?_
 cases hn : Xj 2 [] ts with
 | false =>
  simp [Xy, hn] at h
  simp [hp, hS]
  refine W4 hP hS (ts := ts) (en := en) (S := S) (by simp [hp]) _ ?_
  simp [hp, hS]
  exact Xc hp hm h (by simp) (by simp [hp])
 | true =>
  cases ts with
  | nil => simp [Xj] at hn
  | cons x ts =>
   simp [hp, hS, Tok.enc]
   refine X9w hP _ _ _ ?_
   by_cases hr : lo ≤ x.n ∧ x.n ≤ hi
   ·simp [Xy, hn, hr] at h
    simp [hr, X9v, hp, hS]
    refine Xpv hP hS (ts := x :: ts) (en := en) (S := S) (by simp [hp, Tok.enc]) _ _ ?_
    simp [Jb, hn, hp, hS, Tok.enc]
    exact Xc hp hm h (by simp) (by simp [hp])
   ·have hr' : (decide (lo ≤ x.n) && decide (x.n ≤ hi)) = false := by simpa using hr
    simp [Xy, hn, Bool.and_assoc, hr'] at h
    simp only [hr']
    simp [hp, hS]
    refine W4 hP hS (ts := x :: ts) (en := en) (S := S) (by simp [hp, Tok.enc]) _ ?_
    simp [hp, hS, Tok.enc]
    exact Xc hp hm h (by simp) (by simp [hp, Tok.enc])
theorem Xy9 (h : PK K ob p en S (fun x => .tup [.d (.str x.1), .d (.str x.2)]) (Xfw ts)) : ACall P 138 [.ptr p []] ob K := by
 refine acall_lift hP mixed Yi6 Yip TOk.nil fun _ hm => ?_
 simp [Yl4, hp, hS]
 refine Zd hP hS (by simp [hp]) (PK.bind h (fun ts' e h => ?_) (fun a ts' ha h => ?_))
 ·simp
  exact Xc hp hm h (by simp) (by simp [hp])
 simp [hp, hS]
 refine Yh hP hS (by simp [hp]) _ (PK.bind h (fun ts' e h => ?_) (fun a ts' ha h => ?_))
 ·simp
  exact Xc hp hm h (by simp) (by simp [hp])
 simp [hp, hS]
 refine Zd hP hS (by simp [hp]) (PK.bind h (fun ts' e h => ?_) (fun a ts' ha h => ?_))
 ·simp
  exact Xc hp hm h (by simp) (by simp [hp])
 simp [hp, hS]
 exact Xc hp hm h (by simp) (by simp [hp])
theorem Yf8 (hI : Ivl P) (h : PK K ob p en S (fun x => .d x.enc) (J3 ts)) : ACall P 76 [.ptr p []] ob K := by
 refine acall_lift hP mixed Ys1 Yvl TOk.nil fun _ hm => ?_
 simp [Yuo, hp, hS, hI.factors, hI.editions, hI.mosts, hI.weights, hI.anyN]
 refine Zd hP hS (by simp [hp]) (PK.bind h (fun ts' e h => ?_) (fun a ts' ha h => ?_))
 ·simp
  exact Xc hp hm h (by simp) (by simp [hp])
 simp [hp, hS, hI.factors, hI.editions, hI.mosts, hI.weights, hI.anyN]
 refine Yh hP hS (by simp [hp]) _ (PK.bind h (fun ts' e h => ?_) (fun a ts' ha h => ?_))
 ·simp
  exact Xc hp hm h (by simp) (by simp [hp])
 simp [hp, hS, hI.factors, hI.editions, hI.mosts, hI.weights, hI.anyN]
 refine Zd hP hS (by simp [hp]) (PK.bind h (fun ts' e h => ?_) (fun a ts' ha h => ?_))
 ·simp
  exact Xc hp hm h (by simp) (by simp [hp])
 simp [hp, hS, hI.factors, hI.editions, hI.mosts, hI.weights, hI.anyN]
 rw [Xbj, Xx] at h
 refine Y7 hP hS (by simp [hp]) _ _ (PK.bind h (fun ts' e h => ?_) (fun a ts' ha h => ?_))
 ·simp
  exact Xc hp hm h (by simp) (by simp [hp])
 cases a
 ·skip
  simp only [Bool.false_eq_true, if_false, if_true, Xx, Ys] at h
  simp [hp, hS, hI.factors, hI.editions, hI.mosts, hI.weights, hI.anyN]
  refine Y7 hP hS (by simp [hp]) _ _ (PK.bind h (fun ts' e h => ?_) (fun a ts' ha h => ?_))
  ·simp
   exact Xc hp hm h (by simp) (by simp [hp])
  cases a
  ·skip
   simp only [Bool.false_eq_true, if_false, if_true, Xx, Ys] at h
   simp [hp, hS, hI.factors, hI.editions, hI.mosts, hI.weights, hI.anyN, Xm7]
   refine Yh hP hS (by simp [hp]) _ (PK.bind h (fun ts' e h => ?_) (fun a ts' ha h => ?_))
   ·simp
    exact Xc hp hm h (by simp) (by simp [hp])
   simp [hp, hS, hI.factors, hI.editions, hI.mosts, hI.weights, hI.anyN]
   exact Xc hp hm h (by simp) (by simp [hp])
  ·skip
   simp only [Bool.false_eq_true, if_false, if_true, Xx, Ys] at h
   simp [hp, hS, hI.factors, hI.editions, hI.mosts, hI.weights, hI.anyN]
   refine Zj hP hS (by simp [hp]) _ _ (PK.bind h (fun ts' e h => ?_) (fun a ts' ha h => ?_))
   ·simp
    exact Xc hp hm h (by simp) (by simp [hp])
   simp [hp, hS, hI.factors, hI.editions, hI.mosts, hI.weights, hI.anyN, Xm7]
   have hw : IntKind.i64.wrap (-a) = -a := by have := Xe0 ha; exact IntWalk.i64_in _ (by omega)
   simp only [hw]
   refine Yh hP hS (by simp [hp]) _ (PK.bind h (fun ts' e h => ?_) (fun a ts' ha h => ?_))
   ·simp
    exact Xc hp hm h (by simp) (by simp [hp])
   simp [hp, hS, hI.factors, hI.editions, hI.mosts, hI.weights, hI.anyN]
   exact Xc hp hm h (by simp) (by simp [hp])
 ·skip
  simp only [Bool.false_eq_true, if_false, if_true, Xx, Ys] at h
  simp [hp, hS, hI.factors, hI.editions, hI.mosts, hI.weights, hI.anyN]
  refine Zj hP hS (by simp [hp]) _ _ (PK.bind h (fun ts' e h => ?_) (fun a ts' ha h => ?_))
  ·simp
   exact Xc hp hm h (by simp) (by simp [hp])
  simp [hp, hS, hI.factors, hI.editions, hI.mosts, hI.weights, hI.anyN, Xm7]
  refine Yh hP hS (by simp [hp]) _ (PK.bind h (fun ts' e h => ?_) (fun a ts' ha h => ?_))
  ·simp
   exact Xc hp hm h (by simp) (by simp [hp])
  simp [hp, hS, hI.factors, hI.editions, hI.mosts, hI.weights, hI.anyN]
  exact Xc hp hm h (by simp) (by simp [hp])
theorem Yk5 (h : PK K ob p en S (fun x => .d x.enc) (Xst ts)) : ACall P 78 [.ptr p []] ob K := by
 refine acall_lift hP mixed Yv4 Ys9 TOk.nil fun _ hm => ?_
 simp [Yvn, hp, hS]
 refine Zx hP hS (by simp [hp]) _ (PK.bind h (fun ts' e h => ?_) (fun a ts' ha h => ?_))
 ·simp
  exact Xc hp hm h (by simp) (by simp [hp])
 simp [hp, hS]
 refine Xy9 hP hS (by simp [hp]) (PK.bind h (fun ts' e h => ?_) (fun a ts' ha h => ?_))
 ·simp
  exact Xc hp hm h (by simp) (by simp [hp])
 simp [hp, hS]
 refine Yh hP hS (by simp [hp]) _ (PK.bind h (fun ts' e h => ?_) (fun a ts' ha h => ?_))
 ·simp
  exact Xc hp hm h (by simp) (by simp [hp])
 simp [hp, hS]
 exact Xc hp hm h (by simp) (by simp [hp])
theorem Ydv (h : PK K ob p en S (fun x => .d x.enc) (Ue ts)) : ACall P 70 [.ptr p []] ob K := by
 refine acall_lift hP mixed Ysn Yti TOk.nil fun _ hm => ?_
 simp [Yrz, hp, hS]
 refine Zx hP hS (by simp [hp]) _ (PK.bind h (fun ts' e h => ?_) (fun a ts' ha h => ?_))
 ·simp
  exact Xc hp hm h (by simp) (by simp [hp])
 simp [hp, hS]
 refine Zd hP hS (by simp [hp]) (PK.bind h (fun ts' e h => ?_) (fun a ts' ha h => ?_))
 ·simp
  exact Xc hp hm h (by simp) (by simp [hp])
 simp [hp, hS]
 refine Zd hP hS (by simp [hp]) (PK.bind h (fun ts' e h => ?_) (fun a ts' ha h => ?_))
 ·simp
  exact Xc hp hm h (by simp) (by simp [hp])
 simp [hp, hS]
 refine Y7 hP hS (by simp [hp]) _ _ (PK.bind h (fun ts' e h => ?_) (fun a ts' ha h => ?_))
 ·simp
  exact Xc hp hm h (by simp) (by simp [hp])
 cases a
 ·skip
  simp only [Bool.false_eq_true, if_false, if_true, Xx, Ys] at h
  simp [hp, hS, Xyz]
  refine Yh hP hS (by simp [hp]) _ (PK.bind h (fun ts' e h => ?_) (fun a ts' ha h => ?_))
  ·simp
   exact Xc hp hm h (by simp) (by simp [hp])
  simp [hp, hS]
  exact Xc hp hm h (by simp) (by simp [hp])
 ·skip
  simp only [Bool.false_eq_true, if_false, if_true, Xx, Ys] at h
  simp [hp, hS]
  refine Xy9 hP hS (by simp [hp]) (PK.bind h (fun ts' e h => ?_) (fun a ts' ha h => ?_))
  ·simp
   exact Xc hp hm h (by simp) (by simp [hp])
  simp [hp, hS, Xyz]
  refine Yh hP hS (by simp [hp]) _ (PK.bind h (fun ts' e h => ?_) (fun a ts' ha h => ?_))
  ·simp
   exact Xc hp hm h (by simp) (by simp [hp])
  simp [hp, hS]
  exact Xc hp hm h (by simp) (by simp [hp])
end
end Go.Proofs.YtanpgmgkmfckaaaGreatDoor
/- Contracts: terms, comparisons, weights. Condition: the program is the seat's, and its intervals are laid. -/
namespace Go.Proofs.YtanpgmgkmfckaaaGreatDoor
open Go Go.Ab Go.Lx Go.Sx
set_option maxRecDepth 100000
attribute [local simp ↓] ql qn qo qi qh qj qk qm zt zp zr zu zq zl zm zk zo zn qq qp qw qx zg qy qv qr zh qu qt qs qz zb za zd ze zf zx zw zz zy qb qa qd qc qe qg qf zj zi
section
variable {P : Prg} (hP : P.p = Tryz.prog) {ob : Objs} {p : Nat} {ts : List Tok} {en : Int} {S : V} (hS : V.allD [S] = none) (hp : lookO ob p = some (pb ts en S)) {K : Out → Objs → Prop}
include hP hS hp
theorem Xe9 (hI : Ivl P) (h : PK K ob p en S (fun x => .d x.enc) (U9 ts)) : ACall P 139 [.ptr p []] ob K := by
 refine acall_lift hP mixed Yhc Ylp TOk.nil fun _ hm => ?_
 simp [Yim, hp, hS, hI.factors, hI.editions, hI.mosts, hI.weights, hI.anyN]
 refine Xab hP hS (ts := ts) (en := en) (S := S) (by simp [hp]) _ _ ?_
 cases hn : Xj 2 [] ts with
 | false =>
  simp only [U9, hn, Bool.false_eq_true, if_false] at h
  simp [hp, hS, hI.anyN]
  refine Xy9 hP hS (by simp [hp]) (PK.bind h (fun ts' e h => ?_) (fun a ts' ha h => ?_))
  ·simp
   exact Xc hp hm h (by simp) (by simp [hp])
  simp [hp, hS, hI.factors, hI.editions, hI.mosts, hI.weights, hI.anyN]
  exact Xc hp hm h (by simp) (by simp [hp])
 | true =>
  simp only [U9, hn, if_true] at h
  simp [hp, hS, hI.anyN]
  refine Zj hP hS (by simp [hp]) _ _ (PK.bind h (fun ts' e h => ?_) (fun a ts' ha h => ?_))
  ·simp
   exact Xc hp hm h (by simp) (by simp [hp])
  simp [hp, hS, hI.factors, hI.editions, hI.mosts, hI.weights, hI.anyN]
  exact Xc hp hm h (by simp) (by simp [hp])
theorem X8j (hI : Ivl P) (h : PK K ob p en S (fun x => .d x.enc) (Us ts)) : ACall P 72 [.ptr p []] ob K := by
 refine acall_lift hP mixed Yt6 Yvy TOk.nil fun _ hm => ?_
 simp [Yu8, hp, hS, hI.factors, hI.editions, hI.mosts, hI.weights, hI.anyN]
 refine Zx hP hS (by simp [hp]) _ (PK.bind h (fun ts' e h => ?_) (fun a ts' ha h => ?_))
 ·simp
  exact Xc hp hm h (by simp) (by simp [hp])
 simp [hp, hS, hI.factors, hI.editions, hI.mosts, hI.weights, hI.anyN]
 refine Xe9 hP hS (by simp [hp]) hI (PK.bind h (fun ts' e h => ?_) (fun a ts' ha h => ?_))
 ·simp
  exact Xc hp hm h (by simp) (by simp [hp])
 simp [hp, hS, hI.factors, hI.editions, hI.mosts, hI.weights, hI.anyN]
 rw [opM, Xx] at h
 refine Y7 hP hS (by simp [hp]) _ _ (PK.bind h (fun ts' e h => ?_) (fun a ts' ha h => ?_))
 ·simp
  exact Xc hp hm h (by simp) (by simp [hp])
 cases a
 ·skip
  simp only [Bool.false_eq_true, if_false, if_true, Xx, Ys] at h
  simp [hp, hS, hI.factors, hI.editions, hI.mosts, hI.weights, hI.anyN]
  refine Y7 hP hS (by simp [hp]) _ _ (PK.bind h (fun ts' e h => ?_) (fun a ts' ha h => ?_))
  ·simp
   exact Xc hp hm h (by simp) (by simp [hp])
  cases a
  ·skip
   simp only [Bool.false_eq_true, if_false, if_true, Xx, Ys] at h
   simp [hp, hS, hI.factors, hI.editions, hI.mosts, hI.weights, hI.anyN]
   refine Yh hP hS (by simp [hp]) _ (PK.bind h (fun ts' e h => ?_) (fun a ts' ha h => ?_))
   ·simp
    exact Xc hp hm h (by simp) (by simp [hp])
   simp [hp, hS, hI.factors, hI.editions, hI.mosts, hI.weights, hI.anyN]
   refine Yh hP hS (by simp [hp]) _ (PK.bind h (fun ts' e h => ?_) (fun a ts' ha h => ?_))
   ·simp
    exact Xc hp hm h (by simp) (by simp [hp])
   simp [hp, hS, hI.factors, hI.editions, hI.mosts, hI.weights, hI.anyN, Xhk]
   refine Xe9 hP hS (by simp [hp]) hI (PK.bind h (fun ts' e h => ?_) (fun a ts' ha h => ?_))
   ·simp
    exact Xc hp hm h (by simp) (by simp [hp])
   simp [hp, hS, hI.factors, hI.editions, hI.mosts, hI.weights, hI.anyN]
   refine Yh hP hS (by simp [hp]) _ (PK.bind h (fun ts' e h => ?_) (fun a ts' ha h => ?_))
   ·simp
    exact Xc hp hm h (by simp) (by simp [hp])
   simp [hp, hS, hI.factors, hI.editions, hI.mosts, hI.weights, hI.anyN]
   exact Xc hp hm h (by simp) (by simp [hp])
  ·skip
   simp only [Bool.false_eq_true, if_false, if_true, Xx, Ys] at h
   simp [hp, hS, hI.factors, hI.editions, hI.mosts, hI.weights, hI.anyN]
   refine Y7 hP hS (by simp [hp]) _ _ (PK.bind h (fun ts' e h => ?_) (fun a ts' ha h => ?_))
   ·simp
    exact Xc hp hm h (by simp) (by simp [hp])
   cases a
   ·skip
    simp only [Bool.false_eq_true, if_false, if_true, Xx, Ys] at h
    simp [hp, hS, hI.factors, hI.editions, hI.mosts, hI.weights, hI.anyN, Xhk]
    refine Xe9 hP hS (by simp [hp]) hI (PK.bind h (fun ts' e h => ?_) (fun a ts' ha h => ?_))
    ·simp
     exact Xc hp hm h (by simp) (by simp [hp])
    simp [hp, hS, hI.factors, hI.editions, hI.mosts, hI.weights, hI.anyN]
    refine Yh hP hS (by simp [hp]) _ (PK.bind h (fun ts' e h => ?_) (fun a ts' ha h => ?_))
    ·simp
     exact Xc hp hm h (by simp) (by simp [hp])
    simp [hp, hS, hI.factors, hI.editions, hI.mosts, hI.weights, hI.anyN]
    exact Xc hp hm h (by simp) (by simp [hp])
   ·skip
    simp only [Bool.false_eq_true, if_false, if_true, Xx, Ys] at h
    simp [hp, hS, hI.factors, hI.editions, hI.mosts, hI.weights, hI.anyN, Xhk]
    refine Xe9 hP hS (by simp [hp]) hI (PK.bind h (fun ts' e h => ?_) (fun a ts' ha h => ?_))
    ·simp
     exact Xc hp hm h (by simp) (by simp [hp])
    simp [hp, hS, hI.factors, hI.editions, hI.mosts, hI.weights, hI.anyN]
    refine Yh hP hS (by simp [hp]) _ (PK.bind h (fun ts' e h => ?_) (fun a ts' ha h => ?_))
    ·simp
     exact Xc hp hm h (by simp) (by simp [hp])
    simp [hp, hS, hI.factors, hI.editions, hI.mosts, hI.weights, hI.anyN]
    exact Xc hp hm h (by simp) (by simp [hp])
 ·skip
  simp only [Bool.false_eq_true, if_false, if_true, Xx, Ys] at h
  simp [hp, hS, hI.factors, hI.editions, hI.mosts, hI.weights, hI.anyN, Xhk]
  refine Xe9 hP hS (by simp [hp]) hI (PK.bind h (fun ts' e h => ?_) (fun a ts' ha h => ?_))
  ·simp
   exact Xc hp hm h (by simp) (by simp [hp])
  simp [hp, hS, hI.factors, hI.editions, hI.mosts, hI.weights, hI.anyN]
  refine Yh hP hS (by simp [hp]) _ (PK.bind h (fun ts' e h => ?_) (fun a ts' ha h => ?_))
  ·simp
   exact Xc hp hm h (by simp) (by simp [hp])
  simp [hp, hS, hI.factors, hI.editions, hI.mosts, hI.weights, hI.anyN]
  exact Xc hp hm h (by simp) (by simp [hp])
theorem Yls (hI : Ivl P) (h : PK K ob p en S (fun x => .d x.enc) (Xsv ts)) : ACall P 74 [.ptr p []] ob K := by
 refine acall_lift hP mixed Yr0 Ywb TOk.nil fun _ hm => ?_
 simp [Yrn, hp, hS, hI.factors, hI.editions, hI.mosts, hI.weights, hI.anyN]
 refine Zx hP hS (by simp [hp]) _ (PK.bind h (fun ts' e h => ?_) (fun a ts' ha h => ?_))
 ·simp
  exact Xc hp hm h (by simp) (by simp [hp])
 simp [hp, hS, hI.factors, hI.editions, hI.mosts, hI.weights, hI.anyN]
 refine Zd hP hS (by simp [hp]) (PK.bind h (fun ts' e h => ?_) (fun a ts' ha h => ?_))
 ·simp
  exact Xc hp hm h (by simp) (by simp [hp])
 simp [hp, hS, hI.factors, hI.editions, hI.mosts, hI.weights, hI.anyN]
 refine Yh hP hS (by simp [hp]) _ (PK.bind h (fun ts' e h => ?_) (fun a ts' ha h => ?_))
 ·simp
  exact Xc hp hm h (by simp) (by simp [hp])
 simp [hp, hS, hI.factors, hI.editions, hI.mosts, hI.weights, hI.anyN]
 refine Xe9 hP hS (by simp [hp]) hI (PK.bind h (fun ts' e h => ?_) (fun a ts' ha h => ?_))
 ·simp
  exact Xc hp hm h (by simp) (by simp [hp])
 simp [hp, hS, hI.factors, hI.editions, hI.mosts, hI.weights, hI.anyN]
 refine Yh hP hS (by simp [hp]) _ (PK.bind h (fun ts' e h => ?_) (fun a ts' ha h => ?_))
 ·simp
  exact Xc hp hm h (by simp) (by simp [hp])
 simp [hp, hS, hI.factors, hI.editions, hI.mosts, hI.weights, hI.anyN]
 exact Xc hp hm h (by simp) (by simp [hp])
theorem Xjj (hI : Ivl P) (h : PK K ob p en S (fun l => .d (.agg (l.map iD))) (Wz ts)) : ACall P 64 [.ptr p []] ob K := by
 refine acall_lift hP mixed Yvf Yt3 TOk.nil fun _ hm => ?_
 simp [Yt1, hp, hS]
 refine ALoop.go (ι := List Int × List Tok) (fun j => [(0, .ptr p []), (2, .ptr (fresh ob) []), (4, .d (.int .i64 j.1.length))])
  (fun j => (fresh ob, .box 91 (.d (.agg (j.1.map iD ++ List.replicate (4 - j.1.length) (iD 0))))) :: setO ob p (pb j.2 en S))
  (fun j => j.1.length ≤ 4 ∧ PK K ob p en S (fun l => .d (.agg (l.map iD))) ((Xfa (4 - j.1.length) >>= fun l => pure (j.1 ++ l)) j.2)) (fun j => 4 - j.1.length) ([], ts) ⟨by simp, ?_⟩ (by simp) (by simp [Yk hp]) ?_
 ·simp only [Wz] at h
  simp only [List.length_nil, Nat.sub_zero, List.nil_append]
  rw [Xe]
  cases hr : Xfa 4 ts with
  | ok a ts' => rw [hr] at h; exact h
  | err ts' e => rw [hr] at h; exact h
 rintro ⟨l, ts1⟩ ⟨hl, h⟩ R rn re rr rp
 have w1 : IntKind.i64.wrap 1 = 1 := by decide
 have w2 : IntKind.i64.wrap 2 = 2 := by decide
 have w3 : IntKind.i64.wrap 3 = 3 := by decide
 have w4 : IntKind.i64.wrap 4 = 4 := by decide
 match l, hl with
 | [], _ =>
  simp [Xda, hp, hS, hI.weights]
  simp [Xfa, Xx, Ys] at h
  refine Zj hP hS (by simp [hp]) _ _ (PK.bind h (fun ts' e h => ?_) (fun a ts' ha h => ?_))
  ·simp
   refine rp _ _ _ ?_
   simp
   exact Xc hp hm h (by simp) (by simp [hp])
  simp [hp, hS, w1, w2, w3, w4]
  refine rn [] ([a], ts') _ _ ⟨by simp, by simpa [Xfa, Xx, Ys] using h⟩ (by simp) (by simp) (by simp [hp]) (by simp [hp]) ?_
  simp
  refine noMenO_set_box _ _ _ _ _ (Xp _ hm) ?_
  have := Y8 (Xp 1 (l := []) hm) hp
  simpa [pv] using this
 | [a0], _ =>
  simp [Xda, hp, hS, hI.weights]
  simp [Xfa, Xx, Ys] at h
  refine Zj hP hS (by simp [hp]) _ _ (PK.bind h (fun ts' e h => ?_) (fun a ts' ha h => ?_))
  ·simp
   refine rp _ _ _ ?_
   simp
   exact Xc hp hm h (by simp) (by simp [hp])
  simp [hp, hS, w1, w2, w3, w4]
  refine rn [] ([a0, a], ts') _ _ ⟨by simp, by simpa [Xfa, Xx, Ys] using h⟩ (by simp) (by simp) (by simp [hp]) (by simp [hp]) ?_
  simp
  refine noMenO_set_box _ _ _ _ _ (Xp _ hm) ?_
  have := Y8 (Xp 1 (l := []) hm) hp
  simpa [pv] using this
 | [a0, b0], _ =>
  simp [Xda, hp, hS, hI.weights]
  simp [Xfa, Xx, Ys] at h
  refine Zj hP hS (by simp [hp]) _ _ (PK.bind h (fun ts' e h => ?_) (fun a ts' ha h => ?_))
  ·simp
   refine rp _ _ _ ?_
   simp
   exact Xc hp hm h (by simp) (by simp [hp])
  simp [hp, hS, w1, w2, w3, w4]
  refine rn [] ([a0, b0, a], ts') _ _ ⟨by simp, by simpa [Xfa, Xx, Ys] using h⟩ (by simp) (by simp) (by simp [hp]) (by simp [hp]) ?_
  simp
  refine noMenO_set_box _ _ _ _ _ (Xp _ hm) ?_
  have := Y8 (Xp 1 (l := []) hm) hp
  simpa [pv] using this
 | [a0, b0, c0], _ =>
  simp [Xda, hp, hS, hI.weights]
  simp [Xfa, Xx, Ys] at h
  refine Zj hP hS (by simp [hp]) _ _ (PK.bind h (fun ts' e h => ?_) (fun a ts' ha h => ?_))
  ·simp
   refine rp _ _ _ ?_
   simp
   exact Xc hp hm h (by simp) (by simp [hp])
  simp [hp, hS, w1, w2, w3, w4]
  refine rn [] ([a0, b0, c0, a], ts') _ _ ⟨by simp, by simpa [Xfa, Xx, Ys] using h⟩ (by simp) (by simp) (by simp [hp]) (by simp [hp]) ?_
  simp
  refine noMenO_set_box _ _ _ _ _ (Xp _ hm) ?_
  have := Y8 (Xp 1 (l := []) hm) hp
  simpa [pv] using this
 | [a0, b0, c0, d0], _ =>
  simp [Xda, hp, hS]
  simp [Xfa, Xx, Ys] at h
  refine re _ _ _ ?_
  simp [hp, hS]
  exact Xc hp hm h (by simp) (by simp [hp])
 | _ :: _ :: _ :: _ :: _ :: _, hl => simp at hl
end
end Go.Proofs.YtanpgmgkmfckaaaGreatDoor
/- Contracts: the parser's lists. Condition: the program is the seat's. -/
namespace Go.Proofs.YtanpgmgkmfckaaaGreatDoor
open Go Go.Ab Go.Lx Go.Sx
set_option maxRecDepth 100000
attribute [local simp ↓] ql qn qo qi qh qj qk qm zt zp zr zu zq zl zm zk zo zn qq qp qw qx zg qy qv qr zh qu qt qs qz zb za zd ze zf zx zw zz zy qb qa qd qc qe qg qf zj zi
section
variable {P : Prg} (hP : P.p = Tryz.prog) {ob : Objs} {p : Nat} {ts : List Tok} {en : Int} {S : V} (hS : V.allD [S] = none) (hp : lookO ob p = some (pb ts en S)) {K : Out → Objs → Prop}
include hP hS hp
omit hS in
theorem Jx (t : B) (x : Nat) (hx : fresh ob = x) (h : K (.ret (.fn 137 [] [.ptr x [], .ptr (x + 1) []])) ((x + 1, .box 9 (.d (.str t))) :: (x, .box 63 (.ptr p [])) :: ob)) : ACall P 69 [.ptr p [], .d (.str t)] ob K := by
 subst hx
 refine acall_lift hP mixed Ysf Ytt TOk.nil fun _ hm => ?_
 simp [Ytx, hp]
 refine ⟨[fresh ob, fresh ob + 1], by simp [young], ?_, ?_⟩
 ·have := Y4 hp
  simp [young, hp, hm, this]
 ·simpa [young, hp] using h
theorem U7 {t : B} {b1 b2 : Nat} (h1 : lookO ob b1 = some (.box 63 (.ptr p []))) (h2 : lookO ob b2 = some (.box 9 (.d (.str t)))) (h : K (.ret (.d (.bool (Xj 1 t ts)))) (setO ob p (pb ts en S))) : ACall P 137 [.ptr b1 [], .ptr b2 []] ob K := by
 refine acall_lift hP mixed Yiv Yli TOk.nil fun _ hm => ?_
 simp [Ylu, hp, h1, h2]
 refine Xab hP hS hp _ _ ?_
 simp [hp]
 exact Xc hp hm h (by simp) (by simp [hp])
theorem X9u {α : Type} {enc : α → D} (hsh : ∀ a, (enc a).shape = .node [.leaf, .leaf, .leaf, .node [.leaf, .leaf, .leaf, .leaf, .leaf]]) (begins : List Tok → Bool) (read : M α) (most : Nat) (hmost : most ≤ 1000) (bf rf : Nat) (bfi bca rfi rca : List V) (hbc : Xg P.p bf = true) (hrc : Xg P.p rf = true)
  (x : Nat) (hx : fresh ob = x) (hb : ∀ (ts : List Tok) (o : Ob) (K : Out → Objs → Prop), K (.ret (.d (.bool (begins ts)))) ((x, o) :: setO ob p (pb ts en S)) → ACall P bf (bfi ++ bca) ((x, o) :: setO ob p (pb ts en S)) K)
  (hr : ∀ (ts : List Tok) (o : Ob) (K : Out → Objs → Prop), PK K ((x, o) :: setO ob p (pb ts en S)) p en S (fun a => .d (enc a)) (read ts) → ACall P rf (rfi ++ rca) ((x, o) :: setO ob p (pb ts en S)) K)
  (h : PK K ob p en S (fun l => .d (.list 8 (l.map enc))) (Xs begins read most ts)) : ACall P 68 [.ptr p [], .d (.int .i64 most), .fn bf bfi bca, .fn rf rfi rca] ob K := by
 subst hx
 refine acall_lift hP mixed Yvg Ysa TOk.nil fun hv hm => ?_
 have hv1 := V.mens_mono (p := young (fresh ob + 1) []) (q := young (fresh ob) []) (fun j e => by simp [young] at e ⊢; omega) _ (hv [])
 simp at hv1
 simp [Yvr, hp, hS]
 refine ALoop.go (ι := List α × List Tok) (fun j => [(0, .ptr p []), (1, .d (.int .i64 most)), (2, .fn bf bfi bca), (3, .fn rf rfi rca), (8, .sl (fresh ob) j.1.length)])
  (fun j => (fresh ob, .arr 54 8 (j.1.map enc)) :: setO ob p (pb j.2 en S))
  (fun j => j.1.length ≤ most ∧ PK K ob p en S (fun l => .d (.list 8 (l.map enc))) ((Xs begins read (most - j.1.length) >>= fun l => pure (j.1 ++ l)) j.2)) (fun j => most - j.1.length) ([], ts) ⟨by simp, ?_⟩ (by simp) (by simp [Yk hp]) ?_
 ·simp only [List.length_nil, Nat.sub_zero, List.nil_append]
  rw [Xe]
  cases hr : Xs begins read most ts with
  | ok a ts' => rw [hr] at h; exact h
  | err ts' e => rw [hr] at h; exact h
 rintro ⟨l, ts1⟩ ⟨hl, h⟩ R rn re rr rp
 dsimp only at hl h rn
 simp [Yag, hp, hS, hbc]
 refine hb _ _ _ ?_
 cases hbg : begins ts1 with
 | false =>
  simp [hp, hS]
  refine re _ _ _ ?_
  have h' : PK K ob p en S (fun l => .d (.list 8 (l.map enc))) (.ok l ts1) := by
   rw [Xe] at h
   cases hn : most - l.length <;> simpa [hn, Xs, hbg] using h
  simp [hp, hS]
  exact Xc hp hm h' (by simp) (by simp [hp])
 | true =>
  by_cases he : l.length = most
  ·simp [he, Xs, hbg, Xe] at h
   simp [hp, hS, he]
   refine W4 hP hS (ts := ts1) (en := en) (S := S) (by simp [hp]) _ ?_
   simp [hp]
   refine rp _ _ _ ?_
   simp
   exact Xc hp hm h (by simp) (by simp [hp])
  ·have hne : ¬ ((l.length : Int) = most) := by omega
   obtain ⟨n, hn⟩ : ∃ n, most - l.length = n + 1 := ⟨most - l.length - 1, by omega⟩
   simp only [hn] at h
   simp only [Xe, Xs, hbg, if_true] at h
   simp [hp, hS, hne, hrc, X95]
   refine hr _ _ _ ?_
   cases ha : read ts1 with
   | err ts' e =>
    simp only [ha] at h
    simp
    refine rp _ _ _ ?_
    simp
    exact Xc hp hm h (by simp) (by simp [hp])
   | ok a ts' =>
    simp only [ha] at h
    simp [hp, hS, hsh]
    refine ⟨by omega, ?_⟩
    refine rn [] (l ++ [a], ts') _ _ ⟨by simp; omega, ?_⟩ (by simp; omega) (by simp) (by simp [hp]) (by simp [hp, hv1]) ?_
    ·simp only [List.length_append, List.length_singleton, show most - (l.length + 1) = n by omega]
     rw [Xe]
     cases hl2 : Xs begins read n ts' with
     | err ts2 e => simp only [hl2] at h; exact h
     | ok l2 ts2 => simp only [hl2] at h; simpa using h
    ·simp
     refine noMenO_set_box _ _ _ _ _ (Xp _ hm) ?_
     have := Y8 (Xp 1 (l := []) hm) hp
     simpa [pv] using this
theorem X81 {α : Type} {enc : α → D} (hsh : ∀ a, (enc a).shape = .node [.leaf, .node [.leaf, .leaf, .leaf, .leaf, .leaf], .node [.leaf, .leaf, .leaf, .leaf, .leaf]]) (begins : List Tok → Bool) (read : M α) (most : Nat) (hmost : most ≤ 1000) (bf rf : Nat) (bfi bca rfi rca : List V) (hbc : Xg P.p bf = true) (hrc : Xg P.p rf = true)
  (x : Nat) (hx : fresh ob = x) (hb : ∀ (ts : List Tok) (o : Ob) (K : Out → Objs → Prop), K (.ret (.d (.bool (begins ts)))) ((x, o) :: setO ob p (pb ts en S)) → ACall P bf (bfi ++ bca) ((x, o) :: setO ob p (pb ts en S)) K)
  (hr : ∀ (ts : List Tok) (o : Ob) (K : Out → Objs → Prop), PK K ((x, o) :: setO ob p (pb ts en S)) p en S (fun a => .d (enc a)) (read ts) → ACall P rf (rfi ++ rca) ((x, o) :: setO ob p (pb ts en S)) K)
  (h : PK K ob p en S (fun l => .d (.list 11 (l.map enc))) (Xs begins read most ts)) : ACall P 71 [.ptr p [], .d (.int .i64 most), .fn bf bfi bca, .fn rf rfi rca] ob K := by
 subst hx
 refine acall_lift hP mixed Yv2 Ysi TOk.nil fun hv hm => ?_
 have hv1 := V.mens_mono (p := young (fresh ob + 1) []) (q := young (fresh ob) []) (fun j e => by simp [young] at e ⊢; omega) _ (hv [])
 simp at hv1
 simp [Yux, hp, hS]
 refine ALoop.go (ι := List α × List Tok) (fun j => [(0, .ptr p []), (1, .d (.int .i64 most)), (2, .fn bf bfi bca), (3, .fn rf rfi rca), (8, .sl (fresh ob) j.1.length)])
  (fun j => (fresh ob, .arr 56 11 (j.1.map enc)) :: setO ob p (pb j.2 en S))
  (fun j => j.1.length ≤ most ∧ PK K ob p en S (fun l => .d (.list 11 (l.map enc))) ((Xs begins read (most - j.1.length) >>= fun l => pure (j.1 ++ l)) j.2)) (fun j => most - j.1.length) ([], ts) ⟨by simp, ?_⟩ (by simp) (by simp [Yk hp]) ?_
 ·simp only [List.length_nil, Nat.sub_zero, List.nil_append]
  rw [Xe]
  cases hr : Xs begins read most ts with
  | ok a ts' => rw [hr] at h; exact h
  | err ts' e => rw [hr] at h; exact h
 rintro ⟨l, ts1⟩ ⟨hl, h⟩ R rn re rr rp
 dsimp only at hl h rn
 simp [X8z, hp, hS, hbc]
 refine hb _ _ _ ?_
 cases hbg : begins ts1 with
 | false =>
  simp [hp, hS]
  refine re _ _ _ ?_
  have h' : PK K ob p en S (fun l => .d (.list 11 (l.map enc))) (.ok l ts1) := by
   rw [Xe] at h
   cases hn : most - l.length <;> simpa [hn, Xs, hbg] using h
  simp [hp, hS]
  exact Xc hp hm h' (by simp) (by simp [hp])
 | true =>
  by_cases he : l.length = most
  ·simp [he, Xs, hbg, Xe] at h
   simp [hp, hS, he]
   refine W4 hP hS (ts := ts1) (en := en) (S := S) (by simp [hp]) _ ?_
   simp [hp]
   refine rp _ _ _ ?_
   simp
   exact Xc hp hm h (by simp) (by simp [hp])
  ·have hne : ¬ ((l.length : Int) = most) := by omega
   obtain ⟨n, hn⟩ : ∃ n, most - l.length = n + 1 := ⟨most - l.length - 1, by omega⟩
   simp only [hn] at h
   simp only [Xe, Xs, hbg, if_true] at h
   simp [hp, hS, hne, hrc, Yac]
   refine hr _ _ _ ?_
   cases ha : read ts1 with
   | err ts' e =>
    simp only [ha] at h
    simp
    refine rp _ _ _ ?_
    simp
    exact Xc hp hm h (by simp) (by simp [hp])
   | ok a ts' =>
    simp only [ha] at h
    simp [hp, hS, hsh]
    refine ⟨by omega, ?_⟩
    refine rn [] (l ++ [a], ts') _ _ ⟨by simp; omega, ?_⟩ (by simp; omega) (by simp) (by simp [hp]) (by simp [hp, hv1]) ?_
    ·simp only [List.length_append, List.length_singleton, show most - (l.length + 1) = n by omega]
     rw [Xe]
     cases hl2 : Xs begins read n ts' with
     | err ts2 e => simp only [hl2] at h; exact h
     | ok l2 ts2 => simp only [hl2] at h; simpa using h
    ·simp
     refine noMenO_set_box _ _ _ _ _ (Xp _ hm) ?_
     have := Y8 (Xp 1 (l := []) hm) hp
     simpa [pv] using this
theorem X8s {α : Type} {enc : α → D} (hsh : ∀ a, (enc a).shape = .node [.leaf, .leaf, .node [.leaf, .leaf, .leaf, .leaf, .leaf]]) (begins : List Tok → Bool) (read : M α) (most : Nat) (hmost : most ≤ 1000) (bf rf : Nat) (bfi bca rfi rca : List V) (hbc : Xg P.p bf = true) (hrc : Xg P.p rf = true)
  (x : Nat) (hx : fresh ob = x) (hb : ∀ (ts : List Tok) (o : Ob) (K : Out → Objs → Prop), K (.ret (.d (.bool (begins ts)))) ((x, o) :: setO ob p (pb ts en S)) → ACall P bf (bfi ++ bca) ((x, o) :: setO ob p (pb ts en S)) K)
  (hr : ∀ (ts : List Tok) (o : Ob) (K : Out → Objs → Prop), PK K ((x, o) :: setO ob p (pb ts en S)) p en S (fun a => .d (enc a)) (read ts) → ACall P rf (rfi ++ rca) ((x, o) :: setO ob p (pb ts en S)) K)
  (h : PK K ob p en S (fun l => .d (.list 7 (l.map enc))) (Xs begins read most ts)) : ACall P 73 [.ptr p [], .d (.int .i64 most), .fn bf bfi bca, .fn rf rfi rca] ob K := by
 subst hx
 refine acall_lift hP mixed Yt4 Yul TOk.nil fun hv hm => ?_
 have hv1 := V.mens_mono (p := young (fresh ob + 1) []) (q := young (fresh ob) []) (fun j e => by simp [young] at e ⊢; omega) _ (hv [])
 simp at hv1
 simp [Ysc, hp, hS]
 refine ALoop.go (ι := List α × List Tok) (fun j => [(0, .ptr p []), (1, .d (.int .i64 most)), (2, .fn bf bfi bca), (3, .fn rf rfi rca), (8, .sl (fresh ob) j.1.length)])
  (fun j => (fresh ob, .arr 58 7 (j.1.map enc)) :: setO ob p (pb j.2 en S))
  (fun j => j.1.length ≤ most ∧ PK K ob p en S (fun l => .d (.list 7 (l.map enc))) ((Xs begins read (most - j.1.length) >>= fun l => pure (j.1 ++ l)) j.2)) (fun j => most - j.1.length) ([], ts) ⟨by simp, ?_⟩ (by simp) (by simp [Yk hp]) ?_
 ·simp only [List.length_nil, Nat.sub_zero, List.nil_append]
  rw [Xe]
  cases hr : Xs begins read most ts with
  | ok a ts' => rw [hr] at h; exact h
  | err ts' e => rw [hr] at h; exact h
 rintro ⟨l, ts1⟩ ⟨hl, h⟩ R rn re rr rp
 dsimp only at hl h rn
 simp [X9f, hp, hS, hbc]
 refine hb _ _ _ ?_
 cases hbg : begins ts1 with
 | false =>
  simp [hp, hS]
  refine re _ _ _ ?_
  have h' : PK K ob p en S (fun l => .d (.list 7 (l.map enc))) (.ok l ts1) := by
   rw [Xe] at h
   cases hn : most - l.length <;> simpa [hn, Xs, hbg] using h
  simp [hp, hS]
  exact Xc hp hm h' (by simp) (by simp [hp])
 | true =>
  by_cases he : l.length = most
  ·simp [he, Xs, hbg, Xe] at h
   simp [hp, hS, he]
   refine W4 hP hS (ts := ts1) (en := en) (S := S) (by simp [hp]) _ ?_
   simp [hp]
   refine rp _ _ _ ?_
   simp
   exact Xc hp hm h (by simp) (by simp [hp])
  ·have hne : ¬ ((l.length : Int) = most) := by omega
   obtain ⟨n, hn⟩ : ∃ n, most - l.length = n + 1 := ⟨most - l.length - 1, by omega⟩
   simp only [hn] at h
   simp only [Xe, Xs, hbg, if_true] at h
   simp [hp, hS, hne, hrc, X9i]
   refine hr _ _ _ ?_
   cases ha : read ts1 with
   | err ts' e =>
    simp only [ha] at h
    simp
    refine rp _ _ _ ?_
    simp
    exact Xc hp hm h (by simp) (by simp [hp])
   | ok a ts' =>
    simp only [ha] at h
    simp [hp, hS, hsh]
    refine ⟨by omega, ?_⟩
    refine rn [] (l ++ [a], ts') _ _ ⟨by simp; omega, ?_⟩ (by simp; omega) (by simp) (by simp [hp]) (by simp [hp, hv1]) ?_
    ·simp only [List.length_append, List.length_singleton, show most - (l.length + 1) = n by omega]
     rw [Xe]
     cases hl2 : Xs begins read n ts' with
     | err ts2 e => simp only [hl2] at h; exact h
     | ok l2 ts2 => simp only [hl2] at h; simpa using h
    ·simp
     refine noMenO_set_box _ _ _ _ _ (Xp _ hm) ?_
     have := Y8 (Xp 1 (l := []) hm) hp
     simpa [pv] using this
theorem X85 {α : Type} {enc : α → D} (hsh : ∀ a, (enc a).shape = .node [.leaf, .leaf, .leaf, .leaf, .leaf]) (begins : List Tok → Bool) (read : M α) (most : Nat) (hmost : most ≤ 1000) (bf rf : Nat) (bfi bca rfi rca : List V) (hbc : Xg P.p bf = true) (hrc : Xg P.p rf = true)
  (x : Nat) (hx : fresh ob = x) (hb : ∀ (ts : List Tok) (o : Ob) (K : Out → Objs → Prop), K (.ret (.d (.bool (begins ts)))) ((x, o) :: setO ob p (pb ts en S)) → ACall P bf (bfi ++ bca) ((x, o) :: setO ob p (pb ts en S)) K)
  (hr : ∀ (ts : List Tok) (o : Ob) (K : Out → Objs → Prop), PK K ((x, o) :: setO ob p (pb ts en S)) p en S (fun a => .d (enc a)) (read ts) → ACall P rf (rfi ++ rca) ((x, o) :: setO ob p (pb ts en S)) K)
  (h : PK K ob p en S (fun l => .d (.list 5 (l.map enc))) (Xs begins read most ts)) : ACall P 75 [.ptr p [], .d (.int .i64 most), .fn bf bfi bca, .fn rf rfi rca] ob K := by
 subst hx
 refine acall_lift hP mixed Yrv Ytq TOk.nil fun hv hm => ?_
 have hv1 := V.mens_mono (p := young (fresh ob + 1) []) (q := young (fresh ob) []) (fun j e => by simp [young] at e ⊢; omega) _ (hv [])
 simp at hv1
 simp [Yuw, hp, hS]
 refine ALoop.go (ι := List α × List Tok) (fun j => [(0, .ptr p []), (1, .d (.int .i64 most)), (2, .fn bf bfi bca), (3, .fn rf rfi rca), (8, .sl (fresh ob) j.1.length)])
  (fun j => (fresh ob, .arr 112 5 (j.1.map enc)) :: setO ob p (pb j.2 en S))
  (fun j => j.1.length ≤ most ∧ PK K ob p en S (fun l => .d (.list 5 (l.map enc))) ((Xs begins read (most - j.1.length) >>= fun l => pure (j.1 ++ l)) j.2)) (fun j => most - j.1.length) ([], ts) ⟨by simp, ?_⟩ (by simp) (by simp [Yk hp]) ?_
 ·simp only [List.length_nil, Nat.sub_zero, List.nil_append]
  rw [Xe]
  cases hr : Xs begins read most ts with
  | ok a ts' => rw [hr] at h; exact h
  | err ts' e => rw [hr] at h; exact h
 rintro ⟨l, ts1⟩ ⟨hl, h⟩ R rn re rr rp
 dsimp only at hl h rn
 simp [Yao, hp, hS, hbc]
 refine hb _ _ _ ?_
 cases hbg : begins ts1 with
 | false =>
  simp [hp, hS]
  refine re _ _ _ ?_
  have h' : PK K ob p en S (fun l => .d (.list 5 (l.map enc))) (.ok l ts1) := by
   rw [Xe] at h
   cases hn : most - l.length <;> simpa [hn, Xs, hbg] using h
  simp [hp, hS]
  exact Xc hp hm h' (by simp) (by simp [hp])
 | true =>
  by_cases he : l.length = most
  ·simp [he, Xs, hbg, Xe] at h
   simp [hp, hS, he]
   refine W4 hP hS (ts := ts1) (en := en) (S := S) (by simp [hp]) _ ?_
   simp [hp]
   refine rp _ _ _ ?_
   simp
   exact Xc hp hm h (by simp) (by simp [hp])
  ·have hne : ¬ ((l.length : Int) = most) := by omega
   obtain ⟨n, hn⟩ : ∃ n, most - l.length = n + 1 := ⟨most - l.length - 1, by omega⟩
   simp only [hn] at h
   simp only [Xe, Xs, hbg, if_true] at h
   simp [hp, hS, hne, hrc, X82]
   refine hr _ _ _ ?_
   cases ha : read ts1 with
   | err ts' e =>
    simp only [ha] at h
    simp
    refine rp _ _ _ ?_
    simp
    exact Xc hp hm h (by simp) (by simp [hp])
   | ok a ts' =>
    simp only [ha] at h
    simp [hp, hS, hsh]
    refine ⟨by omega, ?_⟩
    refine rn [] (l ++ [a], ts') _ _ ⟨by simp; omega, ?_⟩ (by simp; omega) (by simp) (by simp [hp]) (by simp [hp, hv1]) ?_
    ·simp only [List.length_append, List.length_singleton, show most - (l.length + 1) = n by omega]
     rw [Xe]
     cases hl2 : Xs begins read n ts' with
     | err ts2 e => simp only [hl2] at h; exact h
     | ok l2 ts2 => simp only [hl2] at h; simpa using h
    ·simp
     refine noMenO_set_box _ _ _ _ _ (Xp _ hm) ?_
     have := Y8 (Xp 1 (l := []) hm) hp
     simpa [pv] using this
theorem X8f {α : Type} {enc : α → D} (hsh : ∀ a, (enc a).shape = .node [.leaf, .leaf, .leaf, .leaf]) (begins : List Tok → Bool) (read : M α) (most : Nat) (hmost : most ≤ 1000) (bf rf : Nat) (bfi bca rfi rca : List V) (hbc : Xg P.p bf = true) (hrc : Xg P.p rf = true)
  (x : Nat) (hx : fresh ob = x) (hb : ∀ (ts : List Tok) (o : Ob) (K : Out → Objs → Prop), K (.ret (.d (.bool (begins ts)))) ((x, o) :: setO ob p (pb ts en S)) → ACall P bf (bfi ++ bca) ((x, o) :: setO ob p (pb ts en S)) K)
  (hr : ∀ (ts : List Tok) (o : Ob) (K : Out → Objs → Prop), PK K ((x, o) :: setO ob p (pb ts en S)) p en S (fun a => .d (enc a)) (read ts) → ACall P rf (rfi ++ rca) ((x, o) :: setO ob p (pb ts en S)) K)
  (h : PK K ob p en S (fun l => .d (.list 4 (l.map enc))) (Xs begins read most ts)) : ACall P 77 [.ptr p [], .d (.int .i64 most), .fn bf bfi bca, .fn rf rfi rca] ob K := by
 subst hx
 refine acall_lift hP mixed Yve Ytk TOk.nil fun hv hm => ?_
 have hv1 := V.mens_mono (p := young (fresh ob + 1) []) (q := young (fresh ob) []) (fun j e => by simp [young] at e ⊢; omega) _ (hv [])
 simp at hv1
 simp [Ys4, hp, hS]
 refine ALoop.go (ι := List α × List Tok) (fun j => [(0, .ptr p []), (1, .d (.int .i64 most)), (2, .fn bf bfi bca), (3, .fn rf rfi rca), (8, .sl (fresh ob) j.1.length)])
  (fun j => (fresh ob, .arr 107 4 (j.1.map enc)) :: setO ob p (pb j.2 en S))
  (fun j => j.1.length ≤ most ∧ PK K ob p en S (fun l => .d (.list 4 (l.map enc))) ((Xs begins read (most - j.1.length) >>= fun l => pure (j.1 ++ l)) j.2)) (fun j => most - j.1.length) ([], ts) ⟨by simp, ?_⟩ (by simp) (by simp [Yk hp]) ?_
 ·simp only [List.length_nil, Nat.sub_zero, List.nil_append]
  rw [Xe]
  cases hr : Xs begins read most ts with
  | ok a ts' => rw [hr] at h; exact h
  | err ts' e => rw [hr] at h; exact h
 rintro ⟨l, ts1⟩ ⟨hl, h⟩ R rn re rr rp
 dsimp only at hl h rn
 simp [X8t, hp, hS, hbc]
 refine hb _ _ _ ?_
 cases hbg : begins ts1 with
 | false =>
  simp [hp, hS]
  refine re _ _ _ ?_
  have h' : PK K ob p en S (fun l => .d (.list 4 (l.map enc))) (.ok l ts1) := by
   rw [Xe] at h
   cases hn : most - l.length <;> simpa [hn, Xs, hbg] using h
  simp [hp, hS]
  exact Xc hp hm h' (by simp) (by simp [hp])
 | true =>
  by_cases he : l.length = most
  ·simp [he, Xs, hbg, Xe] at h
   simp [hp, hS, he]
   refine W4 hP hS (ts := ts1) (en := en) (S := S) (by simp [hp]) _ ?_
   simp [hp]
   refine rp _ _ _ ?_
   simp
   exact Xc hp hm h (by simp) (by simp [hp])
  ·have hne : ¬ ((l.length : Int) = most) := by omega
   obtain ⟨n, hn⟩ : ∃ n, most - l.length = n + 1 := ⟨most - l.length - 1, by omega⟩
   simp only [hn] at h
   simp only [Xe, Xs, hbg, if_true] at h
   simp [hp, hS, hne, hrc, X9y]
   refine hr _ _ _ ?_
   cases ha : read ts1 with
   | err ts' e =>
    simp only [ha] at h
    simp
    refine rp _ _ _ ?_
    simp
    exact Xc hp hm h (by simp) (by simp [hp])
   | ok a ts' =>
    simp only [ha] at h
    simp [hp, hS, hsh]
    refine ⟨by omega, ?_⟩
    refine rn [] (l ++ [a], ts') _ _ ⟨by simp; omega, ?_⟩ (by simp; omega) (by simp) (by simp [hp]) (by simp [hp, hv1]) ?_
    ·simp only [List.length_append, List.length_singleton, show most - (l.length + 1) = n by omega]
     rw [Xe]
     cases hl2 : Xs begins read n ts' with
     | err ts2 e => simp only [hl2] at h; exact h
     | ok l2 ts2 => simp only [hl2] at h; simpa using h
    ·simp
     refine noMenO_set_box _ _ _ _ _ (Xp _ hm) ?_
     have := Y8 (Xp 1 (l := []) hm) hp
     simpa [pv] using this
theorem X6m {α : Type} {enc : α → D} (hsh : ∀ a, (enc a).shape = .leaf) (begins : List Tok → Bool) (read : M α) (most : Nat) (hmost : most ≤ 1000) (bf rf : Nat) (bfi bca rfi rca : List V) (hbc : Xg P.p bf = true) (hrc : Xg P.p rf = true)
  (x : Nat) (hx : fresh ob = x) (hb : ∀ (ts : List Tok) (o : Ob) (K : Out → Objs → Prop), K (.ret (.d (.bool (begins ts)))) ((x, o) :: setO ob p (pb ts en S)) → ACall P bf (bfi ++ bca) ((x, o) :: setO ob p (pb ts en S)) K)
  (hr : ∀ (ts : List Tok) (o : Ob) (K : Out → Objs → Prop), PK K ((x, o) :: setO ob p (pb ts en S)) p en S (fun a => .d (enc a)) (read ts) → ACall P rf (rfi ++ rca) ((x, o) :: setO ob p (pb ts en S)) K)
  (h : PK K ob p en S (fun l => .d (.list 1 (l.map enc))) (Xs begins read most ts)) : ACall P 176 [.ptr p [], .d (.int .i64 most), .fn bf bfi bca, .fn rf rfi rca] ob K := by
 subst hx
 refine acall_lift hP mixed Yil Yki TOk.nil fun hv hm => ?_
 have hv1 := V.mens_mono (p := young (fresh ob + 1) []) (q := young (fresh ob) []) (fun j e => by simp [young] at e ⊢; omega) _ (hv [])
 simp at hv1
 simp [Yhs, hp, hS]
 refine ALoop.go (ι := List α × List Tok) (fun j => [(0, .ptr p []), (1, .d (.int .i64 most)), (2, .fn bf bfi bca), (3, .fn rf rfi rca), (8, .sl (fresh ob) j.1.length)])
  (fun j => (fresh ob, .arr 9 1 (j.1.map enc)) :: setO ob p (pb j.2 en S))
  (fun j => j.1.length ≤ most ∧ PK K ob p en S (fun l => .d (.list 1 (l.map enc))) ((Xs begins read (most - j.1.length) >>= fun l => pure (j.1 ++ l)) j.2)) (fun j => most - j.1.length) ([], ts) ⟨by simp, ?_⟩ (by simp) (by simp [Yk hp]) ?_
 ·simp only [List.length_nil, Nat.sub_zero, List.nil_append]
  rw [Xe]
  cases hr : Xs begins read most ts with
  | ok a ts' => rw [hr] at h; exact h
  | err ts' e => rw [hr] at h; exact h
 rintro ⟨l, ts1⟩ ⟨hl, h⟩ R rn re rr rp
 dsimp only at hl h rn
 simp [X00, hp, hS, hbc]
 refine hb _ _ _ ?_
 cases hbg : begins ts1 with
 | false =>
  simp [hp, hS]
  refine re _ _ _ ?_
  have h' : PK K ob p en S (fun l => .d (.list 1 (l.map enc))) (.ok l ts1) := by
   rw [Xe] at h
   cases hn : most - l.length <;> simpa [hn, Xs, hbg] using h
  simp [hp, hS]
  exact Xc hp hm h' (by simp) (by simp [hp])
 | true =>
  by_cases he : l.length = most
  ·simp [he, Xs, hbg, Xe] at h
   simp [hp, hS, he]
   refine W4 hP hS (ts := ts1) (en := en) (S := S) (by simp [hp]) _ ?_
   simp [hp]
   refine rp _ _ _ ?_
   simp
   exact Xc hp hm h (by simp) (by simp [hp])
  ·have hne : ¬ ((l.length : Int) = most) := by omega
   obtain ⟨n, hn⟩ : ∃ n, most - l.length = n + 1 := ⟨most - l.length - 1, by omega⟩
   simp only [hn] at h
   simp only [Xe, Xs, hbg, if_true] at h
   simp [hp, hS, hne, hrc, X0t]
   refine hr _ _ _ ?_
   cases ha : read ts1 with
   | err ts' e =>
    simp only [ha] at h
    simp
    refine rp _ _ _ ?_
    simp
    exact Xc hp hm h (by simp) (by simp [hp])
   | ok a ts' =>
    simp only [ha] at h
    simp [hp, hS, hsh]
    refine ⟨by omega, ?_⟩
    refine rn [] (l ++ [a], ts') _ _ ⟨by simp; omega, ?_⟩ (by simp; omega) (by simp) (by simp [hp]) (by simp [hp, hv1]) ?_
    ·simp only [List.length_append, List.length_singleton, show most - (l.length + 1) = n by omega]
     rw [Xe]
     cases hl2 : Xs begins read n ts' with
     | err ts2 e => simp only [hl2] at h; exact h
     | ok l2 ts2 => simp only [hl2] at h; simpa using h
    ·simp
     refine noMenO_set_box _ _ _ _ _ (Xp _ hm) ?_
     have := Y8 (Xp 1 (l := []) hm) hp
     simpa [pv] using this
end
end Go.Proofs.YtanpgmgkmfckaaaGreatDoor
/- Contracts: names with commas, types, fields, dependencies. Condition: the program is the seat's, and its intervals are laid. -/
namespace Go.Proofs.YtanpgmgkmfckaaaGreatDoor
open Go Go.Ab Go.Lx Go.Sx
set_option maxRecDepth 100000
attribute [local simp ↓] ql qn qo qi qh qj qk qm zt zp zr zu zq zl zm zk zo zn qq qp qw qx zg qy qv qr zh qu qt qs qz zb za zd ze zf zx zw zz zy qb qa qd qc qe qg qf zj zi
section
variable {P : Prg} (hP : P.p = Tryz.prog) {ob : Objs} {p : Nat} {ts : List Tok} {en : Int} {S : V} (hS : V.allD [S] = none) (hp : lookO ob p = some (pb ts en S)) {K : Out → Objs → Prop}
include hP
theorem Uk : Xg P.p 175 = true ∧ Xg P.p 177 = true ∧ Xg P.p 137 = true ∧ Xg P.p 70 = true ∧ Xg P.p 72 = true ∧ Xg P.p 74 = true ∧ Xg P.p 76 = true ∧ Xg P.p 78 = true := by
 rw [hP]; exact ⟨by kernel_rfl, by kernel_rfl, by kernel_rfl, by kernel_rfl, by kernel_rfl, by kernel_rfl, by kernel_rfl, by kernel_rfl⟩
include hS hp
theorem Xwt {b1 : Nat} (h1 : lookO ob b1 = some (.box 63 (.ptr p []))) (h : K (.ret (.d (.bool (Xj 3 [44] ts)))) (setO ob p (pb ts en S))) : ACall P 175 [.ptr b1 []] ob K := by
 refine acall_lift hP mixed Yhy Ylk TOk.nil fun _ hm => ?_
 simp [Yj7, hp, h1]
 refine Xab hP hS hp _ _ ?_
 simp [hp]
 exact Xc hp hm h (by simp) (by simp [hp])
theorem Xvt {b1 : Nat} (h1 : lookO ob b1 = some (.box 63 (.ptr p []))) (h : PK K ob p en S (fun a => .d (.str a)) ((do X2 [44]; X9 : M B) ts)) : ACall P 177 [.ptr b1 []] ob K := by
 have hbp : (b1 == p) = false := by rw [beq_eq_false_iff_ne]; intro e; subst e; rw [h1] at hp; cases hp
 have hpb : (p == b1) = false := by rw [beq_eq_false_iff_ne]; intro e; subst e; rw [h1] at hp; cases hp
 refine acall_lift hP mixed Yjr Ylm TOk.nil fun _ hm => ?_
 simp [Ylt, hp, h1]
 refine Yh hP hS hp _ (PK.bind h (fun ts' e h => ?_) (fun a ts' ha h => ?_))
 ·simp
  exact Xc hp hm h (by simp) (by simp [hp])
 simp [hp, h1, hbp, hpb]
 refine Zd hP hS (by simp [hp]) (PK.tail h (fun ts' e h => ?_) (fun a ts' ha h => ?_))
 ·simp
  exact Xc hp hm h (by simp) (by simp [hp])
 simp [hp, h1]
 exact Xc hp hm h (by simp) (by simp [hp])
theorem Xpm (most : Nat) (h0 : 1 ≤ most) (hmost : most ≤ 1000) (h : PK K ob p en S (fun l => .d (Xh l)) (Vb most ts)) : ACall P 136 [.ptr p [], .d (.int .i64 most)] ob K := by
 refine acall_lift hP mixed Yl2 Yju TOk.nil fun _ hm => ?_
 simp [Yl7, hp, hS]
 refine Zd hP hS (by simp [hp]) (PK.bind h (fun ts' e h => ?_) (fun a ts' ha h => ?_))
 ·simp
  exact Xc hp hm h (by simp) (by simp [hp])
 simp [hp, hS]
 have hw : IntKind.i64.wrap ((most : Int) - 1) = ((most - 1 : Nat) : Int) := by rw [IntWalk.i64_in _ (by omega)]; omega
 rw [hw]
 refine X6m hP hS (by simp [hp]) (enc := D.str) (fun _ => rfl) (Xj 3 [44]) (do X2 [44]; X9) (most - 1) (by omega) _ _ [] _ [] _ (Uk hP).1 (Uk hP).2.1 _ rfl (fun ts o K h => ?_) (fun ts o K h => ?_) (PK.bind h (fun ts' e h => ?_) (fun l ts' ha h => ?_))
 ·exact Xwt hP hS (p := p) (ts := ts) (en := en) (by simp [hp]) (by simp [hp]) (by simpa [hp] using h)
 ·exact Xvt hP hS (p := p) (ts := ts) (en := en) (by simp [hp]) (by simp [hp]) (by simpa [hp] using h)
 ·simp [hp]
  exact Xc hp hm h (by simp) (by simp [hp])
 have hl := Xde ha
 simp [hp, show 1 + l.length = l.length + 1 by omega]
 refine ⟨by omega, ?_⟩
 exact Xc hp hm h (by simp) (by simp [hp])
theorem Yc6 (hI : Ivl P) (h : PK K ob p en S (fun x => .d x.enc) (Xb9 ts)) : ACall P 135 [.ptr p []] ob K := by
 refine acall_lift hP mixed Yk7 Ylo TOk.nil fun _ hm => ?_
 simp [Yhg, hp, hS, hI.factors, hI.editions, hI.mosts, hI.weights, hI.anyN]
 refine Y7 hP hS (by simp [hp]) _ _ (PK.bind h (fun ts' e h => ?_) (fun a ts' ha h => ?_))
 ·simp
  exact Xc hp hm h (by simp) (by simp [hp])
 cases a
 ·skip
  simp only [Bool.false_eq_true, if_false, if_true, Xx, Ys] at h
  simp [hp, hS, hI.factors, hI.editions, hI.mosts, hI.weights, hI.anyN]
  refine Y7 hP hS (by simp [hp]) _ _ (PK.bind h (fun ts' e h => ?_) (fun a ts' ha h => ?_))
  ·simp
   exact Xc hp hm h (by simp) (by simp [hp])
  cases a
  ·skip
   simp only [Bool.false_eq_true, if_false, if_true, Xx, Ys] at h
   simp [hp, hS, hI.factors, hI.editions, hI.mosts, hI.weights, hI.anyN]
   refine Y7 hP hS (by simp [hp]) _ _ (PK.bind h (fun ts' e h => ?_) (fun a ts' ha h => ?_))
   ·simp
    exact Xc hp hm h (by simp) (by simp [hp])
   cases a
   ·skip
    simp only [Bool.false_eq_true, if_false, if_true, Xx, Ys] at h
    simp [hp, hS, hI.factors, hI.editions, hI.mosts, hI.weights, hI.anyN]
    refine Y7 hP hS (by simp [hp]) _ _ (PK.bind h (fun ts' e h => ?_) (fun a ts' ha h => ?_))
    ·simp
     exact Xc hp hm h (by simp) (by simp [hp])
    cases a
    ·skip
     simp only [Bool.false_eq_true, if_false, if_true, Xx, Ys] at h
     simp [hp, hS, hI.factors, hI.editions, hI.mosts, hI.weights, hI.anyN]
     refine W4 hP hS (ts := ts') (en := en) (S := S) (by simp [hp]) _ ?_
     simp [hp]
     exact Xc hp hm h (by simp) (by simp [hp])
    ·skip
     simp only [Bool.false_eq_true, if_false, if_true, Xx, Ys] at h
     simp [hp, hS, hI.factors, hI.editions, hI.mosts, hI.weights, hI.anyN]
     refine Xpm hP hS (by simp [hp]) 16 (by decide) (by decide) (PK.bind h (fun ts' e h => ?_) (fun l ts' ha h => ?_))
     ·simp
      exact Xc hp hm h (by simp) (by simp [hp])
     have hl := Xkg ha
     have hw : IntKind.i64.wrap ((l.length : Int) - 1) = (l.length : Int) - 1 := IntWalk.i64_in _ (by omega)
     simp [hp, hS, Xh, hw, J8]
     exact Xc hp hm h (by simp) (by simp [hp])
   ·skip
    simp only [Bool.false_eq_true, if_false, if_true, Xx, Ys] at h
    simp [hp, hS, hI.factors, hI.editions, hI.mosts, hI.weights, hI.anyN, J8]
    exact Xc hp hm h (by simp) (by simp [hp])
  ·skip
   simp only [Bool.false_eq_true, if_false, if_true, Xx, Ys] at h
   simp [hp, hS, hI.factors, hI.editions, hI.mosts, hI.weights, hI.anyN, J8]
   exact Xc hp hm h (by simp) (by simp [hp])
 ·skip
  simp only [Bool.false_eq_true, if_false, if_true, Xx, Ys] at h
  simp [hp, hS, hI.factors, hI.editions, hI.mosts, hI.weights, hI.anyN]
  refine Zj hP hS (by simp [hp]) _ _ (PK.bind h (fun ts' e h => ?_) (fun a ts' ha h => ?_))
  ·simp
   exact Xc hp hm h (by simp) (by simp [hp])
  simp [hp, hS, hI.factors, hI.editions, hI.mosts, hI.weights, hI.anyN]
  refine Zx hP hS (by simp [hp]) _ (PK.bind h (fun ts' e h => ?_) (fun a ts' ha h => ?_))
  ·simp
   exact Xc hp hm h (by simp) (by simp [hp])
  simp [hp, hS, hI.factors, hI.editions, hI.mosts, hI.weights, hI.anyN]
  refine Zj hP hS (by simp [hp]) _ _ (PK.bind h (fun ts' e h => ?_) (fun a ts' ha h => ?_))
  ·simp
   exact Xc hp hm h (by simp) (by simp [hp])
  simp [hp, hS, hI.factors, hI.editions, hI.mosts, hI.weights, hI.anyN]
  refine Y7 hP hS (by simp [hp]) _ _ (PK.bind h (fun ts' e h => ?_) (fun a ts' ha h => ?_))
  ·simp
   exact Xc hp hm h (by simp) (by simp [hp])
  cases a
  ·skip
   simp only [Bool.false_eq_true, if_false, if_true, Xx, Ys] at h
   simp [hp, hS, hI.factors, hI.editions, hI.mosts, hI.weights, hI.anyN, J8]
   exact Xc hp hm h (by simp) (by simp [hp])
  ·skip
   simp only [Bool.false_eq_true, if_false, if_true, Xx, Ys] at h
   simp [hp, hS, hI.factors, hI.editions, hI.mosts, hI.weights, hI.anyN]
   refine Zd hP hS (by simp [hp]) (PK.bind h (fun ts' e h => ?_) (fun a ts' ha h => ?_))
   ·simp
    exact Xc hp hm h (by simp) (by simp [hp])
   simp [hp, hS, hI.factors, hI.editions, hI.mosts, hI.weights, hI.anyN, J8]
   exact Xc hp hm h (by simp) (by simp [hp])
theorem X8l (hI : Ivl P) (h : PK K ob p en S (fun x => .d x.enc) (Qb ts)) : ACall P 66 [.ptr p []] ob K := by
 refine acall_lift hP mixed Ytl Yvd TOk.nil fun _ hm => ?_
 simp [Ytw, hp, hS, hI.factors, hI.editions, hI.mosts, hI.weights, hI.anyN]
 refine Zx hP hS (by simp [hp]) _ (PK.bind h (fun ts' e h => ?_) (fun a ts' ha h => ?_))
 ·simp
  exact Xc hp hm h (by simp) (by simp [hp])
 simp [hp, hS, hI.factors, hI.editions, hI.mosts, hI.weights, hI.anyN]
 refine Zd hP hS (by simp [hp]) (PK.bind h (fun ts' e h => ?_) (fun a ts' ha h => ?_))
 ·simp
  exact Xc hp hm h (by simp) (by simp [hp])
 simp [hp, hS, hI.factors, hI.editions, hI.mosts, hI.weights, hI.anyN]
 refine Yh hP hS (by simp [hp]) _ (PK.bind h (fun ts' e h => ?_) (fun a ts' ha h => ?_))
 ·simp
  exact Xc hp hm h (by simp) (by simp [hp])
 simp [hp, hS, hI.factors, hI.editions, hI.mosts, hI.weights, hI.anyN]
 refine Yc6 hP hS (by simp [hp]) hI (PK.bind h (fun ts' e h => ?_) (fun a ts' ha h => ?_))
 ·simp
  exact Xc hp hm h (by simp) (by simp [hp])
 simp [hp, hS, hI.factors, hI.editions, hI.mosts, hI.weights, hI.anyN]
 refine Xjj hP hS (by simp [hp]) hI (PK.bind h (fun ts' e h => ?_) (fun l ts' ha h => ?_))
 ·simp
  exact Xc hp hm h (by simp) (by simp [hp])
 obtain ⟨a0, b0, c0, d0, rfl⟩ := Ux ha
 simp [hp, hS]
 refine Yh hP hS (by simp [hp]) _ (PK.bind h (fun ts' e h => ?_) (fun a ts' ha h => ?_))
 ·simp
  exact Xc hp hm h (by simp) (by simp [hp])
 simp [hp, hS, hI.factors, hI.editions, hI.mosts, hI.weights, hI.anyN]
 exact Xc hp hm h (by simp) (by simp [hp])
theorem X1i (h : PK K ob p en S (fun x => .d x.enc) (U5 ts)) : ACall P 67 [.ptr p []] ob K := by
 refine acall_lift hP mixed Ytz Yuh TOk.nil fun _ hm => ?_
 simp [Yua, hp, hS]
 refine Zx hP hS (by simp [hp]) _ (PK.bind h (fun ts' e h => ?_) (fun a ts' ha h => ?_))
 ·simp
  exact Xc hp hm h (by simp) (by simp [hp])
 simp [hp, hS]
 refine Xpm hP hS (by simp [hp]) 11 (by decide) (by decide) (PK.bind h (fun ts' e h => ?_) (fun l ts' ha h => ?_))
 ·simp
  exact Xc hp hm h (by simp) (by simp [hp])
 simp [hp, hS, Xh]
 refine Zx hP hS (by simp [hp]) _ (PK.bind h (fun ts' e h => ?_) (fun a ts' ha h => ?_))
 ·simp
  exact Xc hp hm h (by simp) (by simp [hp])
 simp [hp, hS]
 refine Zd hP hS (by simp [hp]) (PK.bind h (fun ts' e h => ?_) (fun a ts' ha h => ?_))
 ·simp
  exact Xc hp hm h (by simp) (by simp [hp])
 simp [hp, hS]
 refine Yh hP hS (by simp [hp]) _ (PK.bind h (fun ts' e h => ?_) (fun a ts' ha h => ?_))
 ·simp
  exact Xc hp hm h (by simp) (by simp [hp])
 simp [hp, hS]
 exact Xc hp hm h (by simp) (by simp [hp])
end
end Go.Proofs.YtanpgmgkmfckaaaGreatDoor
/- Contracts: the definitions. Condition: the program is the seat's, and its intervals are laid. -/
namespace Go.Proofs.YtanpgmgkmfckaaaGreatDoor
open Go Go.Ab Go.Lx Go.Sx
set_option maxRecDepth 100000
attribute [local simp ↓] ql qn qo qi qh qj qk qm zt zp zr zu zq zl zm zk zo zn qq qp qw qx zg qy qv qr zh qu qt qs qz zb za zd ze zf zx zw zz zy qb qa qd qc qe qg qf zj zi
section
variable {P : Prg} (hP : P.p = Tryz.prog) (hI : Ivl P) {ts : List Tok} {en : Int} {s : Src} (hs : Few s) {K : Out → Objs → Prop}
include hP hI hs
theorem X0v (h : PS K en (U1 s ts)) : ACall P 19 [.ptr 4 []] (stO en ts s) K := by
 refine acall_lift hP mixed Ytn Yvu TOk.nil fun _ hm => ?_
 simp [Ywd, hI.factors, hI.editions, hI.mosts, hI.weights, hI.anyN]
 refine Xbg hP (S := Yy s) (by simp) (by simp) _ 8 (PS.bind h (fun ts' e h => ?_) (fun a ts' ha h => ?_))
 ·simp
  exact Xm (h s) (by simp) (by simp [young])
 simp [hI.factors, hI.editions, hI.mosts, hI.weights, hI.anyN]
 refine Zx hP (S := Yy s) (by simp) (by simp) _ (PS.bind h (fun ts' e h => ?_) (fun a ts' ha h => ?_))
 ·simp
  exact Xm (h s) (by simp) (by simp [young])
 simp [hI.factors, hI.editions, hI.mosts, hI.weights, hI.anyN]
 refine ⟨?_, ?_⟩
 ·skip
  refine Zd hP (S := Yy s) (by simp) (by simp) (PS.bind h (fun ts' e h => ?_) (fun a ts' ha h => ?_))
  ·simp
   exact Xm (h s) (by simp) (by simp [young])
  simp [hI.factors, hI.editions, hI.mosts, hI.weights, hI.anyN]
  refine ⟨by have := hs.issuers; omega, ?_⟩
  refine Yh hP (S := Yy { s with issuers := s.issuers ++ [a] }) (by simp) (by simp) _ (PS.bind h (fun ts' e h => ?_) (fun a ts' ha h => ?_))
  ·simp
   exact Xm (h { s with issuers := s.issuers ++ [a] }) (by simp) (by simp [young])
  simp [hI.factors, hI.editions, hI.mosts, hI.weights, hI.anyN]
  exact Xm h (by simp) (by simp)
 ·skip
  refine Zd hP (S := Yy s) (by simp) (by simp) (PS.bind h (fun ts' e h => ?_) (fun a ts' ha h => ?_))
  ·simp
   exact Xm (h s) (by simp) (by simp [young])
  simp [hI.factors, hI.editions, hI.mosts, hI.weights, hI.anyN]
  refine ⟨by have := hs.issuers; omega, ?_⟩
  refine Yh hP (S := Yy { s with issuers := s.issuers ++ [a] }) (by simp) (by simp) _ (PS.bind h (fun ts' e h => ?_) (fun a ts' ha h => ?_))
  ·simp
   exact Xm (h { s with issuers := s.issuers ++ [a] }) (by simp) (by simp [young])
  simp [hI.factors, hI.editions, hI.mosts, hI.weights, hI.anyN]
  exact Xm h (by simp) (by simp)
end
end Go.Proofs.YtanpgmgkmfckaaaGreatDoor
/- Contracts: the definitions. Condition: the program is the seat's, and its intervals are laid. -/
namespace Go.Proofs.YtanpgmgkmfckaaaGreatDoor
open Go Go.Ab Go.Lx Go.Sx
set_option maxRecDepth 100000
attribute [local simp ↓] ql qn qo qi qh qj qk qm zt zp zr zu zq zl zm zk zo zn qq qp qw qx zg qy qv qr zh qu qt qs qz zb za zd ze zf zx zw zz zy qb qa qd qc qe qg qf zj zi
section
variable {P : Prg} (hP : P.p = Tryz.prog) (hI : Ivl P) {ts : List Tok} {en : Int} {s : Src} (hs : Few s) {K : Out → Objs → Prop}
include hP hI hs
theorem Yel (h : PS K en (Xi1 s ts)) : ACall P 20 [.ptr 4 []] (stO en ts s) K := by
 refine acall_lift hP mixed Yr7 Yvq TOk.nil fun _ hm => ?_
 simp [Yv6, hI.factors, hI.editions, hI.mosts, hI.weights, hI.anyN]
 refine Xbg hP (S := Yy s) (by simp) (by simp) _ 16 (PS.bind h (fun ts' e h => ?_) (fun a ts' ha h => ?_))
 ·simp
  exact Xm (h s) (by simp) (by simp [young])
 simp [hI.factors, hI.editions, hI.mosts, hI.weights, hI.anyN]
 refine Zx hP (S := Yy s) (by simp) (by simp) _ (PS.bind h (fun ts' e h => ?_) (fun a ts' ha h => ?_))
 ·simp
  exact Xm (h s) (by simp) (by simp [young])
 simp [hI.factors, hI.editions, hI.mosts, hI.weights, hI.anyN]
 refine Zd hP (S := Yy s) (by simp) (by simp) (PS.bind h (fun ts' e h => ?_) (fun a ts' ha h => ?_))
 ·simp
  exact Xm (h s) (by simp) (by simp [young])
 simp [hI.factors, hI.editions, hI.mosts, hI.weights, hI.anyN]
 refine Y7 hP (S := Yy s) (by simp) (by simp) _ _ (PS.bind h (fun ts' e h => ?_) (fun a ts' ha h => ?_))
 ·simp
  exact Xm (h s) (by simp) (by simp [young])
 cases a
 ·skip
  simp only [Bool.false_eq_true, if_false, if_true, Xx, Ys] at h
  simp [hI.factors, hI.editions, hI.mosts, hI.weights, hI.anyN, Xtd]
  refine Yh hP (S := Yy s) (by simp) (by simp) _ (PS.bind h (fun ts' e h => ?_) (fun a ts' ha h => ?_))
  ·simp
   exact Xm (h s) (by simp) (by simp [young])
  simp [hI.factors, hI.editions, hI.mosts, hI.weights, hI.anyN]
  refine ⟨by have := hs.units; omega, ?_⟩
  exact Xm h (by simp) (by simp [young, UnitT.enc])
 ·skip
  simp only [Bool.false_eq_true, if_false, if_true, Xx, Ys] at h
  simp [hI.factors, hI.editions, hI.mosts, hI.weights, hI.anyN]
  refine Zj hP (S := Yy s) (by simp) (by simp) _ _ (PS.bind h (fun ts' e h => ?_) (fun a ts' ha h => ?_))
  ·simp
   exact Xm (h s) (by simp) (by simp [young])
  simp [hI.factors, hI.editions, hI.mosts, hI.weights, hI.anyN]
  refine Zd hP (S := Yy s) (by simp) (by simp) (PS.bind h (fun ts' e h => ?_) (fun a ts' ha h => ?_))
  ·simp
   exact Xm (h s) (by simp) (by simp [young])
  simp [hI.factors, hI.editions, hI.mosts, hI.weights, hI.anyN, Xtd]
  refine Yh hP (S := Yy s) (by simp) (by simp) _ (PS.bind h (fun ts' e h => ?_) (fun a ts' ha h => ?_))
  ·simp
   exact Xm (h s) (by simp) (by simp [young])
  simp [hI.factors, hI.editions, hI.mosts, hI.weights, hI.anyN]
  refine ⟨by have := hs.units; omega, ?_⟩
  exact Xm h (by simp) (by simp [young, UnitT.enc])
end
end Go.Proofs.YtanpgmgkmfckaaaGreatDoor
/- The abstract statements that stand for the code of these functions, written by a program from the translation; that they do is checked by the kernel. No condition. -/
namespace Go.Proofs.YtanpgmgkmfckaaaGreatDoor
open Go Go.Ab
set_option maxRecDepth 100000
def Yes : Nat := 0x440c20c71840c2142e2c041e2c3070080b8783000
def X7t : Nat := 0x100a0c40c20c81c610308643a0eddec099347002000dac1040c20f62071840c21f5b01badb08083b74b0c0c0b7dcec001040b7dcac000080b7d003b71b04180b7dc2c001040b7dbec000080b7dbac140b7d1c002df6cb00ac141c22c78c0000821030832071840c21aa25ea6200800255da000419c1042003b661069400419000028c51c01802800020450070e11040c20e11c6103086003b603c37c47800417400027051dd786000082
def Ydr : S := zS [(zS [] Yes)] X7t
def ir9 : FSt := .pre (.rg [] [.op (some 2) (.alloc 30 (.agg [.nils, .nils, .nils, .nils, .nils, .nils])),
   .op (some 3) (.alloc 3 (.int .i64 0)),
   .op (some 4) (.alloc 31 (.int .i64 0))] [0, 2, 3, 4] [])
 (.pre (.rg [] [.op (some 10) (.c (.mv (.t 0))),
   .op (some 11) (.pcall 15 [(.t 10)]),
   .op (some 9) (.c (.mv (.t 11))),
   .op (some 12) (.c (.ext (.t 9) 0)),
   .op (some 13) (.c (.ext (.t 9) 1)),
   .op (some 14) (.c (.ext (.t 9) 2)),
   .op (some 5) (.c (.mv (.t 12))),
   .op none (.st 1 (.t 3) (.t 13)),
   .op none (.st 1 (.t 4) (.t 14))] [0, 2, 3, 4, 5] [])
 (.pre (.seq (.rg [] [.op (some 15) (.c (.ld 1 false (.t 4))),
   .op (some 16) (.c (.bin .neq (.t 15) (.int .i64 0)))] [0, 2, 3, 4, 5, 16] [])
 (.cond (.t 16) (.seq (.rgT 6 (.one 0 (.op (some 17) (.c (.ld 6 true (.t 2))))
  (.br (.cons 1 (.op (some 18) (.c (.ld 1 false (.t 3)))) (.br (.cons 2 (.op (some 19) (.c (.ld 1 false (.t 4)))) (.one 3 (.op none (.st 6 (.t 2) (.t 17)))
  (.one 4 (.op none (.st 1 (.t 3) (.t 18)))
  (.one 5 (.op none (.st 1 (.t 4) (.t 19)))
  (.done))))
  (.cons 3 (.op none (.st 6 (.t 2) (.t 17))) (.br (.cons 2 (.op (some 19) (.c (.ld 1 false (.t 4)))) (.one 4 (.op none (.st 1 (.t 3) (.t 18)))
  (.one 5 (.op none (.st 1 (.t 4) (.t 19)))
  (.done)))
  (.cons 4 (.op none (.st 1 (.t 3) (.t 18))) (.br (.cons 2 (.op (some 19) (.c (.ld 1 false (.t 4)))) (.one 5 (.op none (.st 1 (.t 4) (.t 19)))
  (.done))
  (.nil)))
  (.nil))))
  (.nil))))
  (.cons 2 (.op (some 19) (.c (.ld 1 false (.t 4)))) (.br (.cons 1 (.op (some 18) (.c (.ld 1 false (.t 3)))) (.one 3 (.op none (.st 6 (.t 2) (.t 17)))
  (.one 4 (.op none (.st 1 (.t 3) (.t 18)))
  (.one 5 (.op none (.st 1 (.t 4) (.t 19)))
  (.done))))
  (.cons 3 (.op none (.st 6 (.t 2) (.t 17))) (.br (.cons 1 (.op (some 18) (.c (.ld 1 false (.t 3)))) (.one 4 (.op none (.st 1 (.t 3) (.t 18)))
  (.one 5 (.op none (.st 1 (.t 4) (.t 19)))
  (.done)))
  (.nil)))
  (.nil))))
  (.cons 3 (.op none (.st 6 (.t 2) (.t 17))) (.br (.cons 1 (.op (some 18) (.c (.ld 1 false (.t 3)))) (.br (.cons 2 (.op (some 19) (.c (.ld 1 false (.t 4)))) (.one 4 (.op none (.st 1 (.t 3) (.t 18)))
  (.one 5 (.op none (.st 1 (.t 4) (.t 19)))
  (.done)))
  (.cons 4 (.op none (.st 1 (.t 3) (.t 18))) (.br (.cons 2 (.op (some 19) (.c (.ld 1 false (.t 4)))) (.one 5 (.op none (.st 1 (.t 4) (.t 19)))
  (.done))
  (.nil)))
  (.nil))))
  (.cons 2 (.op (some 19) (.c (.ld 1 false (.t 4)))) (.br (.cons 1 (.op (some 18) (.c (.ld 1 false (.t 3)))) (.one 4 (.op none (.st 1 (.t 3) (.t 18)))
  (.one 5 (.op none (.st 1 (.t 4) (.t 19)))
  (.done)))
  (.nil)))
  (.nil))))
  (.nil)))))) [2, 3, 4] [])
 (.ret)) (.skip)))
 (.dfr [.op (some 20) (.c (.mkf 18 [] [(.t 2), (.t 3), (.t 4)]))] [0, 2, 3, 4, 5, 20] 20
 (.seq (.rg [] [.op (some 21) (.mkm none),
   .op none (.mset (.str []) (.t 21) (.str [105, 115, 115, 117, 101, 114]) (.fn 19)),
   .op none (.mset (.str []) (.t 21) (.str [117, 110, 105, 116]) (.fn 20)),
   .op none (.mset (.str []) (.t 21) (.str [115, 99, 104, 101, 109, 97]) (.fn 21)),
   .op none (.mset (.str []) (.t 21) (.str [100, 101, 114, 105, 118, 101]) (.fn 22)),
   .op none (.mset (.str []) (.t 21) (.str [99, 111, 110, 118, 101, 114, 116]) (.fn 23)),
   .op none (.mset (.str []) (.t 21) (.str [112, 117, 114, 112, 111, 115, 101]) (.fn 24)),
   .op (some 22) (.c (.mv (.t 21))),
   .op (some 6) (.c (.mv (.t 22)))] [0, 2, 3, 4, 5, 6] [2, 3, 4])
 (.seq (.rg [] [.op (some 23) (.c (.mv (.t 5))),
   .op (some 24) (.c (.mv (.t 0))),
   .op (some 25) (.c (.lenS (.t 24))),
   .op (some 26) (.c (.bld [.nils, .int .i64 0, .agg [.nils, .nils, .nils, .nils, .nils, .nils]] [(0, (.t 23)), (1, (.t 25))])),
   .op (some 27) (.box 66 (.t 26)),
   .op (some 7) (.mvn (.t 27) (.t 27) [(9, 1, [2, 0]), (74, 5, [2, 1]), (79, 6, [2, 2]), (50, 5, [2, 3]), (84, 5, [2, 4]), (88, 3, [2, 5])])] [2, 3, 4, 6, 7] [2, 3, 4])
 (.seq (.block 0 (.loop [2, 3, 4, 6, 7] Ydr))
 (.seq (.rg [] [.op (some 60) (.c (.mv (.t 7))),
   .op (some 61) (.c (.nilc (.t 60))),
   .op (some 62) (.c (.fldA 2 2 (.t 61))),
   .op (some 63) (.ldf 6 true (.t 62)),
   .op none (.st 6 (.t 2) (.t 63)),
   .op none (.st 1 (.t 3) (.int .i64 0)),
   .op none (.st 1 (.t 4) (.int .i64 0))] [2, 3, 4] [2, 3, 4])
 (.ret))))))))
theorem ok9 : Xq2 Tryz.prog 9 1 ir9 [.c 2 6 true, .c 3 1 false, .c 4 1 false] = true := by kernel_rfl
def Yc5 : Nat := 0x1002002002e2c0f8b01507042104086041e2cdac0392e5e03e2d141d6c001ddf041080e2c0010030040450c00c00020030000c00030060050020c014100b484002e2c0f8b01507042104086041e2cdac0392e5e0f141038b000400c01011430030000800c00030000c01801400830050402c2e30101d6c001ddf0420b7b012b8343002e2c0f8b01507042104086041e2cdac0392e5e0f141038b000400c01011430030000800c00030000c01801400830050402d2101dec04ae01e2b0c1d6c001ddf042080038782042104da0001201
def X5k : Nat := 0x40080080478b12e2c0541c1085142181438b0de2c438128e12e2d141338b0004ee1f04108fe2c0010030030020c4005040112100478b12e2c0541c1085142181438b0de2c438128e0f1413f8b000400c00c0083100141004478c0404ce2c0013b87c10823b8b012f8343011e2c4b8b01507042145086050e2c378b10e04a383c504fe2c0010030030020c40050401121013b8b012f8438ac304ce2c0013b87c108200fe1e08108514de20001201
def Xze : Nat := 0x40080090e83b6b099340b1e0800002800800900ed2b8b07e2c0c2e0d278b04238b00041085142008e1e140002138b04
def Xs4 : Nat := 0x412801380800c6e2c178784385405106bc20ed178b032783401b87830000802800800980edcecc2c0c2e0dcac131b000410841020317850000adb04
def X5t : Nat := 0x401c3a84
def Xuv : Nat := 0x100a02d0800efb2e78430524616f083b6eb03278340bde0c0002085045
def Xwj : Nat := 0x104a00a02a0800e925d06f183b680c6e0d029783000082
def Xtp : Nat := 0x400006f8b1ee2c054301778b020822c1738b020822814f8b052416b8b18e2ca38197e1ce2d2015f8b00059e1f141099e2c0010c30030000c000200218014100648701be2c7b8b0150c05de2c08208b05ce2c08208a053e2c14905ae2c638b28e065f83c8059e2c0010c30030000c00020021801410066f8c07057e2c0016787c508208118f6b8ec601be2c7b8b0150c05de2c08208b05ce2c08208a053e2c14905ae2c638b28e065f83c8059e2c0010c30030000c00020021801410064870420463dd1815f8b00041142096e2c082084055e2c082083054e2c14204000104053878004d040282002180142
def Xx1 : Nat := 0x100a0020026c1be6085e0d141080128e107420000800800a49415021040a30010030040450c00c00020030000c00030060050020c014100b9784c304b91f100002
def Xwf : Nat := 0x100a0030800e18845031c20a0048e0d0217840000800c20037c32d40030040450c00c00020030000c00030060050020c0165e04b9e0463054c4bc00800c01011430030000800c00030000c018014008300a001ffef43b42183b400830030000800c00030000c01807e8100002
def Xm5 : Nat := 0x100a00200218c15312f7020f834075e080002
def Xkv : Nat := 0x4028008009a6c15020c30996021f8347fbc0c008300200504205774065e140002
def Xo3 : Nat := 0x4028008008e3c94d21561ef5820f83405de080002
def Xne : Nat := 0x100a0020025150540810424c113834051e100002
def Xop : Nat := 0x100a0020026420af4420f834049e080002
def Xkw : Nat := 0x402800800900865030c00c00030000800860055f80ee3c00430c00c000300008008600a3811383403de140002
def Xlt : Nat := 0x4028000104d1480d31af3020f834035e080002
def n21 : Nat := 0x40280001803b4a1030b834910800104708208608208514000015e200002
def Yog : S := zS [(zS [(zS [(zS [(zS [(zS [(zS [(zS [(zS [(zS [(zS [(zS [(zS [] X5t), (zS [(zS [(zS [] Yc5), (zS [(zS [] X5k)] Xze)] Xs4)] Xuv)] Xwj)] Xtp)] Xx1)] Xwf)] Xm5)] Xkv)] Xo3)] Xne)] Xop)] Xkw)] Xlt)] n21
theorem Yuz : X0 Tryz.prog 21 1 Yog [] = true := by kernel_rfl
def X4x : Nat := 0x1000dac078b01500e2c0c30b7b02082bac175b33b28e05c8fd2c0010c30c00c0002140141005482045072b00041c6c0c30b0b02082bec140000bde34c2ca2481c61440c2040340
def Xs1 : Nat := 0x100a002002741becb02178340b5e080002
def Xs7 : Nat := 0x100a002002aab054084102a67583b65111e0d028052e1c7000141530ef98237834000099e200002
def Xzi : Nat := 0x100a0020028e40540830c28a0403b5e10fe0d021050e1c70000548521716f7c23783400007de200002
def Xw4 : Nat := 0x4028008009c74150208209b6460ed5c43383406813b871c00034f48612f60237834000061e200002
def X4y : Nat := 0x4300200243a0ed54264d016782000504
def Xwm : Nat := 0x412802805020034c934f48612f083b520c9e0d013783000082
def Xzu : Nat := 0x4028008009b06f40217834045e080002
def Xve : Nat := 0x100a0020023c21540c30c00c00021401720ee3800430c300300008500a34113834039e140002
def Xxk : Nat := 0x402800011562521441af2c20f834031e080002
def n22 : Nat := 0x40280001803b490c30b83481070010460c308508208414000011e200002
def Ypj : S := zS [(zS [(zS [(zS [(zS [(zS [] X4y), (zS [(zS [(zS [(zS [(zS [] X4x)] Xs1)] Xs7)] Xzi)] Xw4)] Xwm)] Xzu)] Xve)] Xxk)] n22
theorem Yro : X0 Tryz.prog 22 1 Ypj [] = true := by kernel_rfl
def X4f : Nat := 0x1000a2b054a84102a420828059e543815ce0f9800430030000c00020021401410054820450640010631040a20820a114000085e34c2ca2481c61440c2040340
def Xyh : Nat := 0x4028008009d06f7821783407de080002
def Xzt : Nat := 0x4028008009c74150210409b6560ed5c44f834068153871c00002f60237834000061e200002
def Xy1 : Nat := 0x4028008009b06f54217834059e080002
def Xyt : Nat := 0x100a0020024d40540810424811383404de100002
def Xtr : Nat := 0x100a0020023d40af4020f834045e080002
def Xvk : Nat := 0x4028008008f0855030030000c000200214015ce03b8e0010c00c000300008008500a34113834039e140002
def Xvq : Nat := 0x100a00005448558e3c31ef2c20f834031e080002
def n23 : Nat := 0x40280001803b490c30b834810700104610408508208414000011e200002
def Ynz : S := zS [(zS [(zS [(zS [(zS [(zS [(zS [(zS [(zS [] X4f)] Xyh)] Xzt)] Xy1)] Xyt)] Xtr)] Xvk)] Xvq)] n23
theorem Yvb : X0 Tryz.prog 23 1 Ynz [] = true := by kernel_rfl
def X46 : Nat := 0x4002bbac054b6c1450acb020828c5aa8c038383e90010030030020c01410034820430670010661450a50820a414000091e34c2ca2481c61440c2040340
def Xy8 : Nat := 0x4028008009d06f84217834089e080002
def Xwe : Nat := 0x100a002002ef006f7c217834081e080002
def Xvv : Nat := 0x100a00200275e05408208271b087e0d2380c000300200504209774071e140002
def Xwq : Nat := 0x100a0020025133cd12f6420f834069e080002
def Xvj : Nat := 0x40280080097601502041096508e03b52115e0d015056e1c70001904d0ef4c23783400004de200002
def Xta : Nat := 0x4028008009b06f40217834045e080002
def Xyy : Nat := 0x4028008008f0835000c00c00830058380ee3800400c00c008300a34113834039e140002
def Xwr : Nat := 0x100a0000454cf4125501ef2c20f834031e080002
def n24 : Nat := 0x40280001403b490c30b834810700104614508508208414000011e200002
def Yqs : S := zS [(zS [(zS [(zS [(zS [(zS [(zS [(zS [(zS [(zS [] X46)] Xy8)] Xwe)] Xvv)] Xwq)] Xvj)] Xta)] Xyy)] Xwr)] n24
theorem Yr5 : X0 Tryz.prog 24 1 Yqs [] = true := by kernel_rfl
end Go.Proofs.YtanpgmgkmfckaaaGreatDoor
/- The same statements with their regions folded into expressions, printed by the fold itself; that they are that is checked by the kernel. No condition. -/
namespace Go.Proofs.YtanpgmgkmfckaaaGreatDoor
open Go Go.Ab
set_option maxRecDepth 100000
def Xzz : S2 := zL [15] [] Yes
def Ycr := by
 have h := Eq.refl Xzz
 conv at h => rhs; cbv
 exact h
def X4w : S2 := zL [15] [Xzz] X7t
def X5b := by
 have h := fun (a : S2) => Eq.refl (zL [15] [a] X7t)
 conv at h => intro a; rhs; cbv
 have e : X4w = _ := h Xzz
 exact e
def lt9 : FS2 := .pre (.rg [.op (some 2) (.alloc 30 (.agg [.nils, .nils, .nils, .nils, .nils, .nils])), .op (some 3) (.alloc 3 (.int .i64 0)), .op (some 4) (.alloc 31 (.int .i64 0))] [(0, (.a (.t 0))), (2, (.a (.t 2))), (3, (.a (.t 3))), (4, (.a (.t 4)))] [])
 (.pre (.rg [.chk [] (.u (.ext (.t 0) 0) (.call 15 (.cons (.a (.t 0)) .nil))), .chk [] (.u (.ext (.t 0) 2) (.call 15 (.cons (.a (.t 0)) .nil))), .chk [] (.u (.ext (.t 0) 1) (.call 15 (.cons (.a (.t 0)) .nil))), .lt 13 [] (.u (.ext (.t 0) 1) (.call 15 (.cons (.a (.t 0)) .nil))), .op none (.st 1 (.t 3) (.t 13)), .lt 14 [] (.u (.ext (.t 0) 2) (.call 15 (.cons (.a (.t 0)) .nil))), .op none (.st 1 (.t 4) (.t 14))] [(0, (.a (.t 0))), (2, (.a (.t 2))), (3, (.a (.t 3))), (4, (.a (.t 4))), (5, (.u (.ext (.t 0) 0) (.call 15 (.cons (.a (.t 0)) .nil))))] [])
 (.pre (.seq (.rg [] [(0, (.a (.t 0))), (2, (.a (.t 2))), (3, (.a (.t 3))), (4, (.a (.t 4))), (5, (.a (.t 5))), (16, (.b (.bin .neq (.t 0) (.t 1)) (.u (.ld 1 false (.t 0)) (.a (.t 4))) (.a (.int .i64 0))))] [])
 (.cond (.t 16) (.seq (.rgT (.one 0 (.op (some 17) (.c (.ld 6 true (.t 2))))
  (.br (.cons 1 (.op (some 18) (.c (.ld 1 false (.t 3)))) (.br (.cons 2 (.op (some 19) (.c (.ld 1 false (.t 4)))) (.one 3 (.op none (.st 6 (.t 2) (.t 17)))
  (.one 4 (.op none (.st 1 (.t 3) (.t 18)))
  (.one 5 (.op none (.st 1 (.t 4) (.t 19)))
  (.done))))
  (.cons 3 (.op none (.st 6 (.t 2) (.t 17))) (.br (.cons 2 (.op (some 19) (.c (.ld 1 false (.t 4)))) (.one 4 (.op none (.st 1 (.t 3) (.t 18)))
  (.one 5 (.op none (.st 1 (.t 4) (.t 19)))
  (.done)))
  (.cons 4 (.op none (.st 1 (.t 3) (.t 18))) (.br (.cons 2 (.op (some 19) (.c (.ld 1 false (.t 4)))) (.one 5 (.op none (.st 1 (.t 4) (.t 19)))
  (.done))
  (.nil)))
  (.nil))))
  (.nil))))
  (.cons 2 (.op (some 19) (.c (.ld 1 false (.t 4)))) (.br (.cons 1 (.op (some 18) (.c (.ld 1 false (.t 3)))) (.one 3 (.op none (.st 6 (.t 2) (.t 17)))
  (.one 4 (.op none (.st 1 (.t 3) (.t 18)))
  (.one 5 (.op none (.st 1 (.t 4) (.t 19)))
  (.done))))
  (.cons 3 (.op none (.st 6 (.t 2) (.t 17))) (.br (.cons 1 (.op (some 18) (.c (.ld 1 false (.t 3)))) (.one 4 (.op none (.st 1 (.t 3) (.t 18)))
  (.one 5 (.op none (.st 1 (.t 4) (.t 19)))
  (.done)))
  (.nil)))
  (.nil))))
  (.cons 3 (.op none (.st 6 (.t 2) (.t 17))) (.br (.cons 1 (.op (some 18) (.c (.ld 1 false (.t 3)))) (.br (.cons 2 (.op (some 19) (.c (.ld 1 false (.t 4)))) (.one 4 (.op none (.st 1 (.t 3) (.t 18)))
  (.one 5 (.op none (.st 1 (.t 4) (.t 19)))
  (.done)))
  (.cons 4 (.op none (.st 1 (.t 3) (.t 18))) (.br (.cons 2 (.op (some 19) (.c (.ld 1 false (.t 4)))) (.one 5 (.op none (.st 1 (.t 4) (.t 19)))
  (.done))
  (.nil)))
  (.nil))))
  (.cons 2 (.op (some 19) (.c (.ld 1 false (.t 4)))) (.br (.cons 1 (.op (some 18) (.c (.ld 1 false (.t 3)))) (.one 4 (.op none (.st 1 (.t 3) (.t 18)))
  (.one 5 (.op none (.st 1 (.t 4) (.t 19)))
  (.done)))
  (.nil)))
  (.nil))))
  (.nil)))))) [2, 3, 4] [])
 (.ret)) (.skip)))
 (.dfr [.op (some 20) (.c (.mkf 18 [] [(.t 2), (.t 3), (.t 4)]))] [(0, (.a (.t 0))), (2, (.a (.t 2))), (3, (.a (.t 3))), (4, (.a (.t 4))), (5, (.a (.t 5))), (20, (.a (.t 20)))] 20
 (.seq (.rg [.op (some 21) (.mkm none), .op none (.mset (.str []) (.t 21) (.str [105, 115, 115, 117, 101, 114]) (.fn 19)), .op none (.mset (.str []) (.t 21) (.str [117, 110, 105, 116]) (.fn 20)), .op none (.mset (.str []) (.t 21) (.str [115, 99, 104, 101, 109, 97]) (.fn 21)), .op none (.mset (.str []) (.t 21) (.str [100, 101, 114, 105, 118, 101]) (.fn 22)), .op none (.mset (.str []) (.t 21) (.str [99, 111, 110, 118, 101, 114, 116]) (.fn 23)), .op none (.mset (.str []) (.t 21) (.str [112, 117, 114, 112, 111, 115, 101]) (.fn 24))] [(0, (.a (.t 0))), (2, (.a (.t 2))), (3, (.a (.t 3))), (4, (.a (.t 4))), (5, (.a (.t 5))), (6, (.a (.t 21)))] [2, 3, 4])
 (.seq (.rg [.chk [] (.u (.lenS (.t 0)) (.a (.t 0))), .lt 25 [] (.u (.lenS (.t 0)) (.a (.t 0))), .lt 23 [] (.a (.t 5)), .op (some 26) (.c (.bld [.nils, (.int .i64 0), (.agg [.nils, .nils, .nils, .nils, .nils, .nils])] [(0, (.t 23)), (1, (.t 25))])), .op (some 27) (.box 66 (.t 26)), .op (some 7) (.mvn (.t 27) (.t 27) [(9, 1, [2, 0]), (74, 5, [2, 1]), (79, 6, [2, 2]), (50, 5, [2, 3]), (84, 5, [2, 4]), (88, 3, [2, 5])])] [(2, (.a (.t 2))), (3, (.a (.t 3))), (4, (.a (.t 4))), (6, (.a (.t 6))), (7, (.a (.t 7)))] [2, 3, 4])
 (.seq (.block 0 (.loop [2, 3, 4, 6, 7] X4w))
 (.seq (.rg [.chk [] (.u (.fldA 2 2 (.t 0)) (.u (.nilc (.t 0)) (.a (.t 7)))), .lt 62 [] (.u (.fldA 2 2 (.t 0)) (.u (.nilc (.t 0)) (.a (.t 7)))), .op (some 63) (.ldf 6 true (.t 62)), .op none (.st 6 (.t 2) (.t 63)), .op none (.st 1 (.t 3) (.int .i64 0)), .op none (.st 1 (.t 4) (.int .i64 0))] [(2, (.a (.t 2))), (3, (.a (.t 3))), (4, (.a (.t 4)))] [2, 3, 4])
 (.ret))))))))
theorem lf9 : ir9.lift [15] = some lt9 := by kernel_rfl
def Xnb : S2 := .rgT (.one 0 (.op (some 53) (.c (.fldA 4 4 (.t 2))))
  (.one 2 (.op (some 55) (.c (.mv (.t 0))))
  (.br (.cons 1 (.op (some 54) (.c (.ld 1 false (.t 53)))) (.one 3 (.op (some 56) (.call 66 [(.t 55)]))
  (.one 4 (.op (some 57) (.bls 11 [.agg [.str [], .agg [.int .i64 0, .int .i64 0, .int .i64 0, .str [], .int .i64 0, .nils], .agg (List.replicate 4 (.int .i64 0))]] [(0, (.t 56))]))
  (.one 5 (.op (some 58) (.app 93 11 120 (.t 54) (.t 57)))
  (.one 6 (.op (some 59) (.c (.fldA 4 4 (.t 2))))
  (.one 7 (.op none (.st 1 (.t 59) (.t 58)))
  (.done))))))
  (.cons 3 (.op (some 56) (.call 66 [(.t 55)])) (.br (.cons 1 (.op (some 54) (.c (.ld 1 false (.t 53)))) (.one 4 (.op (some 57) (.bls 11 [.agg [.str [], .agg [.int .i64 0, .int .i64 0, .int .i64 0, .str [], .int .i64 0, .nils], .agg (List.replicate 4 (.int .i64 0))]] [(0, (.t 56))]))
  (.one 5 (.op (some 58) (.app 93 11 120 (.t 54) (.t 57)))
  (.one 6 (.op (some 59) (.c (.fldA 4 4 (.t 2))))
  (.one 7 (.op none (.st 1 (.t 59) (.t 58)))
  (.done)))))
  (.cons 4 (.op (some 57) (.bls 11 [.agg [.str [], .agg [.int .i64 0, .int .i64 0, .int .i64 0, .str [], .int .i64 0, .nils], .agg (List.replicate 4 (.int .i64 0))]] [(0, (.t 56))])) (.br (.cons 1 (.op (some 54) (.c (.ld 1 false (.t 53)))) (.one 5 (.op (some 58) (.app 93 11 120 (.t 54) (.t 57)))
  (.one 6 (.op (some 59) (.c (.fldA 4 4 (.t 2))))
  (.one 7 (.op none (.st 1 (.t 59) (.t 58)))
  (.done))))
  (.nil)))
  (.nil))))
  (.nil)))))) [0, 2] []
def Xl0 : S2 := zL [] [] X5k
def X60 := by
 have h := Eq.refl Xl0
 conv at h => rhs; cbv
 exact h
def Xkk : S2 := zL [] [Xl0] Xze
def Xyo := by
 have h := fun (a : S2) => Eq.refl (zL [] [a] Xze)
 conv at h => intro a; rhs; cbv
 have e : Xkk = _ := h Xl0
 exact e
def Xld : S2 := zL [] [Xnb, Xkk] Xs4
def Xxm := by
 have h := fun (a b : S2) => Eq.refl (zL [] [a, b] Xs4)
 conv at h => intro a b; rhs; cbv
 have e : Xld = _ := h Xnb Xkk
 exact e
def Xkq : S2 := zL [] [] X5t
def Xwz := by
 have h := Eq.refl Xkq
 conv at h => rhs; cbv
 exact h
def Xlc : S2 := zL [] [Xld] Xuv
def X9h := by
 have h := fun (a : S2) => Eq.refl (zL [] [a] Xuv)
 conv at h => intro a; rhs; cbv
 have e : Xlc = _ := h Xld
 exact e
def Xn1 : S2 := zL [] [Xkq, Xlc] Xwj
def X9o := by
 have h := fun (a b : S2) => Eq.refl (zL [] [a, b] Xwj)
 conv at h => intro a b; rhs; cbv
 have e : Xn1 = _ := h Xkq Xlc
 exact e
def Xms : S2 := zL [] [Xn1] Xtp
def X6z := by
 have h := fun (a : S2) => Eq.refl (zL [] [a] Xtp)
 conv at h => intro a; rhs; cbv
 have e : Xms = _ := h Xn1
 exact e
def Xlp : S2 := zL [] [Xms] Xx1
def Yaq := by
 have h := fun (a : S2) => Eq.refl (zL [] [a] Xx1)
 conv at h => intro a; rhs; cbv
 have e : Xlp = _ := h Xms
 exact e
def Xnr : S2 := zL [] [Xlp] Xwf
def X7r := by
 have h := fun (a : S2) => Eq.refl (zL [] [a] Xwf)
 conv at h => intro a; rhs; cbv
 have e : Xnr = _ := h Xlp
 exact e
def Xgd : S2 := zL [] [Xnr] Xm5
def X2l := by
 have h := fun (a : S2) => Eq.refl (zL [] [a] Xm5)
 conv at h => intro a; rhs; cbv
 have e : Xgd = _ := h Xnr
 exact e
def Xhf : S2 := zL [] [Xgd] Xkv
def X0w := by
 have h := fun (a : S2) => Eq.refl (zL [] [a] Xkv)
 conv at h => intro a; rhs; cbv
 have e : Xhf = _ := h Xgd
 exact e
def Xgw : S2 := zL [] [Xhf] Xo3
def X1p := by
 have h := fun (a : S2) => Eq.refl (zL [] [a] Xo3)
 conv at h => intro a; rhs; cbv
 have e : Xgw = _ := h Xhf
 exact e
def Xgk : S2 := zL [] [Xgw] Xne
def X1q := by
 have h := fun (a : S2) => Eq.refl (zL [] [a] Xne)
 conv at h => intro a; rhs; cbv
 have e : Xgk = _ := h Xgw
 exact e
def Xg1 : S2 := zL [] [Xgk] Xop
def X1z := by
 have h := fun (a : S2) => Eq.refl (zL [] [a] Xop)
 conv at h => intro a; rhs; cbv
 have e : Xg1 = _ := h Xgk
 exact e
def Xg5 : S2 := zL [] [Xg1] Xkw
def X12 := by
 have h := fun (a : S2) => Eq.refl (zL [] [a] Xkw)
 conv at h => intro a; rhs; cbv
 have e : Xg5 = _ := h Xg1
 exact e
def Xg4 : S2 := zL [] [Xg5] Xlt
def X02 := by
 have h := fun (a : S2) => Eq.refl (zL [] [a] Xlt)
 conv at h => intro a; rhs; cbv
 have e : Xg4 = _ := h Xg5
 exact e
def Yms : S2 := zL [] [Xg4] n21
def Yug := by
 have h := fun (a : S2) => Eq.refl (zL [] [a] n21)
 conv at h => intro a; rhs; cbv
 have e : Yms = _ := h Xg4
 exact e
theorem Yv5 : Yog.lift [] = some Yms := by kernel_rfl
def Xlx : S2 := zL [] [] X4x
def Yaa := by
 have h := Eq.refl Xlx
 conv at h => rhs; cbv
 exact h
def Xkh : S2 := zL [] [Xlx] Xs1
def X6t := by
 have h := fun (a : S2) => Eq.refl (zL [] [a] Xs1)
 conv at h => intro a; rhs; cbv
 have e : Xkh = _ := h Xlx
 exact e
def Xnp : S2 := zL [] [Xkh] Xs7
def X6s := by
 have h := fun (a : S2) => Eq.refl (zL [] [a] Xs7)
 conv at h => intro a; rhs; cbv
 have e : Xnp = _ := h Xkh
 exact e
def Xkc : S2 := zL [] [Xnp] Xzi
def X7g := by
 have h := fun (a : S2) => Eq.refl (zL [] [a] Xzi)
 conv at h => intro a; rhs; cbv
 have e : Xkc = _ := h Xnp
 exact e
def Xk9 : S2 := zL [] [Xkc] Xw4
def X9g := by
 have h := fun (a : S2) => Eq.refl (zL [] [a] Xw4)
 conv at h => intro a; rhs; cbv
 have e : Xk9 = _ := h Xkc
 exact e
def Xme : S2 := zL [] [] X4y
def Xzk := by
 have h := Eq.refl Xme
 conv at h => rhs; cbv
 exact h
def Xmg : S2 := zL [] [Xme, Xk9] Xwm
def X62 := by
 have h := fun (a b : S2) => Eq.refl (zL [] [a, b] Xwm)
 conv at h => intro a b; rhs; cbv
 have e : Xmg = _ := h Xme Xk9
 exact e
def Xlg : S2 := zL [] [Xmg] Xzu
def X8p := by
 have h := fun (a : S2) => Eq.refl (zL [] [a] Xzu)
 conv at h => intro a; rhs; cbv
 have e : Xlg = _ := h Xmg
 exact e
def Xm4 : S2 := zL [] [Xlg] Xve
def X7k := by
 have h := fun (a : S2) => Eq.refl (zL [] [a] Xve)
 conv at h => intro a; rhs; cbv
 have e : Xm4 = _ := h Xlg
 exact e
def Xj4 : S2 := zL [] [Xm4] Xxk
def X64 := by
 have h := fun (a : S2) => Eq.refl (zL [] [a] Xxk)
 conv at h => intro a; rhs; cbv
 have e : Xj4 = _ := h Xm4
 exact e
def Yp8 : S2 := zL [] [Xj4] n22
def Yse := by
 have h := fun (a : S2) => Eq.refl (zL [] [a] n22)
 conv at h => intro a; rhs; cbv
 have e : Yp8 = _ := h Xj4
 exact e
theorem Yto : Ypj.lift [] = some Yp8 := by kernel_rfl
def Xmd : S2 := zL [] [] X4f
def X65 := by
 have h := Eq.refl Xmd
 conv at h => rhs; cbv
 exact h
def Xnx : S2 := zL [] [Xmd] Xyh
def Yah := by
 have h := fun (a : S2) => Eq.refl (zL [] [a] Xyh)
 conv at h => intro a; rhs; cbv
 have e : Xnx = _ := h Xmd
 exact e
def Xlv : S2 := zL [] [Xnx] Xzt
def Yaf := by
 have h := fun (a : S2) => Eq.refl (zL [] [a] Xzt)
 conv at h => intro a; rhs; cbv
 have e : Xlv = _ := h Xnx
 exact e
def Xlk : S2 := zL [] [Xlv] Xy1
def X8c := by
 have h := fun (a : S2) => Eq.refl (zL [] [a] Xy1)
 conv at h => intro a; rhs; cbv
 have e : Xlk = _ := h Xlv
 exact e
def Xno : S2 := zL [] [Xlk] Xyt
def Yan := by
 have h := fun (a : S2) => Eq.refl (zL [] [a] Xyt)
 conv at h => intro a; rhs; cbv
 have e : Xno = _ := h Xlk
 exact e
def Xli : S2 := zL [] [Xno] Xtr
def X7f := by
 have h := fun (a : S2) => Eq.refl (zL [] [a] Xtr)
 conv at h => intro a; rhs; cbv
 have e : Xli = _ := h Xno
 exact e
def Xmo : S2 := zL [] [Xli] Xvk
def X9n := by
 have h := fun (a : S2) => Eq.refl (zL [] [a] Xvk)
 conv at h => intro a; rhs; cbv
 have e : Xmo = _ := h Xli
 exact e
def Xl5 : S2 := zL [] [Xmo] Xvq
def X67 := by
 have h := fun (a : S2) => Eq.refl (zL [] [a] Xvq)
 conv at h => intro a; rhs; cbv
 have e : Xl5 = _ := h Xmo
 exact e
def Yrl : S2 := zL [] [Xl5] n23
def Yvt := by
 have h := fun (a : S2) => Eq.refl (zL [] [a] n23)
 conv at h => intro a; rhs; cbv
 have e : Yrl = _ := h Xl5
 exact e
theorem Yt5 : Ynz.lift [] = some Yrl := by kernel_rfl
def Xj9 : S2 := zL [] [] X46
def X6w := by
 have h := Eq.refl Xj9
 conv at h => rhs; cbv
 exact h
def Xnn : S2 := zL [] [Xj9] Xy8
def X7y := by
 have h := fun (a : S2) => Eq.refl (zL [] [a] Xy8)
 conv at h => intro a; rhs; cbv
 have e : Xnn = _ := h Xj9
 exact e
def Xnu : S2 := zL [] [Xnn] Xwe
def X88 := by
 have h := fun (a : S2) => Eq.refl (zL [] [a] Xwe)
 conv at h => intro a; rhs; cbv
 have e : Xnu = _ := h Xnn
 exact e
def Xm2 : S2 := zL [] [Xnu] Xvv
def X7j := by
 have h := fun (a : S2) => Eq.refl (zL [] [a] Xvv)
 conv at h => intro a; rhs; cbv
 have e : Xm2 = _ := h Xnu
 exact e
def Xnj : S2 := zL [] [Xm2] Xwq
def X7z := by
 have h := fun (a : S2) => Eq.refl (zL [] [a] Xwq)
 conv at h => intro a; rhs; cbv
 have e : Xnj = _ := h Xm2
 exact e
def Xnt : S2 := zL [] [Xnj] Xvj
def X87 := by
 have h := fun (a : S2) => Eq.refl (zL [] [a] Xvj)
 conv at h => intro a; rhs; cbv
 have e : Xnt = _ := h Xnj
 exact e
def Xll : S2 := zL [] [Xnt] Xta
def Yae := by
 have h := fun (a : S2) => Eq.refl (zL [] [a] Xta)
 conv at h => intro a; rhs; cbv
 have e : Xll = _ := h Xnt
 exact e
def Xng : S2 := zL [] [Xll] Xyy
def X76 := by
 have h := fun (a : S2) => Eq.refl (zL [] [a] Xyy)
 conv at h => intro a; rhs; cbv
 have e : Xng = _ := h Xll
 exact e
def Xls : S2 := zL [] [Xng] Xwr
def X8v := by
 have h := fun (a : S2) => Eq.refl (zL [] [a] Xwr)
 conv at h => intro a; rhs; cbv
 have e : Xls = _ := h Xng
 exact e
def Yl9 : S2 := zL [] [Xls] n24
def Yvc := by
 have h := fun (a : S2) => Eq.refl (zL [] [a] n24)
 conv at h => intro a; rhs; cbv
 have e : Yl9 = _ := h Xls
 exact e
theorem Ytv : Yqs.lift [] = some Yl9 := by kernel_rfl
end Go.Proofs.YtanpgmgkmfckaaaGreatDoor
/- Contracts: the definitions. Condition: the program is the seat's, and its intervals are laid. -/
namespace Go.Proofs.YtanpgmgkmfckaaaGreatDoor
open Go Go.Ab Go.Lx Go.Sx
set_option maxRecDepth 100000
attribute [local simp ↓] ql qn qo qi qh qj qk qm zt zp zr zu zq zl zm zk zo zn qq qp qw qx zg qy qv qr zh qu qt qs qz zb za zd ze zf zx zw zz zy qb qa qd qc qe qg qf zj zi
section
variable {P : Prg} (hP : P.p = Tryz.prog) (hI : Ivl P) {ts : List Tok} {en : Int} {s : Src} (hs : Few s) {K : Out → Objs → Prop}
include hP hI hs
theorem Xyi (h : PS K en (Vk s ts)) : ACall P 23 [.ptr 4 []] (stO en ts s) K := by
 refine acall_lift hP mixed Yvb Yt5 TOk.nil fun _ hm => ?_
 simp [Yvt, hI.factors, hI.editions, hI.mosts, hI.weights, hI.anyN]
 refine Xbg hP (S := Yy s) (by simp) (by simp) _ 16 (PS.bind h (fun ts' e h => ?_) (fun a ts' ha h => ?_))
 ·simp
  exact Xm (h s) (by simp) (by simp [young])
 simp [hI.factors, hI.editions, hI.mosts, hI.weights, hI.anyN, X67]
 refine Zx hP (S := Yy s) (by simp) (by simp) _ (PS.bind h (fun ts' e h => ?_) (fun a ts' ha h => ?_))
 ·simp
  exact Xm (h s) (by simp) (by simp [young])
 simp [hI.factors, hI.editions, hI.mosts, hI.weights, hI.anyN, X9n]
 refine Zd hP (S := Yy s) (by simp) (by simp) (PS.bind h (fun ts' e h => ?_) (fun a ts' ha h => ?_))
 ·simp
  exact Xm (h s) (by simp) (by simp [young])
 simp [hI.factors, hI.editions, hI.mosts, hI.weights, hI.anyN, X7f]
 refine Zx hP (S := Yy s) (by simp) (by simp) _ (PS.bind h (fun ts' e h => ?_) (fun a ts' ha h => ?_))
 ·simp
  exact Xm (h s) (by simp) (by simp [young])
 simp [hI.factors, hI.editions, hI.mosts, hI.weights, hI.anyN, Yan]
 refine Zd hP (S := Yy s) (by simp) (by simp) (PS.bind h (fun ts' e h => ?_) (fun a ts' ha h => ?_))
 ·simp
  exact Xm (h s) (by simp) (by simp [young])
 simp [hI.factors, hI.editions, hI.mosts, hI.weights, hI.anyN, X8c]
 refine Yh hP (S := Yy s) (by simp) (by simp) _ (PS.bind h (fun ts' e h => ?_) (fun a ts' ha h => ?_))
 ·simp
  exact Xm (h s) (by simp) (by simp [young])
 simp [hI.factors, hI.editions, hI.mosts, hI.weights, hI.anyN, Yaf]
 refine Jx hP (ts := ts') (en := en) (S := Yy s) (by simp) _ 12 (by simp) ?_
 simp
 refine X85 hP (S := Yy s) (by simp) (by simp) (enc := Move.enc) (by simp) (Xj 1 []) J3 11 (by decide) _ _ [] _ [.ptr 4 []] [] (Uk hP).2.2.1 (Uk hP).2.2.2.2.2.2.1 14 (by simp) (fun ts o K h => ?_) (fun ts o K h => ?_) (PS.bind h (fun ts' e h => ?_) (fun a ts' ha h => ?_))
 ·exact U7 hP (S := Yy s) (p := 4) (ts := ts) (en := en) (t := []) (by simp) (by simp) (by simp) (by simp) (by simpa using h)
 ·exact Yf8 hP (S := Yy s) (by simp) (p := 4) (ts := ts) (en := en) (by simp) hI h
 ·simp
  exact Xm (h s) (by simp) (by simp [young])
 simp [hI.factors, hI.editions, hI.mosts, hI.weights, hI.anyN, Yah]
 refine Yh hP (S := Yy s) (by simp) (by simp) _ (PS.bind h (fun ts' e h => ?_) (fun a ts' ha h => ?_))
 ·simp
  exact Xm (h s) (by simp) (by simp [young])
 simp [hI.factors, hI.editions, hI.mosts, hI.weights, hI.anyN, X65]
 refine ⟨by have := hs.converts; omega, ?_⟩
 exact Xm (s := { s with converts := s.converts ++ [⟨_, _, _⟩] }) h (by simp) (by simp [young]; rfl)
end
end Go.Proofs.YtanpgmgkmfckaaaGreatDoor
/- Contracts: the definitions. Condition: the program is the seat's, and its intervals are laid. -/
namespace Go.Proofs.YtanpgmgkmfckaaaGreatDoor
open Go Go.Ab Go.Lx Go.Sx
set_option maxRecDepth 100000
attribute [local simp ↓] ql qn qo qi qh qj qk qm zt zp zr zu zq zl zm zk zo zn qq qp qw qx zg qy qv qr zh qu qt qs qz zb za zd ze zf zx zw zz zy qb qa qd qc qe qg qf zj zi
section
variable {P : Prg} (hP : P.p = Tryz.prog) (hI : Ivl P) {ts : List Tok} {en : Int} {s : Src} (hs : Few s) {K : Out → Objs → Prop}
include hP hI hs
theorem Xt0 (h : PS K en (Vl s ts)) : ACall P 24 [.ptr 4 []] (stO en ts s) K := by
 refine acall_lift hP mixed Yr5 Ytv TOk.nil fun _ hm => ?_
 simp [Yvc, hI.factors, hI.editions, hI.mosts, hI.weights, hI.anyN]
 refine Xbg hP (S := Yy s) (by simp) (by simp) _ 8 (PS.bind h (fun ts' e h => ?_) (fun a ts' ha h => ?_))
 ·simp
  exact Xm (h s) (by simp) (by simp [young])
 simp [hI.factors, hI.editions, hI.mosts, hI.weights, hI.anyN, X8v]
 refine Zx hP (S := Yy s) (by simp) (by simp) _ (PS.bind h (fun ts' e h => ?_) (fun a ts' ha h => ?_))
 ·simp
  exact Xm (h s) (by simp) (by simp [young])
 simp [hI.factors, hI.editions, hI.mosts, hI.weights, hI.anyN, X76]
 refine Zd hP (S := Yy s) (by simp) (by simp) (PS.bind h (fun ts' e h => ?_) (fun a ts' ha h => ?_))
 ·simp
  exact Xm (h s) (by simp) (by simp [young])
 simp [hI.factors, hI.editions, hI.mosts, hI.weights, hI.anyN, Yae]
 refine Yh hP (S := Yy s) (by simp) (by simp) _ (PS.bind h (fun ts' e h => ?_) (fun a ts' ha h => ?_))
 ·simp
  exact Xm (h s) (by simp) (by simp [young])
 simp [hI.factors, hI.editions, hI.mosts, hI.weights, hI.anyN, X87]
 refine Jx hP (ts := ts') (en := en) (S := Yy s) (by simp) _ 12 (by simp) ?_
 simp
 refine X8f hP (S := Yy s) (by simp) (by simp) (enc := Ref.enc) (by simp) (Xj 1 [109, 97, 121]) Xst 32 (by decide) _ _ [] _ [.ptr 4 []] [] (Uk hP).2.2.1 (Uk hP).2.2.2.2.2.2.2 14 (by simp) (fun ts o K h => ?_) (fun ts o K h => ?_) (PS.bind h (fun ts' e h => ?_) (fun a ts' ha h => ?_))
 ·exact U7 hP (S := Yy s) (p := 4) (ts := ts) (en := en) (t := [109, 97, 121]) (by simp) (by simp) (by simp) (by simp) (by simpa using h)
 ·exact Yk5 hP (S := Yy s) (by simp) (p := 4) (ts := ts) (en := en) (by simp) h
 ·simp
  exact Xm (h s) (by simp) (by simp [young])
 simp [hI.factors, hI.editions, hI.mosts, hI.weights, hI.anyN, X7z]
 refine Zx hP (S := Yy s) (by simp) (by simp) _ (PS.bind h (fun ts' e h => ?_) (fun a ts' ha h => ?_))
 ·simp
  exact Xm (h s) (by simp) (by simp [young])
 simp [hI.factors, hI.editions, hI.mosts, hI.weights, hI.anyN, X7j]
 refine Zj hP (S := Yy s) (by simp) (by simp) _ _ (PS.bind h (fun ts' e h => ?_) (fun a ts' ha h => ?_))
 ·simp
  exact Xm (h s) (by simp) (by simp [young])
 simp [hI.factors, hI.editions, hI.mosts, hI.weights, hI.anyN, X88]
 refine Yh hP (S := Yy s) (by simp) (by simp) _ (PS.bind h (fun ts' e h => ?_) (fun a ts' ha h => ?_))
 ·simp
  exact Xm (h s) (by simp) (by simp [young])
 simp [hI.factors, hI.editions, hI.mosts, hI.weights, hI.anyN, X7y]
 refine Yh hP (S := Yy s) (by simp) (by simp) _ (PS.bind h (fun ts' e h => ?_) (fun a ts' ha h => ?_))
 ·simp
  exact Xm (h s) (by simp) (by simp [young])
 simp [hI.factors, hI.editions, hI.mosts, hI.weights, hI.anyN, X6w]
 refine ⟨by have := hs.purposes; omega, ?_⟩
 exact Xm (s := { s with purposes := s.purposes ++ [⟨_, _, _⟩] }) h (by simp) (by simp [young]; rfl)
end
end Go.Proofs.YtanpgmgkmfckaaaGreatDoor
/- Contracts: the definitions. Condition: the program is the seat's, and its intervals are laid. -/
namespace Go.Proofs.YtanpgmgkmfckaaaGreatDoor
open Go Go.Ab Go.Lx Go.Sx
set_option maxRecDepth 100000
attribute [local simp ↓] ql qn qo qi qh qj qk qm zt zp zr zu zq zl zm zk zo zn qq qp qw qx zg qy qv qr zh qu qt qs qz zb za zd ze zf zx zw zz zy qb qa qd qc qe qg qf zj zi
section
variable {P : Prg} (hP : P.p = Tryz.prog) (hI : Ivl P) {ts : List Tok} {en : Int} {s : Src} (hs : Few s) {K : Out → Objs → Prop}
include hP hI hs
theorem Ycx (h : PS K en (Xij s ts)) : ACall P 22 [.ptr 4 []] (stO en ts s) K := by
 refine acall_lift hP mixed Yro Yto TOk.nil fun _ hm => ?_
 simp [Yse, hI.factors, hI.editions, hI.mosts, hI.weights, hI.anyN]
 refine Xbg hP (S := Yy s) (by simp) (by simp) _ 16 (PS.bind h (fun ts' e h => ?_) (fun a ts' ha h => ?_))
 ·simp
  exact Xm (h s) (by simp) (by simp [young])
 simp [hI.factors, hI.editions, hI.mosts, hI.weights, hI.anyN, X64]
 refine Zx hP (S := Yy s) (by simp) (by simp) _ (PS.bind h (fun ts' e h => ?_) (fun a ts' ha h => ?_))
 ·simp
  exact Xm (h s) (by simp) (by simp [young])
 simp [hI.factors, hI.editions, hI.mosts, hI.weights, hI.anyN, X7k]
 refine Zd hP (S := Yy s) (by simp) (by simp) (PS.bind h (fun ts' e h => ?_) (fun a ts' ha h => ?_))
 ·simp
  exact Xm (h s) (by simp) (by simp [young])
 simp [hI.factors, hI.editions, hI.mosts, hI.weights, hI.anyN, X8p]
 refine Yh hP (S := Yy s) (by simp) (by simp) _ (PS.bind h (fun ts' e h => ?_) (fun a ts' ha h => ?_))
 ·simp
  exact Xm (h s) (by simp) (by simp [young])
 simp [hI.factors, hI.editions, hI.mosts, hI.weights, hI.anyN, X62]
 refine Xab hP (S := Yy s) (ts := ts') (en := en) (by simp) (by simp) _ _ ?_
 cases hn : Xj 1 [102, 114, 111, 109] ts' with
 | false =>
  simp only [ifM, hn, Bool.false_eq_true, if_false] at h
  simp [Xzk]
  refine W4 hP (S := Yy s) (ts := ts') (en := en) (by simp) (by simp) _ ?_
  simp
  exact Xm (h s) (by simp) (by simp [young])
 | true =>
  simp only [ifM, hn, if_true] at h
  simp [Xzk, X9g]
  refine Jx hP (ts := ts') (en := en) (S := Yy s) (by simp) _ 12 (by simp) ?_
  simp
  refine X9u hP (S := Yy s) (by simp) (by simp) (enc := From.enc) (by simp) (Xj 1 [102, 114, 111, 109]) Ue 3 (by decide) _ _ [] _ [.ptr 4 []] [] (Uk hP).2.2.1 (Uk hP).2.2.2.1 14 (by simp) (fun ts o K h => ?_) (fun ts o K h => ?_) (PS.bind h (fun ts' e h => ?_) (fun a ts' ha h => ?_))
  ·exact U7 hP (S := Yy s) (p := 4) (ts := ts) (en := en) (t := [102, 114, 111, 109]) (by simp) (by simp) (by simp) (by simp) (by simpa using h)
  ·exact Ydv hP (S := Yy s) (by simp) (p := 4) (ts := ts) (en := en) (by simp) h
  ·simp
   exact Xm (h s) (by simp) (by simp [young])
  simp [hI.factors, hI.editions, hI.mosts, hI.weights, hI.anyN, X7g]
  refine Jx hP (ts := ts') (en := en) (S := Yy s) (by simp) _ 14 (by simp) ?_
  simp
  refine X81 hP (S := Yy s) (by simp) (by simp) (enc := Atom.enc) (by simp) (Xj 1 [119, 104, 101, 114, 101]) Us 8 (by decide) _ _ [] _ [.ptr 4 []] [] (Uk hP).2.2.1 (Uk hP).2.2.2.2.1 16 (by simp) (fun ts o K h => ?_) (fun ts o K h => ?_) (PS.bind h (fun ts' e h => ?_) (fun a ts' ha h => ?_))
  ·exact U7 hP (S := Yy s) (p := 4) (ts := ts) (en := en) (t := [119, 104, 101, 114, 101]) (by simp) (by simp) (by simp) (by simp) (by simpa using h)
  ·exact X8j hP (S := Yy s) (by simp) (p := 4) (ts := ts) (en := en) (by simp) hI h
  ·simp
   exact Xm (h s) (by simp) (by simp [young])
  simp [hI.factors, hI.editions, hI.mosts, hI.weights, hI.anyN, X6s]
  refine Jx hP (ts := ts') (en := en) (S := Yy s) (by simp) _ 16 (by simp) ?_
  simp
  refine X8s hP (S := Yy s) (by simp) (by simp) (enc := SetT.enc) (by simp) (Xj 1 [115, 101, 116]) Xsv 11 (by decide) _ _ [] _ [.ptr 4 []] [] (Uk hP).2.2.1 (Uk hP).2.2.2.2.2.1 18 (by simp) (fun ts o K h => ?_) (fun ts o K h => ?_) (PS.bind h (fun ts' e h => ?_) (fun a ts' ha h => ?_))
  ·exact U7 hP (S := Yy s) (p := 4) (ts := ts) (en := en) (t := [115, 101, 116]) (by simp) (by simp) (by simp) (by simp) (by simpa using h)
  ·exact Yls hP (S := Yy s) (by simp) (p := 4) (ts := ts) (en := en) (by simp) hI h
  ·simp
   exact Xm (h s) (by simp) (by simp [young])
  simp [hI.factors, hI.editions, hI.mosts, hI.weights, hI.anyN, X6t]
  refine Yh hP (S := Yy s) (by simp) (by simp) _ (PS.bind h (fun ts' e h => ?_) (fun a ts' ha h => ?_))
  ·simp
   exact Xm (h s) (by simp) (by simp [young])
  simp [hI.factors, hI.editions, hI.mosts, hI.weights, hI.anyN, Yaa]
  refine ⟨by have := hs.rules; omega, ?_⟩
  exact Xm (s := { s with rules := s.rules ++ [⟨_, _, _, _⟩] }) h (by simp) (by simp [young]; rfl)
end
end Go.Proofs.YtanpgmgkmfckaaaGreatDoor
/- Contracts: the definitions. Condition: the program is the seat's, and its intervals are laid. -/
namespace Go.Proofs.YtanpgmgkmfckaaaGreatDoor
open Go Go.Ab Go.Lx Go.Sx
set_option maxRecDepth 100000
attribute [local simp ↓] ql qn qo qi qh qj qk qm zt zp zr zu zq zl zm zk zo zn qq qp qw qx zg qy qv qr zh qu qt qs qz zb za zd ze zf zx zw zz zy qb qa qd qc qe qg qf zj zi
theorem Yb1 {α β : Type} {c : List Tok → Bool} {a b : M α} {g : α → M β} {ts : List Tok} (h : c ts = true) : (ifM c a b >>= g) ts = (a >>= g) ts := by simp only [Xe, ifM, h, if_true]
theorem Yec {α β : Type} {c : List Tok → Bool} {a b : M α} {g : α → M β} {ts : List Tok} (h : c ts = false) : (ifM c a b >>= g) ts = (b >>= g) ts := by simp only [Xe, ifM, h, if_false, Bool.false_eq_true]
theorem Xba {α β : Type} {m : M α} {f : α → M β} {ts ts' : List Tok} {b : β} (h : (m >>= f) ts = .ok b ts') : ∃ a t1, m ts = .ok a t1 ∧ f a t1 = .ok b ts' := by
 rw [Xe] at h
 cases hm : m ts with
 | ok a t1 => rw [hm] at h; exact ⟨a, t1, rfl, h⟩
 | err a b => rw [hm] at h; cases h
theorem Xrh {f : Sx.Field} {ts ts' : List Tok} (h : Qb ts = .ok f ts') : ∃ a b c d, f.weights = [a, b, c, d] := by
 simp only [Qb] at h
 obtain ⟨_, _, _, h⟩ := Xba h
 obtain ⟨_, _, _, h⟩ := Xba h
 obtain ⟨_, _, _, h⟩ := Xba h
 obtain ⟨_, _, _, h⟩ := Xba h
 obtain ⟨w, _, hw, h⟩ := Xba h
 obtain ⟨_, _, _, h⟩ := Xba h
 cases h
 exact Ux hw
theorem Xoh {f : Sx.Field} {ts ts' : List Tok} (h : Qb ts = .ok f ts') : f.enc.shape = .node [.leaf, .node [.leaf, .leaf, .leaf, .leaf, .leaf, .leaf], .node [.leaf, .leaf, .leaf, .leaf]] := by
 obtain ⟨a, b, c, d, e⟩ := Xrh h
 simp [Field.enc, e, D.shape]
theorem Xjh (d : Sx.Depend) : d.enc.shape = .node [.leaf, .leaf, .leaf, .leaf] := by simp [Depend.enc, Xh, D.shape]
section
variable {P : Prg} (hP : P.p = Tryz.prog) (hI : Ivl P) {ts : List Tok} {en : Int} {s : Src} (hs : Few s) {K : Out → Objs → Prop}
include hP hI hs
theorem X06 (h : PS K en (Qd s ts)) : ACall P 21 [.ptr 4 []] (stO en ts s) K := by
 refine acall_lift hP mixed Yuz Yv5 TOk.nil fun _ hm => ?_
 simp [Yug, hI.factors, hI.editions, hI.mosts, hI.weights, hI.anyN]
 refine Xbg hP (S := Yy s) (by simp) (by simp) _ 16 (PS.bind h (fun ts' e h => ?_) (fun a ts' ha h => ?_))
 ·simp
  exact Xm (h s) (by simp) (by simp [young])
 simp [hI.factors, hI.editions, hI.mosts, hI.weights, hI.anyN, X02]
 refine Zx hP (S := Yy s) (by simp) (by simp) _ (PS.bind h (fun ts' e h => ?_) (fun a ts' ha h => ?_))
 ·simp
  exact Xm (h s) (by simp) (by simp [young])
 simp [hI.factors, hI.editions, hI.mosts, hI.weights, hI.anyN, X12]
 refine Zd hP (S := Yy s) (by simp) (by simp) (PS.bind h (fun ts' e h => ?_) (fun a ts' ha h => ?_))
 ·simp
  exact Xm (h s) (by simp) (by simp [young])
 simp [hI.factors, hI.editions, hI.mosts, hI.weights, hI.anyN, X1z]
 refine Zx hP (S := Yy s) (by simp) (by simp) _ (PS.bind h (fun ts' e h => ?_) (fun a ts' ha h => ?_))
 ·simp
  exact Xm (h s) (by simp) (by simp [young])
 simp [hI.factors, hI.editions, hI.mosts, hI.weights, hI.anyN, X1q]
 refine Zd hP (S := Yy s) (by simp) (by simp) (PS.bind h (fun ts' e h => ?_) (fun a ts' ha h => ?_))
 ·simp
  exact Xm (h s) (by simp) (by simp [young])
 simp [hI.factors, hI.editions, hI.mosts, hI.weights, hI.anyN, X1p]
 refine Zx hP (S := Yy s) (by simp) (by simp) _ (PS.bind h (fun ts' e h => ?_) (fun a ts' ha h => ?_))
 ·simp
  exact Xm (h s) (by simp) (by simp [young])
 simp [hI.factors, hI.editions, hI.mosts, hI.weights, hI.anyN, X0w]
 refine Zj hP (S := Yy s) (by simp) (by simp) _ _ (PS.bind h (fun ts' e h => ?_) (fun a ts' ha h => ?_))
 ·simp
  exact Xm (h s) (by simp) (by simp [young])
 simp [hI.factors, hI.editions, hI.mosts, hI.weights, hI.anyN, X2l]
 refine Zx hP (S := Yy s) (by simp) (by simp) _ (PS.bind h (fun ts' e h => ?_) (fun a ts' ha h => ?_))
 ·simp
  exact Xm (h s) (by simp) (by simp [young])
 simp [hI.factors, hI.editions, hI.mosts, hI.weights, hI.anyN, X7r]
 refine Xjj hP (S := Yy s) (by simp) (by simp) hI (PS.bind h (fun ts' e h => ?_) (fun a ts' ha h => ?_))
 ·simp
  exact Xm (h s) (by simp) (by simp [young])
 obtain ⟨w1, w2, w3, w4, rfl⟩ := Ux ha
 simp [Yaq]
 refine Yh hP (S := Yy s) (by simp) (by simp) _ (PS.bind h (fun ts' e h => ?_) (fun a ts' ha h => ?_))
 ·simp
  exact Xm (h s) (by simp) (by simp [young])
 simp [hI.factors, hI.editions, hI.mosts, hI.weights, hI.anyN, X6z]
 have fin : ∀ (ts' : List Tok) (e : Int), (∀ s, K (.panic (.d (Qt en ts' e))) (stO en ts' s)) → ∀ (o1 o2 o3 o4 : Ob), Zp 11 (K (.panic (.d (Qt en ts' e)))) [.d (Qt en ts' e)] ((14, o1) :: (13, o2) :: (12, o3) :: (11, o4) :: stO en ts' s) := fun ts' e h o1 o2 o3 o4 => Xm (h s) (by simp) (by simp [young])
 refine ALoop.go (ι := Schema × List Tok) (fun _ => [(0, .ptr 4 []), (2, .ptr 11 [])])
  (fun j => (14, .arr 96 4 (j.1.depends.map Depend.enc)) :: (13, .arr 93 11 (j.1.fields.map Field.enc)) :: (12, .box 93 (.d (Field.enc ⟨[115, 101, 108, 102], .person, [w1, w2, w3, w4]⟩))) :: (11, .box 79 (.agg [.d (.str j.1.name), .d (.str j.1.by_), .d (iD 0), .d (iD j.1.version), .sl 13 j.1.fields.length, .sl 14 j.1.depends.length])) :: stO en j.2 s)
  (fun j => 1 ≤ j.1.fields.length ∧ j.1.fields.length ≤ 12 ∧ j.1.depends.length ≤ 8 ∧ PS K en ((J5 (22 - (j.1.fields.length + j.1.depends.length)) j.1 >>= fun x => pure { s with schemas := s.schemas ++ [x] }) j.2)) (fun j => 20 - (j.1.fields.length + j.1.depends.length)) (⟨_, _, _, [⟨_, _, _⟩], []⟩, _) ⟨by simp, by simp, by simp, h⟩ (by simp) (by simp [Field.enc, TypeT.enc]) ?_
 clear h
 rintro ⟨x, ts1⟩ ⟨hf0, hf, hd, h⟩ R rn re rr rp
 dsimp only at hf0 hf hd h rn
 obtain ⟨n, hn⟩ : ∃ n, 22 - (x.fields.length + x.depends.length) = n + 1 := ⟨21 - (x.fields.length + x.depends.length), by omega⟩
 rw [hn, J5, Xx] at h
 simp [X9o]
 refine Y7 hP (S := Yy s) (by simp) (by simp) _ _ (PS.bind h (fun ts' e h => ?_) (fun a ts' ha h => ?_))
 ·simp
  refine rp _ _ _ ?_
  simp
  exact fin _ _ h _ _ _ _
 cases a with
 | true =>
  simp only [if_true, Ys] at h
  simp [Xwz]
  refine re _ _ _ ?_
  simp
  exact ⟨by have := hs.schemas; omega, Xm (s := { s with schemas := s.schemas ++ [x] }) h (by simp) (by simp [young]; rfl)⟩
 | false =>
  simp only [Bool.false_eq_true, if_false] at h
  simp [Xwz, X9h]
  refine Xab hP (S := Yy s) (ts := ts') (en := en) (by simp) (by simp) _ _ ?_
  cases hn1 : Xj 1 [102, 105, 101, 108, 100] ts' with
  | true =>
   rw [Yb1 hn1, Xx] at h
   simp [Xxm]
   refine Xbg hP (S := Yy s) (by simp) (by simp) _ 12 (PS.bind h (fun ts' e h => ?_) (fun a ts' ha h => ?_))
   ·simp
    refine rp _ _ _ ?_
    simp
    exact fin _ _ h _ _ _ _
   have hlt : x.fields.length < 12 := by
    simp only [Zw] at ha
    split at ha
    ·cases ha
    ·omega
   rw [Xx] at h
   simp [Xnb]
   refine ⟨?_, ?_⟩
   all_goals
    refine X8l hP (S := Yy s) (by simp) (by simp) hI (PS.bind h (fun ts' e h => ?_) (fun a ts' ha h => ?_))
    ·simp
     refine rp _ _ _ ?_
     simp
     exact fin _ _ h _ _ _ _
    have hsh := Xoh ha
    simp [hsh]
    refine ⟨by omega, ?_⟩
    refine rn [] ({ x with fields := x.fields ++ [a] }, ts') _ _ ⟨by first | exact hf0 | simp, by simp; omega, by simp; omega, ?_⟩ (by simp; omega) (by simp) (by simp [young]) (by simp [young]) (by simp [young, Qs])
    simp only [List.length_append, List.length_singleton]
    rw [show 22 - (x.fields.length + 1 + x.depends.length) = n by omega]
    exact h
  | false =>
   rw [Yec hn1] at h
   simp [Xxm]
   refine Xab hP (S := Yy s) (ts := ts') (en := en) (by simp) (by simp) _ _ ?_
   cases hn2 : Xj 1 [100, 101, 112, 101, 110, 100] ts' with
   | false =>
    rw [Yec hn2] at h
    simp [Xyo]
    refine W4 hP (S := Yy s) (ts := ts') (en := en) (by simp) (by simp) _ ?_
    simp
    refine rp _ _ _ ?_
    simp
    exact fin _ _ h _ _ _ _
   | true =>
    rw [Yb1 hn2, Xx] at h
    simp [Xyo]
    refine Xbg hP (S := Yy s) (by simp) (by simp) _ 8 (PS.bind h (fun ts' e h => ?_) (fun a ts' ha h => ?_))
    ·simp
     refine rp _ _ _ ?_
     simp
     exact fin _ _ h _ _ _ _
    have hlt : x.depends.length < 8 := by
     simp only [Zw] at ha
     split at ha
     ·cases ha
     ·omega
    rw [Xx] at h
    simp [X60]
    refine ⟨?_, ?_⟩
    all_goals
     refine X1i hP (S := Yy s) (by simp) (by simp) (PS.bind h (fun ts' e h => ?_) (fun a ts' ha h => ?_))
     ·simp
      refine rp _ _ _ ?_
      simp
      exact fin _ _ h _ _ _ _
     have hsh := Xjh a
     simp [hsh]
     refine ⟨by omega, ?_⟩
     refine rn [] ({ x with depends := x.depends ++ [a] }, ts') _ _ ⟨by first | exact hf0 | simp, by simp; omega, by simp; omega, ?_⟩ (by simp; omega) (by simp) (by simp [young]) (by simp [young]) (by simp [young, Qs])
     simp only [List.length_append, List.length_singleton]
     rw [show 22 - (x.fields.length + (x.depends.length + 1)) = n by omega]
     exact h
end
end Go.Proofs.YtanpgmgkmfckaaaGreatDoor
/- Plain laws of the parser of sources: what it reads is at the front; a source cut where it failed fails at its end alone. No program. -/
namespace Go.Sx
open Go Go.Ab Go.Lx
def R.rest {α : Type} : R α → List Tok
 | .ok _ r => r
 | .err r _ => r
def R.End {α : Type} : R α → Prop
 | .ok _ r => r = []
 | .err r _ => r = []
def R.map {α : Type} (g : Tok → Tok) : R α → R α
 | .ok a r => .ok a (r.map g)
 | .err r e => .err (r.map g) e
def Wr {α : Type} (m : M α) (pre post : List Tok) : Prop := match m (pre ++ post) with
 | .ok a r => (∃ mid, r = mid ++ post ∧ m pre = .ok a mid) ∨ (r.length < post.length ∧ (m pre).End)
 | .err r e => (∃ mid, mid ≠ [] ∧ r = mid ++ post ∧ m pre = .err mid e) ∨ (r.length ≤ post.length ∧ (m pre).End)
def Mv (g : Tok → Tok) : Prop := ∀ t, (g t).kind = t.kind ∧ (g t).text = t.text ∧ (g t).n = t.n
structure Good {α : Type} (m : M α) : Prop where
 sfx : ∀ ts, (m ts).rest <:+ ts
 loc : ∀ pre post, Wr m pre post
 mv : ∀ g, Mv g → ∀ ts, m (ts.map g) = (m ts).map g
def Z9 {α : Type} (m : M α) : Prop := ∀ ts a r, m ts = .ok a r → r.length < ts.length
section
variable {α β : Type}
theorem Good.ok {m : M α} (h : Good m) {ts r : List Tok} {a : α} (e : m ts = .ok a r) : r <:+ ts := by have := h.sfx ts; rw [e] at this; exact this
theorem Good.er {m : M α} (h : Good m) {ts r : List Tok} {e' : Int} (e : m ts = .err r e') : r <:+ ts := by have := h.sfx ts; rw [e] at this; exact this
theorem Good.end_nil {m : M α} (h : Good m) : (m []).End := by
 have := h.sfx []
 cases e : m [] with
 | ok a r => rw [e] at this; exact List.suffix_nil.1 this
 | err r x => rw [e] at this; exact List.suffix_nil.1 this
theorem Good.pure (a : α) : Good (pure a : M α) := ⟨fun ts => List.suffix_rfl, fun pre post => .inl ⟨pre, rfl, rfl⟩, fun _ _ _ => rfl⟩
theorem Good.fail (e : Int) : Good (fail e : M α) := by
 refine ⟨fun ts => List.suffix_rfl, fun pre post => ?_, fun _ _ _ => rfl⟩
 simp only [Wr, Sx.fail]
 cases pre with
 | nil => exact .inr ⟨by simp, rfl⟩
 | cons x p => exact .inl ⟨x :: p, by simp, rfl, rfl⟩
theorem Good.bind {m : M α} {f : α → M β} (hm : Good m) (hf : ∀ a, Good (f a)) : Good (m >>= f) := by
 refine ⟨fun ts => ?_, fun pre post => ?_, fun g hg ts => ?_⟩
 ·rw [Xe]
  have h1 := hm.sfx ts
  cases e : m ts with
  | ok a r => rw [e] at h1; exact ((hf a).sfx r).trans h1
  | err r x => rw [e] at h1; exact h1
 ·have h1 := hm.loc pre post
  unfold Wr at h1 ⊢
  rw [Xe]
  cases e : m (pre ++ post) with
  | ok a r =>
   rw [e] at h1
   simp only at h1 ⊢
   rcases h1 with ⟨mid, rfl, h2⟩ | ⟨h2, h3⟩
   ·have h4 := (hf a).loc mid post
    unfold Wr at h4
    rw [Xe, h2]
    exact h4
   ·have h6 : ((m >>= f) pre).End := by
     rw [Xe]
     cases e2 : m pre with
     | ok a' r' =>
      rw [e2] at h3
      simp only [R.End] at h3
      subst h3
      exact (hf a').end_nil
     | err r' x => rw [e2] at h3; exact h3
    cases e3 : f a r with
    | ok b r2 => exact .inr ⟨Nat.lt_of_le_of_lt ((hf a).ok e3).length_le h2, h6⟩
    | err r2 x => exact .inr ⟨Nat.le_of_lt (Nat.lt_of_le_of_lt ((hf a).er e3).length_le h2), h6⟩
  | err r x =>
   rw [e] at h1
   simp only at h1 ⊢
   rcases h1 with ⟨mid, h0, rfl, h2⟩ | ⟨h2, h3⟩
   ·exact .inl ⟨mid, h0, rfl, by rw [Xe, h2]⟩
   ·refine .inr ⟨h2, ?_⟩
    rw [Xe]
    cases e2 : m pre with
    | ok a' r' =>
     rw [e2] at h3
     simp only [R.End] at h3
     subst h3
     exact (hf a').end_nil
    | err r' x => rw [e2] at h3; exact h3
 ·rw [Xe, Xe, hm.mv g hg ts]
  cases m ts with
  | ok a r => exact (hf a).mv g hg r
  | err r x => rfl
theorem Good.ite {c : Prop} [Decidable c] {a b : M α} (ha : Good a) (hb : Good b) : Good (if c then a else b) := by split <;> assumption
theorem Xca {g : Tok → Tok} (hg : Mv g) (k : Int) (t : B) (ts : List Tok) : Xj k t (ts.map g) = Xj k t ts := by
 cases ts with
 | nil => rfl
 | cons x r => simp only [List.map_cons, Xj, (hg x).1, (hg x).2.1]
theorem Z9.bind {m : M α} {f : α → M β} (hm : Z9 m) (hf : ∀ a, Good (f a)) : Z9 (m >>= f) := fun ts b r h => by
 rw [Xe] at h
 cases e : m ts with
 | ok a r1 => rw [e] at h; exact Nat.lt_of_le_of_lt ((hf a).ok h).length_le (hm _ _ _ e)
 | err r1 x => rw [e] at h; cases h
theorem Z9.bind2 {m : M α} {f : α → M β} (hm : Good m) (hf : ∀ a, Z9 (f a)) : Z9 (m >>= f) := fun ts b r h => by
 rw [Xe] at h
 cases e : m ts with
 | ok a r1 => rw [e] at h; exact Nat.lt_of_lt_of_le (hf a _ _ _ h) (hm.ok e).length_le
 | err r1 x => rw [e] at h; cases h
theorem Good.ifN {k : Int} {t : B} {a b : M α} (ha : Good a) (he : Z9 a) (hb : Good b) : Good (fun ts => if Xj k t ts then a ts else b ts) := by
 refine ⟨fun ts => ?_, fun pre post => ?_, fun g hg ts => ?_⟩
 ·split
  ·exact ha.sfx ts
  ·exact hb.sfx ts
 ·cases pre with
  | nil =>
   have hl := hb.loc [] post
   have hn : Xj k t [] = false := rfl
   simp only [Wr, List.nil_append, hn, Bool.false_eq_true, if_false] at hl ⊢
   split
   ·rename_i x y z hc
    split at hc
    ·exact .inr ⟨he _ _ _ hc, hb.end_nil⟩
    ·rw [hc] at hl; exact hl
   ·rename_i x y z hc
    split at hc
    ·exact .inr ⟨(ha.er hc).length_le, hb.end_nil⟩
    ·rw [hc] at hl; exact hl
  | cons x p =>
   have hn : Xj k t (x :: p ++ post) = Xj k t (x :: p) := rfl
   have h1 := ha.loc (x :: p) post
   have h2 := hb.loc (x :: p) post
   cases hc : Xj k t (x :: p) with
   | true => simp only [Wr, hn, hc, if_true] at h1 ⊢; exact h1
   | false => simp only [Wr, hn, hc, Bool.false_eq_true, if_false] at h2 ⊢; exact h2
 ·simp only [Xca hg]
  split
  ·exact ha.mv g hg ts
  ·exact hb.mv g hg ts
theorem Vu {k : Int} {t : B} {f : Tok → α} (hf : ∀ g, Mv g → ∀ x, f (g x) = f x) : Good (fun ts => if Xj k t ts then .ok (f (ts.headD default)) ts.tail else .err ts 100 : M α) ∧ Z9 (fun ts => if Xj k t ts then .ok (f (ts.headD default)) ts.tail else .err ts 100 : M α) := by
 have he : Z9 (fun ts => if Xj k t ts then .ok (f (ts.headD default)) ts.tail else .err ts 100 : M α) := fun ts a r h => by
  cases ts with
  | nil => simp [Xj] at h
  | cons x p =>
   simp only at h
   split at h
   ·cases h; simp
   ·cases h
 refine ⟨⟨fun ts => ?_, fun pre post => ?_, fun g hg ts => ?_⟩, he⟩
 ·split
  ·exact List.tail_suffix _
  ·exact List.suffix_rfl
 ·cases pre with
  | nil =>
   cases hp : Xj k t post with
   | true =>
    have : post ≠ [] := by intro e; subst e; simp [Xj] at hp
    simp only [Wr, List.nil_append, hp, if_true]
    exact .inr ⟨by have := List.length_pos_iff.2 this; simp; omega, by simp [Xj, R.End]⟩
   | false =>
    simp only [Wr, List.nil_append, hp, Bool.false_eq_true, if_false]
    exact .inr ⟨Nat.le_refl _, by simp [Xj, R.End]⟩
  | cons x p =>
   have hn : Xj k t (x :: p ++ post) = Xj k t (x :: p) := rfl
   cases hp : Xj k t (x :: p) with
   | true =>
    simp only [Wr, hn, hp, if_true]
    exact .inl ⟨p, by simp, by simp⟩
   | false =>
    simp only [Wr, hn, hp, Bool.false_eq_true, if_false]
    exact .inl ⟨x :: p, by simp, by simp, rfl⟩
 ·simp only [Xca hg]
  cases ts with
  | nil => simp [Xj, R.map]
  | cons x p =>
   cases hp : Xj k t (x :: p) with
   | true => simp [R.map, hf g hg]
   | false => simp [R.map]
end
theorem Xot : X9 = fun ts => if Xj 1 [] ts then .ok (ts.headD default).text ts.tail else .err ts 100 := by
 funext ts; simp only [X9, Xe, Jb]; cases Xj 1 [] ts <;> rfl
theorem Xyu (t : B) : Yp t = fun ts => if Xj 1 t ts then .ok () ts.tail else .err ts 100 := by
 funext ts; simp only [Yp, Xe, Jb]; cases Xj 1 t ts <;> rfl
theorem Xwi (t : B) : X2 t = fun ts => if Xj 3 t ts then .ok () ts.tail else .err ts 100 := by
 funext ts; simp only [X2, Xe, Jb]; cases Xj 3 t ts <;> rfl
theorem Xi : Good X9 := by rw [Xot]; exact (Vu (f := fun x => x.text) fun g hg x => (hg x).2.1).1
theorem Xx4 : Z9 X9 := by rw [Xot]; exact (Vu (f := fun x => x.text) fun g hg x => (hg x).2.1).2
theorem Xl (t : B) : Good (Yp t) := by rw [Xyu]; exact (Vu (f := fun _ => ()) fun g hg x => rfl).1
theorem Yx (t : B) : Z9 (Yp t) := by rw [Xyu]; exact (Vu (f := fun _ => ()) fun g hg x => rfl).2
theorem Xf (t : B) : Good (X2 t) := by rw [Xwi]; exact (Vu (f := fun _ => ()) fun g hg x => rfl).1
theorem Xaa (t : B) : Z9 (X2 t) := by rw [Xwi]; exact (Vu (f := fun _ => ()) fun g hg x => rfl).2
theorem Xn (k : Int) (t : B) : Good (Xt k t) := by
 refine ⟨fun ts => ?_, fun pre post => ?_, fun g hg ts => ?_⟩
 ·simp only [Xt]
  split
  ·exact List.tail_suffix _
  ·exact List.suffix_rfl
 ·cases pre with
  | nil =>
   cases hp : Xj k t post with
   | true =>
    have : post ≠ [] := by intro e; subst e; simp [Xj] at hp
    simp only [Wr, Xt, List.nil_append, hp, if_true]
    exact .inr ⟨by have := List.length_pos_iff.2 this; simp; omega, by simp [Xj, R.End]⟩
   | false =>
    simp only [Wr, Xt, List.nil_append, hp, Bool.false_eq_true, if_false]
    exact .inl ⟨[], rfl, by simp [Xj]⟩
  | cons x p =>
   have hn : Xj k t (x :: p ++ post) = Xj k t (x :: p) := rfl
   cases hp : Xj k t (x :: p) with
   | true =>
    simp only [Wr, Xt, hn, hp, if_true]
    exact .inl ⟨p, by simp, by simp⟩
   | false =>
    simp only [Wr, Xt, hn, hp, Bool.false_eq_true, if_false]
    exact .inl ⟨x :: p, by simp, rfl⟩
 ·simp only [Xt, Xca hg]
  cases ts with
  | nil => simp [Xj, R.map]
  | cons x p =>
   cases hp : Xj k t (x :: p) with
   | true => simp [R.map]
   | false => simp [R.map]
theorem Qi (lo hi : Int) : Xy lo hi [] = .err [] 100 := by simp [Xy, Xj]
theorem Ub (lo hi : Int) (x : Tok) (p : List Tok) : Xy lo hi (x :: p) = if Xj 2 [] [x] && decide (lo ≤ x.n) && decide (x.n ≤ hi) then .ok x.n p else .err (x :: p) 100 := by
 simp only [Xy, List.headD_cons, List.tail_cons]; rfl
theorem Xw (lo hi : Int) : Good (Xy lo hi) := by
 refine ⟨fun ts => ?_, fun pre post => ?_, fun g hg ts => ?_⟩
 ·simp only [Xy]
  split
  ·exact List.tail_suffix _
  ·exact List.suffix_rfl
 ·cases pre with
  | nil =>
   cases post with
   | nil => simp only [Wr, List.append_nil, Qi]; exact .inr ⟨Nat.le_refl _, rfl⟩
   | cons y q =>
    simp only [Wr, List.nil_append, Qi, Ub]
    split
    ·rename_i h; split at h
     ·cases h; exact .inr ⟨by simp, rfl⟩
     ·cases h
    ·rename_i h; split at h
     ·cases h
     ·cases h; exact .inr ⟨Nat.le_refl _, rfl⟩
  | cons x p =>
   simp only [Wr, List.cons_append, Ub]
   split
   ·rename_i h; split at h
    ·rename_i hc; cases h; exact .inl ⟨p, rfl, by rw [if_pos hc]⟩
    ·cases h
   ·rename_i h; split at h
    ·cases h
    ·rename_i hc; cases h; exact .inl ⟨x :: p, by simp, rfl, by rw [if_neg hc]⟩
 ·cases ts with
  | nil => simp [Qi, R.map]
  | cons x p =>
   have := Xca hg 2 [] [x]
   simp only [List.map_cons, List.map_nil] at this
   simp only [List.map_cons, Ub, this, (hg x).2.2]
   split <;> simp [R.map]
theorem Xkz (lo hi : Int) : Z9 (Xy lo hi) := fun ts a r h => by
 cases ts with
 | nil => rw [Qi] at h; cases h
 | cons x p =>
  rw [Ub] at h
  split at h
  ·cases h; simp
  ·cases h
theorem X5 (a b : Nat) : Good (Zw a b) := by
 by_cases h : a = b
 ·have : Zw a b = fail 2 := by funext ts; simp [Zw, h, fail]
  rw [this]; exact .fail 2
 ·have : Zw a b = pure () := by funext ts; simp [Zw, h]
  rw [this]; exact .pure ()
theorem Good.ifM {α : Type} {k : Int} {t : B} {a b : M α} (ha : Good a) (he : Z9 a) (hb : Good b) : Good (ifM (Xj k t) a b) := Good.ifN ha he hb
theorem X6 {α : Type} {k : Int} {t : B} {read : M α} (hr : Good read) (he : Z9 read) : ∀ n, Good (Xs (Xj k t) read n)
 | 0 => by
  have : Xs (Xj k t) read 0 = fun ts => if Xj k t ts then .err ts 2 else .ok [] ts := rfl
  rw [this]
  have := Good.ifN (k := k) (t := t) (a := (fail 2 : M (List α))) (b := pure []) (.fail 2) (fun _ _ _ h => by cases h) (.pure [])
  exact this
 | n + 1 => by
  have : Xs (Xj k t) read (n + 1) = fun ts => if Xj k t ts then (read >>= fun a => Xs (Xj k t) read n >>= fun l => pure (a :: l) : M (List α)) ts else (pure [] : M (List α)) ts := rfl
  rw [this]
  exact Good.ifN (hr.bind fun a => (X6 hr he n).bind fun l => .pure _) (he.bind fun a => (X6 hr he n).bind fun l => .pure _) (.pure _)
theorem Wh : Good Xfw := Xi.bind fun _ => (Xf _).bind fun _ => Xi.bind fun _ => .pure _
theorem Zy : Good U9 := Good.ifN ((Xw _ _).bind fun _ => .pure _) ((Xkz _ _).bind fun _ => .pure _) (Wh.bind fun _ => .pure _)
theorem U4 : Good Ue := (Xl _).bind fun _ => Xi.bind fun _ => Xi.bind fun _ => (Xn _ _).bind fun _ => .ite (Wh.bind fun _ => (Xf _).bind fun _ => .pure _) ((Xf _).bind fun _ => .pure _)
theorem Qc : Z9 Ue := (Yx _).bind fun _ => Xi.bind fun _ => Xi.bind fun _ => (Xn _ _).bind fun _ => .ite (Wh.bind fun _ => (Xf _).bind fun _ => .pure _) ((Xf _).bind fun _ => .pure _)
theorem Xos : Good opM := (Xn _ _).bind fun _ => .ite (.pure _) ((Xn _ _).bind fun _ => .ite ((Xn _ _).bind fun _ => .pure _) ((Xf _).bind fun _ => (Xf _).bind fun _ => .pure _))
theorem Qh : Good Us := (Xl _).bind fun _ => Zy.bind fun _ => Xos.bind fun _ => Zy.bind fun _ => (Xf _).bind fun _ => .pure _
theorem Qn : Z9 Us := (Yx _).bind fun _ => Zy.bind fun _ => Xos.bind fun _ => Zy.bind fun _ => (Xf _).bind fun _ => .pure _
theorem Xcf : Good Xsv := (Xl _).bind fun _ => Xi.bind fun _ => (Xf _).bind fun _ => Zy.bind fun _ => (Xf _).bind fun _ => .pure _
theorem Xci : Z9 Xsv := (Yx _).bind fun _ => Xi.bind fun _ => (Xf _).bind fun _ => Zy.bind fun _ => (Xf _).bind fun _ => .pure _
theorem Xaq : Good Xbj := (Xn _ _).bind fun _ => .ite (Xw _ _) ((Xn _ _).bind fun _ => .ite ((Xw _ _).bind fun _ => .pure _) (.pure _))
theorem Xc9 : Good J3 := Xi.bind fun _ => (Xf _).bind fun _ => Xi.bind fun _ => Xaq.bind fun _ => (Xf _).bind fun _ => .pure _
theorem Xdy : Z9 J3 := Xx4.bind fun _ => (Xf _).bind fun _ => Xi.bind fun _ => Xaq.bind fun _ => (Xf _).bind fun _ => .pure _
theorem Xfm : Good Xst := (Xl _).bind fun _ => Wh.bind fun _ => (Xf _).bind fun _ => .pure _
theorem Xhm : Z9 Xst := (Yx _).bind fun _ => Wh.bind fun _ => (Xf _).bind fun _ => .pure _
theorem Ua : ∀ n, Good (Xfa n)
 | 0 => .pure _
 | n + 1 => (Xw _ _).bind fun _ => (Ua n).bind fun _ => .pure _
theorem W8 (n : Nat) : Good (Vb n) := Xi.bind fun _ => (X6 ((Xf _).bind fun _ => Xi) ((Xaa _).bind fun _ => Xi) _).bind fun _ => .pure _
theorem Xcv : Good Xb9 := (Xn _ _).bind fun _ => .ite ((Xw _ _).bind fun _ => (Xl _).bind fun _ => (Xw _ _).bind fun _ => (Xn _ _).bind fun _ => .ite (Xi.bind fun _ => .pure _) (.pure _)) ((Xn _ _).bind fun _ => .ite (.pure _) ((Xn _ _).bind fun _ => .ite (.pure _) ((Xn _ _).bind fun _ => .ite ((W8 _).bind fun _ => .pure _) (.fail _))))
theorem Xep : Good Qb := (Xl _).bind fun _ => Xi.bind fun _ => (Xf _).bind fun _ => Xcv.bind fun _ => (Ua 4).bind fun _ => (Xf _).bind fun _ => .pure _
theorem Xr1 : Z9 Qb := (Yx _).bind fun _ => Xi.bind fun _ => (Xf _).bind fun _ => Xcv.bind fun _ => (Ua 4).bind fun _ => (Xf _).bind fun _ => .pure _
theorem Xdv : Good U5 := (Xl _).bind fun _ => (W8 _).bind fun _ => (Xl _).bind fun _ => Xi.bind fun _ => (Xf _).bind fun _ => .pure _
theorem Xon : Z9 U5 := (Yx _).bind fun _ => (W8 _).bind fun _ => (Xl _).bind fun _ => Xi.bind fun _ => (Xf _).bind fun _ => .pure _
theorem Qe : ∀ n s, Good (J5 n s)
 | 0, _ => .fail _
 | n + 1, s => (Xn _ _).bind fun _ => .ite (.pure _) (Good.ifM ((X5 _ _).bind fun _ => Xep.bind fun _ => Qe n _) (Z9.bind2 (X5 _ _) fun _ => Xr1.bind fun _ => Qe n _)
  (Good.ifM ((X5 _ _).bind fun _ => Xdv.bind fun _ => Qe n _) (Z9.bind2 (X5 _ _) fun _ => Xon.bind fun _ => Qe n _) (.fail _)))
theorem Xv8 (s : Src) : Good (U1 s) ∧ Z9 (U1 s) := ⟨(X5 _ _).bind fun _ => (Xl _).bind fun _ => Xi.bind fun _ => (Xf _).bind fun _ => .pure _, Z9.bind2 (X5 _ _) fun _ => (Yx _).bind fun _ => Xi.bind fun _ => (Xf _).bind fun _ => .pure _⟩
theorem Xeu (s : Src) : ∀ _ : Unit, Good (do let a ← X9; let b ← Xt 3 [61]; if b then do { let n ← Xy 2 1000; let o ← X9; X2 [59]; pure { s with units := s.units ++ [⟨a, some (n, o)⟩] } } else do { X2 [59]; pure { s with units := s.units ++ [⟨a, none⟩] } } : M Src) := fun _ => Xi.bind fun _ => (Xn _ _).bind fun _ => .ite ((Xw _ _).bind fun _ => Xi.bind fun _ => (Xf _).bind fun _ => .pure _) ((Xf _).bind fun _ => .pure _)
theorem X90 (s : Src) : Good (Xi1 s) ∧ Z9 (Xi1 s) := ⟨(X5 _ _).bind fun _ => (Xl _).bind (Xeu s), Z9.bind2 (X5 _ _) fun _ => (Yx _).bind (Xeu s)⟩
theorem Xbi (s : Src) : ∀ _ : Unit, Good (do let a ← X9; Yp [98, 121]; let b ← X9; Yp [118, 101, 114, 115, 105, 111, 110]; let v ← Xy 1 255; Yp [115, 101, 108, 102]; let w ← Wz; X2 [123]; let x ← J5 21 ⟨a, b, v, [⟨[115, 101, 108, 102], .person, w⟩], []⟩; pure { s with schemas := s.schemas ++ [x] } : M Src) := fun _ => Xi.bind fun _ => (Xl _).bind fun _ => Xi.bind fun _ => (Xl _).bind fun _ => (Xw _ _).bind fun _ => (Xl _).bind fun _ => (Ua 4).bind fun _ => (Xf _).bind fun _ => (Qe _ _).bind fun _ => .pure _
theorem Xw7 (s : Src) : Good (Qd s) ∧ Z9 (Qd s) := ⟨(X5 _ _).bind fun _ => (Xl _).bind (Xbi s), Z9.bind2 (X5 _ _) fun _ => (Yx _).bind (Xbi s)⟩
theorem Xfe (s : Src) : ∀ _ : Unit, Good (do let a ← X9; X2 [123]; ifM (Xj 1 [102, 114, 111, 109]) (do { let f ← Xs (Xj 1 [102, 114, 111, 109]) Ue 3; let w ← Xs (Xj 1 [119, 104, 101, 114, 101]) Us 8; let t ← Xs (Xj 1 [115, 101, 116]) Xsv 11; X2 [125]; pure { s with rules := s.rules ++ [⟨a, f, w, t⟩] } }) (fail 100) : M Src) := fun _ => Xi.bind fun _ => (Xf _).bind fun _ => by
 refine Good.ifM ?_ ?_ (.fail _)
 ·exact (X6 U4 Qc _).bind fun _ => (X6 Qh Qn _).bind fun _ => (X6 Xcf Xci _).bind fun _ => (Xf _).bind fun _ => .pure _
 ·exact Z9.bind2 (X6 U4 Qc _) fun _ => Z9.bind2 (X6 Qh Qn _) fun _ => Z9.bind2 (X6 Xcf Xci _) fun _ => (Xaa _).bind fun _ => .pure _
theorem X61 (s : Src) : Good (Xij s) ∧ Z9 (Xij s) := ⟨(X5 _ _).bind fun _ => (Xl _).bind (Xfe s), Z9.bind2 (X5 _ _) fun _ => (Yx _).bind (Xfe s)⟩
theorem Jk (s : Src) : ∀ _ : Unit, Good (do let a ← X9; Yp [116, 111]; let b ← X9; X2 [123]; let l ← Xs (Xj 1 []) J3 11; X2 [125]; pure { s with converts := s.converts ++ [⟨a, b, l⟩] } : M Src) := fun _ => Xi.bind fun _ => (Xl _).bind fun _ => Xi.bind fun _ => (Xf _).bind fun _ => (X6 Xc9 Xdy _).bind fun _ => (Xf _).bind fun _ => .pure _
theorem Xrc (s : Src) : Good (Vk s) ∧ Z9 (Vk s) := ⟨(X5 _ _).bind fun _ => (Xl _).bind (Jk s), Z9.bind2 (X5 _ _) fun _ => (Yx _).bind (Jk s)⟩
theorem Xad (s : Src) : ∀ _ : Unit, Good (do let a ← X9; X2 [123]; let l ← Xs (Xj 1 [109, 97, 121]) Xst 32; Yp [109, 111, 115, 116]; let n ← Xy 0 32; X2 [59]; X2 [125]; pure { s with purposes := s.purposes ++ [⟨a, l, n⟩] } : M Src) := fun _ => Xi.bind fun _ => (Xf _).bind fun _ => (X6 Xfm Xhm _).bind fun _ => (Xl _).bind fun _ => (Xw _ _).bind fun _ => (Xf _).bind fun _ => (Xf _).bind fun _ => .pure _
theorem Xqy (s : Src) : Good (Vl s) ∧ Z9 (Vl s) := ⟨(X5 _ _).bind fun _ => (Xl _).bind (Xad s), Z9.bind2 (X5 _ _) fun _ => (Yx _).bind (Xad s)⟩
def Xel (t : B) (s : Src) : M Src :=
 if t = [105, 115, 115, 117, 101, 114] then U1 s
 else if t = [117, 110, 105, 116] then Xi1 s
 else if t = [115, 99, 104, 101, 109, 97] then Qd s
 else if t = [100, 101, 114, 105, 118, 101] then Xij s
 else if t = [99, 111, 110, 118, 101, 114, 116] then Vk s
 else if t = [112, 117, 114, 112, 111, 115, 101] then Vl s
 else fail 100
theorem Xav (t : B) (s : Src) : Good (Xel t s) ∧ Z9 (Xel t s) := by
 unfold Xel
 split
 ·exact Xv8 s
 split
 ·exact X90 s
 split
 ·exact Xw7 s
 split
 ·exact X61 s
 split
 ·exact Xrc s
 split
 ·exact Xqy s
 ·exact ⟨.fail _, fun _ _ _ h => by cases h⟩
def V6 (s : Src) : M Src := fun ts => match ts with
 | [] => .err [] 100
 | x :: r => if x.kind = 1 then Xel x.text s (x :: r) else .err (x :: r) 100
theorem J1 (s : Src) : Z9 (V6 s) := fun ts a r h => by
 cases ts with
 | nil => cases h
 | cons x p =>
  simp only [V6] at h
  split at h
  ·exact (Xav _ _).2 _ _ _ h
  ·cases h
theorem Xqk (s : Src) : Good (V6 s) := by
 refine ⟨fun ts => ?_, fun pre post => ?_, fun g hg ts => ?_⟩
 ·cases ts with
  | nil => exact List.suffix_rfl
  | cons x p =>
   simp only [V6]
   split
   ·exact (Xav _ _).1.sfx _
   ·exact List.suffix_rfl
 ·cases pre with
  | nil =>
   have hs : (V6 s post).rest <:+ post := by
    cases post with
    | nil => exact List.suffix_rfl
    | cons x p =>
     simp only [V6]
     split
     ·exact (Xav _ _).1.sfx _
     ·exact List.suffix_rfl
   simp only [Wr, List.nil_append]
   cases e : V6 s post with
   | ok a r => exact .inr ⟨J1 s _ _ _ e, rfl⟩
   | err r x => rw [e] at hs; exact .inr ⟨hs.length_le, rfl⟩
  | cons x p =>
   by_cases hk : x.kind = 1
   ·have := (Xav x.text s).1.loc (x :: p) post
    simpa only [Wr, V6, List.cons_append, hk, if_true] using this
   ·simp only [Wr, V6, List.cons_append, hk, if_false]
    exact .inl ⟨x :: p, by simp, rfl, rfl⟩
 ·cases ts with
  | nil => rfl
  | cons x p =>
   simp only [V6, List.map_cons, (hg x).1, (hg x).2.1]
   split
   ·have := (Xav x.text s).1.mv g hg (x :: p)
    simpa using this
   ·rfl
def Yc : Nat → Src → M Src
 | 0, s => fun ts => match ts with
  | [] => .ok s []
  | x :: r => .err (x :: r) 0
 | n + 1, s => fun ts => match ts with
  | [] => .ok s []
  | x :: r => (V6 s >>= Yc n) (x :: r)
theorem Vy (n : Nat) (s : Src) : Yc n s [] = .ok s [] := by cases n <;> rfl
theorem Yq (n : Nat) (s : Src) (x : Tok) (r : List Tok) : Yc (n + 1) s (x :: r) = (V6 s >>= Yc n) (x :: r) := rfl
theorem W1 : ∀ n s, Good (Yc n s)
 | 0, s => by
  refine ⟨fun ts => ?_, fun pre post => ?_, fun g hg ts => ?_⟩
  ·cases ts <;> exact List.suffix_rfl
  ·cases pre with
   | nil =>
    cases post with
    | nil => exact .inl ⟨[], rfl, rfl⟩
    | cons x p => exact .inr ⟨Nat.le_refl _, rfl⟩
   | cons x p => exact .inl ⟨x :: p, by simp, rfl, rfl⟩
  ·cases ts <;> rfl
 | n + 1, s => by
  have hb : Good (V6 s >>= Yc n) := (Xqk s).bind (W1 n)
  have he : Z9 (V6 s >>= Yc n) := (J1 s).bind (W1 n)
  refine ⟨fun ts => ?_, fun pre post => ?_, fun g hg ts => ?_⟩
  ·cases ts with
   | nil => exact List.suffix_rfl
   | cons x p => exact hb.sfx (x :: p)
  ·cases pre with
   | nil =>
    cases post with
    | nil => exact .inl ⟨[], rfl, rfl⟩
    | cons x p =>
     simp only [Wr, List.nil_append, Yq]
     cases e : (V6 s >>= Yc n) (x :: p) with
     | ok a r => exact .inr ⟨he _ _ _ e, rfl⟩
     | err r y => exact .inr ⟨(hb.er e).length_le, rfl⟩
   | cons x p =>
    have := hb.loc (x :: p) post
    simpa only [Wr, List.cons_append, Yq] using this
  ·cases ts with
   | nil => rfl
   | cons x p =>
    have := hb.mv g hg (x :: p)
    simpa only [List.map_cons, Yq] using this
theorem Q4 : ∀ (n : Nat) (s : Src) (ts : List Tok), ts.length ≤ n → Yc n s ts = Yc ts.length s ts := by
 have key : ∀ (n : Nat) (s : Src) (ts : List Tok), ts.length ≤ n → Yc n s ts = Yc (n + 1) s ts := by
  intro n
  induction n with
  | zero => intro s ts h; cases ts with
   | nil => rfl
   | cons x r => simp at h
  | succ n ih =>
   intro s ts h
   cases ts with
   | nil => rfl
   | cons x r =>
    rw [Yq, Yq, Xe, Xe]
    cases e : V6 s (x :: r) with
    | err a b => rfl
    | ok a r1 =>
     have := J1 s _ _ _ e
     simp only [List.length_cons] at this h
     exact ih a r1 (by omega)
 intro n s ts h
 obtain ⟨d, rfl⟩ := Nat.exists_eq_add_of_le h
 clear h
 induction d with
 | zero => rfl
 | succ d ih => rw [← ih]; exact (key (ts.length + d) s ts (by omega)).symm
abbrev X1u : Src := ⟨[], [], [], [], [], []⟩
def Ze (ts : List Tok) : R Src := Yc ts.length X1u ts
theorem Xtw {pre post : List Tok} {e : Int} (h : Ze (pre ++ post) = .err post e) : (Ze pre).End := by
 have h1 := (W1 (pre ++ post).length X1u).loc pre post
 unfold Ze at h
 simp only [Wr, h] at h1
 have h2 : (Yc (pre ++ post).length X1u pre).End := by
  rcases h1 with ⟨mid, h0, h2, h3⟩ | ⟨_, h3⟩
  ·have := congrArg List.length h2
   simp at this
   exact absurd this h0
  ·exact h3
 unfold Ze
 rw [Q4 _ _ _ (by simp)] at h2
 exact h2
theorem Xu3 {ts r : List Tok} {e : Int} (h : Ze ts = .err r e) : r <:+ ts := (W1 _ _).er h
end Go.Sx
/- Plain laws of the parser of sources: a definition is room for it, its text, and the addition of it. No program. -/
namespace Go.Sx
open Go Go.Ab Go.Lx
section
variable {α β : Type}
theorem Yu5 {c : Prop} [Decidable c] (a b : M α) (f : α → M β) : ((if c then a else b) >>= f) = if c then a >>= f else b >>= f := by split <;> rfl
theorem Ys6 {c : List Tok → Bool} (a b : M α) (f : α → M β) : ((ifM c a b) >>= f) = ifM c (a >>= f) (b >>= f) := by
 funext ts; simp only [Xe, ifM]; cases c ts <;> rfl
theorem Yhz (e : Int) (f : α → M β) : ((fail e : M α) >>= f) = fail e := rfl
def Xjy (n m : Nat) (body : M α) (g : α → Src) : M Src := Zw n m >>= fun _ => body >>= fun a => pure (g a)
theorem Wp {n m : Nat} {body : M α} {g : α → Src} {ts r : List Tok} {s : Src} (h : Xjy n m body g ts = .ok s r) : n ≠ m ∧ ∃ a, body ts = .ok a r ∧ s = g a := by
 simp only [Xjy, Xe, Zw] at h
 by_cases he : n = m
 ·simp [he] at h
 ·simp only [he, if_false] at h
  cases hb : body ts with
  | ok a t1 => simp only [hb, X69, R.ok.injEq] at h; exact ⟨he, a, by rw [h.2], h.1.symm⟩
  | err a b => simp [hb] at h
end
def Xan : M B := do
 Yp [105, 115, 115, 117, 101, 114]
 let a ← X9
 X2 [59]
 pure a
theorem Xd3 (s : Src) : U1 s = Xjy s.issuers.length 8 Xan fun a => { s with issuers := s.issuers ++ [a] } := by
 simp only [U1, Xjy, Xan, Xx, Ys]
def Xov : M UnitT := do
 Yp [117, 110, 105, 116]
 let a ← X9
 let b ← Xt 3 [61]
 if b then do
  let n ← Xy 2 1000
  let o ← X9
  X2 [59]
  pure ⟨a, some (n, o)⟩
 else do
  X2 [59]
  pure ⟨a, none⟩
theorem Xnh (s : Src) : Xi1 s = Xjy s.units.length 16 Xov fun a => { s with units := s.units ++ [a] } := by
 simp only [Xi1, Xjy, Xov, Xx, Ys, Yu5]
def Xak : M Schema := do
 Yp [115, 99, 104, 101, 109, 97]
 let a ← X9
 Yp [98, 121]
 let b ← X9
 Yp [118, 101, 114, 115, 105, 111, 110]
 let v ← Xy 1 255
 Yp [115, 101, 108, 102]
 let w ← Wz
 X2 [123]
 J5 21 ⟨a, b, v, [⟨[115, 101, 108, 102], .person, w⟩], []⟩
theorem Xdz (s : Src) : Qd s = Xjy s.schemas.length 16 Xak fun a => { s with schemas := s.schemas ++ [a] } := by
 simp only [Qd, Xjy, Xak, Xx, Ys]
def Xqu : M Rule := do
 Yp [100, 101, 114, 105, 118, 101]
 let a ← X9
 X2 [123]
 ifM (Xj 1 [102, 114, 111, 109]) (do
  let f ← Xs (Xj 1 [102, 114, 111, 109]) Ue 3
  let w ← Xs (Xj 1 [119, 104, 101, 114, 101]) Us 8
  let t ← Xs (Xj 1 [115, 101, 116]) Xsv 11
  X2 [125]
  pure ⟨a, f, w, t⟩) (fail 100)
theorem Xj6 (s : Src) : Xij s = Xjy s.rules.length 16 Xqu fun a => { s with rules := s.rules ++ [a] } := by
 simp only [Xij, Xjy, Xqu, Xx, Ys, Ys6, Yhz]
def Ql : M Convert := do
 Yp [99, 111, 110, 118, 101, 114, 116]
 let a ← X9
 Yp [116, 111]
 let b ← X9
 X2 [123]
 let l ← Xs (Xj 1 []) J3 11
 X2 [125]
 pure ⟨a, b, l⟩
theorem Xa8 (s : Src) : Vk s = Xjy s.converts.length 16 Ql fun a => { s with converts := s.converts ++ [a] } := by
 simp only [Vk, Xjy, Ql, Xx, Ys]
def Qq : M Purpose := do
 Yp [112, 117, 114, 112, 111, 115, 101]
 let a ← X9
 X2 [123]
 let l ← Xs (Xj 1 [109, 97, 121]) Xst 32
 Yp [109, 111, 115, 116]
 let n ← Xy 0 32
 X2 [59]
 X2 [125]
 pure ⟨a, l, n⟩
theorem Xa2 (s : Src) : Vl s = Xjy s.purposes.length 8 Qq fun a => { s with purposes := s.purposes ++ [a] } := by
 simp only [Vl, Xjy, Qq, Xx, Ys]
theorem Xq1 {t : B} {s s' : Src} {ts r : List Tok} (h : Xel t s ts = .ok s' r) :
  (s.issuers.length ≠ 8 ∧ ∃ a, s' = { s with issuers := s.issuers ++ [a] }) ∨ (s.units.length ≠ 16 ∧ ∃ a, s' = { s with units := s.units ++ [a] }) ∨ (s.schemas.length ≠ 16 ∧ ∃ a, s' = { s with schemas := s.schemas ++ [a] }) ∨
  (s.rules.length ≠ 16 ∧ ∃ a, s' = { s with rules := s.rules ++ [a] }) ∨ (s.converts.length ≠ 16 ∧ ∃ a, s' = { s with converts := s.converts ++ [a] }) ∨ (s.purposes.length ≠ 8 ∧ ∃ a, s' = { s with purposes := s.purposes ++ [a] }) := by
 unfold Xel at h
 split at h
 ·rw [Xd3] at h; obtain ⟨h1, a, _, h2⟩ := Wp h; exact .inl ⟨h1, a, h2⟩
 split at h
 ·rw [Xnh] at h; obtain ⟨h1, a, _, h2⟩ := Wp h; exact .inr (.inl ⟨h1, a, h2⟩)
 split at h
 ·rw [Xdz] at h; obtain ⟨h1, a, _, h2⟩ := Wp h; exact .inr (.inr (.inl ⟨h1, a, h2⟩))
 split at h
 ·rw [Xj6] at h; obtain ⟨h1, a, _, h2⟩ := Wp h; exact .inr (.inr (.inr (.inl ⟨h1, a, h2⟩)))
 split at h
 ·rw [Xa8] at h; obtain ⟨h1, a, _, h2⟩ := Wp h; exact .inr (.inr (.inr (.inr (.inl ⟨h1, a, h2⟩))))
 split at h
 ·rw [Xa2] at h; obtain ⟨h1, a, _, h2⟩ := Wp h; exact .inr (.inr (.inr (.inr (.inr ⟨h1, a, h2⟩))))
 ·cases h
theorem Xpd {t : B} {s s' : Src} {ts r : List Tok} (hs : Few s) (h : Xel t s ts = .ok s' r) : Few s' := by
 obtain ⟨f1, f2, f3, f4, f5, f6⟩ := hs
 rcases Xq1 h with ⟨h1, a, rfl⟩ | ⟨h1, a, rfl⟩ | ⟨h1, a, rfl⟩ | ⟨h1, a, rfl⟩ | ⟨h1, a, rfl⟩ | ⟨h1, a, rfl⟩ <;> refine ⟨?_, ?_, ?_, ?_, ?_, ?_⟩ <;> simp <;> omega
theorem Yoe : Few X1u := ⟨by simp, by simp, by simp, by simp, by simp, by simp⟩
end Go.Sx
/- Plain facts on runs of bytes. No program. -/
namespace Go.Lx
open Go Go.Ab
theorem Xh5 {i n : Nat} (h : i < n) (hn : n ≤ 1000000) : IntKind.i64.wrap ((i : Int) + 1) = (i : Int) + 1 := IntWalk.i64_in _ (by omega)
end Go.Lx
