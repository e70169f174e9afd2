/- Texts of this claim joined by a program, part 5 of 9; the last is: Plain facts on runs of bytes. No program. -/
import Derived.Test.YtanpgmgkmfckaaaGreatDoorL4
import Derived.Test.YtanpgmgkmfckaaaGreatDoorProg
import Derived.KernelRfl
set_option linter.unusedSimpArgs false
set_option linter.unusedVariables false
set_option linter.unusedSectionVars false
set_option linter.defProp false
/- Contracts: classes of bytes and names, of the program and of the document. Condition: the program is the seat's. -/
namespace Go.Proofs.YtanpgmgkmfckaaaGreatDoor
open Go Go.Ab Go.Lx
theorem mixed : Tryz.prog.follows .mixedOrders = true := by kernel_rfl
set_option maxRecDepth 100000

def fnS (f : List UInt8 → Bool) : Ab.Fn := ⟨fun vs => match vs with | [.d (.str _)] => True | _ => False, fun vs => match vs with | [.d (.str s)] => .d (.bool (f s)) | _ => .any⟩
@[simp] theorem fnS_pre (f : List UInt8 → Bool) (s : List UInt8) : (fnS f).pre [.d (.str s)] = True := by simp only [fnS]
@[simp] theorem fnS_val (f : List UInt8 → Bool) (s : List UInt8) : (fnS f).val [.d (.str s)] = .d (.bool (f s)) := by simp only [fnS]
theorem Yc3 {P : Prg} {k : Nat} {f : List UInt8 → Bool} (h : ∀ s ob (K : V → Prop), K (.d (.bool (f s))) → PCall P k [.d (.str s)] ob K) : PFn P k (fnS f) := by
 intro vs hp ob K hK
 simp only [fnS] at hp hK
 split at hp
 ·exact h _ _ _ hK
 ·exact hp.elim

section
variable {P : Prg} (hP : P.p = Tryz.prog)
include hP
theorem c_Name : PFn P 100 (fnS nameB) := Yc3 fun s ob K h => by
 refine pcall_lift hP mixed (ds := [.str s]) Yeh Ygs TOk.nil ?_
 have h' : ∀ b, b = nameB s → K (.d (.bool b)) := fun b e => e ▸ h
 clear h
 simp [Ygx]
 refine ⟨fun hne => h' _ ?_, fun h0 h1 => ?_⟩
 ·rcases hne with rfl | h1
  ·simp [nameB]
  ·simp [nameB]; omega
 ·have h0' : 1 ≤ s.length := by cases s with | nil => exact absurd rfl h0 | cons => simp
  refine ALoop.go (ι := Nat) (fun k => [(0, .d (.str s)), (14, .d (.int .i64 s.length)), (15, .d (.int .i64 k))]) (fun _ => []) (fun k => k ≤ s.length ∧ (∀ i, i < k → Xhf (s.getD i 0).toNat = true) ∧ (0 < k → Z6 (s.getD 0 0).toNat = true)) (fun k => s.length - k) 0 ⟨by omega, by omega, by omega⟩ (by simp) rfl ?_
  rintro k ⟨hk, hp, hl⟩ R rn re rr _
  simp [X06]
  simp only [List.getD_eq_getElem?_getD] at hp hl rn
  refine ⟨fun hlt => ⟨hlt, fun e1 e2 e3 => rr _ _ ?_, fun e => rn [] (k + 1) _ _ ⟨by omega, fun i hi => ?_, fun _ => ?_⟩ (by omega) ?_ rfl rfl rfl⟩, fun hge => re _ _ _ ?_⟩
  ·simp
   refine h' _ (Eq.symm ?_)
   rw [Bool.eq_false_iff]
   intro hn
   simp only [nameB, Bool.and_eq_true, Xva, List.getD_eq_getElem?_getD] at hn
   have := hn.2 k hlt
   have h2 := hn.1.2
   rcases e3 with rfl | e3
   ·simp [Z6] at h2; omega
   ·simp [Xhf, Z6, Qb] at this; omega
  ·by_cases hi' : i = k
   ·subst hi'; simp [Xhf, Z6, Qb]; omega
   ·exact hp i (by omega)
  ·by_cases h2 : k = 0
   ·subst h2; simp [Z6]; omega
   ·exact hl (by omega)
  ·simp; exact IntWalk.i64_in _ (by omega)
  ·have hk' : k = s.length := by omega
   subst hk'
   simp
   refine h' _ (Eq.symm ?_)
   simp only [nameB, Bool.and_eq_true, Xva, List.getD_eq_getElem?_getD]
   exact ⟨⟨by simp; omega, hl h0'⟩, hp⟩
end
end Go.Proofs.YtanpgmgkmfckaaaGreatDoor
/- Contracts: names, signs and numbers of the document. Condition: the program is the seat's. -/
namespace Go.Lx
open Go Go.Ab
def U0 : Int → List UInt8 → Option Int
 | n, [] => some n
 | n, c :: r => if 1099511627776 < 10 * n + (c.toNat - 48) then none else U0 (10 * n + (c.toNat - 48)) r
theorem Xqg {s : List UInt8} {k : Nat} {n : Int} (h : k < s.length) : U0 n (s.drop k) = if 1099511627776 < 10 * n + ((s[k]?.getD 0).toNat - 48) then none else U0 (10 * n + ((s[k]?.getD 0).toNat - 48)) (s.drop (k + 1)) := by
 rw [List.drop_eq_getElem_cons h]
 simp [U0, h]
end Go.Lx
namespace Go.Proofs.YtanpgmgkmfckaaaGreatDoor
open Go Go.Ab Go.Lx
set_option maxRecDepth 100000
section
variable {P : Prg} (hP : P.p = Tryz.prog)
include hP
end
end Go.Proofs.YtanpgmgkmfckaaaGreatDoor
/- Slices of tokens. No program. -/
namespace Go.Lx
open Go Go.Ab
def TD (a : D) (l : List Tok) : Prop := a = toks l ∨ a = .nils ∧ l = []
section
variable {a : D} {l : List Tok} (h : TD a l)
include h
theorem TD.len : Xdl (.d a) = .d (.int .i64 l.length) := by rcases h with rfl | ⟨rfl, rfl⟩ <;> simp [toks]
theorem TD.lenS (ob : Objs) : Xfg ob (.d a) = True := by rcases h with rfl | ⟨rfl, rfl⟩ <;> simp [toks]
theorem TD.idxS (k : IntKind) (i : Int) : Xro 4 (.d a) (.d (.int k i)) = (0 ≤ i ∧ i < l.length) := by
 rcases h with rfl | ⟨rfl, rfl⟩
 ·simp [toks]
 ·simp [Xro, Xdd]
theorem TD.idx {k : IntKind} {i : Nat} (hi : i < l.length) : Xq8 (.d a) (.d (.int k i)) = .d (.ref (l[i]?.getD default).enc) := by
 rcases h with rfl | ⟨rfl, rfl⟩
 ·simp [toks, hi]
 ·simp at hi
end
def X1j (s t : Tok) : Bool := decide (s.kind = t.kind) && decide (s.text = t.text) && decide (s.n = t.n)
def Xez : List Tok → List Tok → Bool
 | [], [] => true
 | s :: l, t :: m => X1j s t && Xez l m
 | _, _ => false
end Go.Lx
/- The lexer as a plain function of bytes. No program. -/
namespace Go.Lx
open Go Go.Ab

def Zk (c : UInt8) : Bool := Z6 c.toNat
def X5 (c : UInt8) : Bool := Qb c.toNat
def Uo (c : UInt8) : Bool := Xed c.toNat
def Zw (c : UInt8) : Bool := Xhf c.toNat
def signB (c : UInt8) : Bool := signI c.toNat
def Uz (c : UInt8) : Bool := c != 10

inductive St where
 | skip (n : Nat)
 | tok (k : Int) (t : List UInt8) (m : Int) (n : Nat)
 | err

def Xce (t : List UInt8) : Option Int := match U0 0 t with
 | none => none
 | some n => if t.length = 1 ∨ t.headD 0 ≠ 48 then some n else none

def stp (c : UInt8) (r : List UInt8) : St :=
 if Uo c then .skip 0
 else if c = 47 ∧ r.head? = some 47 then .skip (r.takeWhile Uz).length
 else if Zk c then
  if (r.takeWhile Zw).length + 1 ≤ 32 then .tok 1 (c :: r.takeWhile Zw) 0 (r.takeWhile Zw).length else .err
 else if X5 c then
  match Xce (c :: r.takeWhile X5) with
  | some n => .tok 2 [] n (r.takeWhile X5).length
  | none => .err
 else if signB c then .tok 3 [c] 0 0 else .err

inductive Res where
 | ok (l : List Tok)
 | err (at_ : Nat)

def X7b (t : Tok) : Res → Res
 | .ok l => .ok (t :: l)
 | .err e => .err e
def Xzu (l : List Tok) : Res → Res
 | .ok l' => .ok (l ++ l')
 | .err e => .err e

def Qk : List UInt8 → Nat → Res
 | [], _ => .ok []
 | c :: r, off => match stp c r with
  | .skip n => Qk (r.drop n) (off + n + 1)
  | .tok k t m n => X7b ⟨k, t, m, off⟩ (Qk (r.drop n) (off + n + 1))
  | .err => .err off
termination_by l => l.length
decreasing_by all_goals (simp only [List.length_drop, List.length_cons]; omega)

def Ygd : Res → V
 | .ok l => .tup [.d (toks l), .d (.int .i64 0), .d (.int .i64 0)]
 | .err e => .tup [.d .nils, .d (.int .i64 e), .d (.int .i64 90)]
def X51 (s : List UInt8) : V := if s.length > 65536 then .tup [.d .nils, .d (.int .i64 0), .d (.int .i64 2)] else Ygd (Qk s 0)

theorem X1v (r : Res) : Xzu [] r = r := by cases r <;> rfl
theorem Xe9 (l : List Tok) (t : Tok) (r : Res) : Xzu l (X7b t r) = Xzu (l ++ [t]) r := by cases r <;> simp [Xzu, X7b]

def tw (p : UInt8 → Bool) (s : List UInt8) (j : Nat) : Nat := ((s.drop j).takeWhile p).length
theorem Yk7 {p : UInt8 → Bool} {s : List UInt8} {j : Nat} (h : s.length ≤ j) : tw p s j = 0 := by simp [tw, List.drop_of_length_le h]
theorem Xvk {p : UInt8 → Bool} {s : List UInt8} {j : Nat} (h : j < s.length) (hp : p (s[j]?.getD 0) = true) : tw p s j = tw p s (j + 1) + 1 := by
 simp [h] at hp
 unfold tw
 rw [List.drop_eq_getElem_cons h, List.takeWhile_cons, if_pos hp]; rfl
theorem Yhj {p : UInt8 → Bool} {s : List UInt8} {j : Nat} (h : j < s.length) (hp : p (s[j]?.getD 0) = false) : tw p s j = 0 := by
 simp [h] at hp
 unfold tw
 rw [List.drop_eq_getElem_cons h, List.takeWhile_cons, hp]; rfl
theorem Xrx (p : UInt8 → Bool) (s : List UInt8) (j : Nat) (h : j ≤ s.length) : j + tw p s j ≤ s.length := by
 have := (List.takeWhile_sublist p (l := s.drop j)).length_le
 simp [tw] at this ⊢; omega
theorem W6 (p : UInt8 → Bool) : ∀ l : List UInt8, l.takeWhile p = l.take (l.takeWhile p).length
 | [] => rfl
 | c :: r => by
  simp only [List.takeWhile_cons]
  split
  ·simp; exact W6 p r
  ·rfl
theorem X3w {p : UInt8 → Bool} {x : UInt8} : ∀ {l : List UInt8}, x ∈ l.takeWhile p → p x = true
 | c :: r, h => by
  rw [List.takeWhile_cons] at h
  split at h
  ·rename_i hc
   rcases List.mem_cons.mp h with rfl | h
   ·exact hc
   ·exact X3w h
  ·cases h
theorem Uf {s : List UInt8} {i : Nat} (h : i < s.length) : s.drop i = (s[i]?.getD 0) :: s.drop (i + 1) := by
 rw [List.drop_eq_getElem_cons h]; simp [h]
theorem X9s (p : UInt8 → Bool) {s : List UInt8} {i : Nat} (h : i < s.length) (hp : p (s[i]?.getD 0) = true) :
  (s.take (i + tw p s i)).drop i = (s[i]?.getD 0) :: (s.drop (i + 1)).takeWhile p ∧ tw p s i = ((s.drop (i + 1)).takeWhile p).length + 1 := by
 have h1 : tw p s i = ((s.drop (i + 1)).takeWhile p).length + 1 := Xvk h hp
 refine ⟨?_, h1⟩
 rw [List.drop_take, Nat.add_sub_cancel_left, h1, Uf h, List.take_succ_cons, ← W6]

theorem X2d {s : List UInt8} {i off : Nat} (h : s.length ≤ i) : Qk (s.drop i) off = .ok [] := by
 rw [List.drop_of_length_le h, Qk]
theorem X8c {s : List UInt8} {i : Nat} (h : i < s.length) : Qk (s.drop i) i = match stp (s[i]?.getD 0) (s.drop (i + 1)) with
  | .skip n => Qk (s.drop (i + n + 1)) (i + n + 1)
  | .tok k t m n => X7b ⟨k, t, m, i⟩ (Qk (s.drop (i + n + 1)) (i + n + 1))
  | .err => .err i := by
 rw [Uf h, Qk]
 cases stp (s[i]?.getD 0) (s.drop (i + 1)) with
 | err => rfl
 | skip n => simp only [List.drop_drop]; congr 2; omega
 | tok k t m n => simp only [List.drop_drop]; congr 3; omega
theorem Xis {s : List UInt8} {i : Nat} : (s.drop i).head? = s[i]? := by simp [List.head?_drop]
end Go.Lx
/- The parser of sources as plain functions of tokens. No program. -/
namespace Go.Sx
open Go Go.Ab Go.Lx
abbrev B := List UInt8
inductive R (α : Type) where
 | ok (a : α) (ts : List Tok)
 | err (ts : List Tok) (e : Int)
abbrev M (α : Type) := List Tok → R α
def M.bind {α β : Type} (m : M α) (f : α → M β) : M β := fun ts => match m ts with
 | .ok a ts' => f a ts'
 | .err ts' e => .err ts' e
def M.pure {α : Type} (a : α) : M α := fun ts => .ok a ts
instance : Monad M where
 pure := M.pure
 bind := M.bind
section
variable {α β : Type}
@[simp] theorem X9t (a : α) (ts : List Tok) : (pure a : M α) ts = .ok a ts := rfl
theorem Xe (m : M α) (f : α → M β) (ts : List Tok) : (m >>= f) ts = match m ts with
 | .ok a ts' => f a ts'
 | .err ts' e => .err ts' e := rfl
theorem Xt {γ : Type} (m : M α) (f : α → M β) (g : β → M γ) : ((m >>= f) >>= g) = (m >>= fun a => f a >>= g) := by
 funext ts
 simp only [Xe]
 cases m ts <;> rfl
theorem Yr (a : α) (f : α → M β) : ((pure a : M α) >>= f) = f a := rfl
def ifM (c : List Tok → Bool) (a b : M α) : M α := fun ts => if c ts then a ts else b ts
def fail (e : Int) : M α := fun ts => .err ts e
end
def Xh (k : Int) (t : B) : List Tok → Bool
 | [] => false
 | x :: _ => decide (x.kind = k) && (decide (t = []) || x.text == t)
def Jv (k : Int) (t : B) : M Tok := fun ts => if Xh k t ts then .ok (ts.headD default) ts.tail else .err ts 100
def X8 : M B := do let t ← Jv 1 []; pure t.text
def Yp (t : B) : M Unit := do let _ ← Jv 1 t; pure ()
def X3 (t : B) : M Unit := do let _ ← Jv 3 t; pure ()
def Xr (k : Int) (t : B) : M Bool := fun ts => if Xh k t ts then .ok true ts.tail else .ok false ts
def Xx (lo hi : Int) : M Int := fun ts => if Xh 2 [] ts && decide (lo ≤ (ts.headD default).n) && decide ((ts.headD default).n ≤ hi) then .ok (ts.headD default).n ts.tail else .err ts 100
theorem Xr2 {lo hi n : Int} {ts ts' : List Tok} (h : Xx lo hi ts = .ok n ts') : lo ≤ n ∧ n ≤ hi := by
 simp only [Xx] at h
 split at h
 ·rename_i hc
  simp only [Bool.and_eq_true, decide_eq_true_eq] at hc
  cases h
  exact ⟨hc.1.2, hc.2⟩
 ·cases h
def Wz (many most : Nat) : M Unit := fun ts => if many = most then .err ts 2 else .ok () ts
def Xs {α : Type} (begins : List Tok → Bool) (read : M α) : Nat → M (List α)
 | 0 => fun ts => if begins ts then .err ts 2 else .ok [] ts
 | n + 1 => fun ts => if begins ts then (do let a ← read; let l ← Xs begins read n; pure (a :: l) : M (List α)) ts else .ok [] ts

inductive Term where
 | num (n : Int)
 | path (a b : B)
structure From where
 name : B
 kind : B
 of_ : Option (B × B)
structure Atom where
 op : Int
 a : Term
 b : Term
structure SetT where
 path : B
 term : Term
structure Move where
 to_ : B
 from_ : B
 shift : Int
structure Ref where
 name : B
 path : B
inductive TypeT where
 | num (lo hi : Int) (of_ : Option B)
 | date
 | person
 | choice (l : List B)
structure Field where
 name : B
 type : TypeT
 weights : List Int
structure Depend where
 names : List B
 name : B
structure UnitT where
 name : B
 of_ : Option (Int × B)
structure Schema where
 name : B
 by_ : B
 version : Int
 fields : List Field
 depends : List Depend
structure Rule where
 head : B
 froms : List From
 wheres : List Atom
 sets : List SetT
structure Convert where
 from_ : B
 to_ : B
 moves : List Move
structure Purpose where
 name : B
 may : List Ref
 most : Int
structure Src where
 issuers : List B
 units : List UnitT
 schemas : List Schema
 rules : List Rule
 converts : List Convert
 purposes : List Purpose
abbrev iD (n : Int) : D := .int .i64 n
def Term.enc : Term → D
 | .num n => .agg [.str [], .str [], iD (-1), iD 0, iD n]
 | .path a b => .agg [.str a, .str b, iD 0, iD 0, iD 0]
def From.enc (f : From) : D := .agg [.str f.name, .str f.kind, iD 0, match f.of_ with | none => .agg [.str [], .str [], iD 0, iD 0, iD 0] | some x => .agg [.str x.1, .str x.2, iD 0, iD 0, iD 0]]
def Atom.enc (a : Atom) : D := .agg [iD a.op, a.a.enc, a.b.enc]
def SetT.enc (s : SetT) : D := .agg [.str s.path, iD 0, s.term.enc]
def Move.enc (m : Move) : D := .agg [.str m.to_, .str m.from_, iD 0, iD 0, iD m.shift]
def Ref.enc (r : Ref) : D := .agg [.str r.name, .str r.path, iD 0, iD 0]
def Xf (l : List B) : D := .list 1 (l.map .str)
def TypeT.enc : TypeT → D
 | .num lo hi of_ => .agg [iD 1, iD lo, iD hi, .str (of_.getD []), iD 0, .nils]
 | .date => .agg [iD 2, iD 0, iD 1023, .str [], iD 0, .nils]
 | .person => .agg [iD 3, iD 0, iD 4095, .str [], iD 0, .nils]
 | .choice l => .agg [iD 4, iD 0, iD (l.length - 1), .str [], iD 0, Xf l]
def Field.enc (f : Field) : D := .agg [.str f.name, f.type.enc, .agg (f.weights.map iD)]
def Depend.enc (d : Depend) : D := .agg [Xf d.names, .str d.name, .nils, iD 0]
def UnitT.enc (u : UnitT) : D := match u.of_ with
 | none => .agg [.str u.name, .str [], iD 0, iD 0, iD 0]
 | some x => .agg [.str u.name, .str x.2, iD x.1, iD 0, iD 0]
def Schema.enc (s : Schema) : D := .agg [.str s.name, .str s.by_, iD 0, iD s.version, .list 11 (s.fields.map Field.enc), .list 4 (s.depends.map Depend.enc)]
def Rule.enc (r : Rule) : D := .agg [.str r.head, iD 0, .list 8 (r.froms.map From.enc), .list 11 (r.wheres.map Atom.enc), .list 7 (r.sets.map SetT.enc)]
def Convert.enc (c : Convert) : D := .agg [.str c.from_, .str c.to_, iD 0, iD 0, .list 5 (c.moves.map Move.enc)]
def Purpose.enc (p : Purpose) : D := .agg [.str p.name, .list 4 (p.may.map Ref.enc), iD p.most]

def Xny : M (B × B) := do let a ← X8; X3 [46]; let b ← X8; pure (a, b)
def Xae : M Term := fun ts => if Xh 2 [] ts then (do let n ← Xx 0 1048576; pure (.num n) : M Term) ts else (do let x ← Xny; pure (.path x.1 x.2) : M Term) ts
def Xb0 : M From := do
 Yp [102, 114, 111, 109]
 let a ← X8
 let b ← X8
 let c ← Xr 1 [111, 102]
 if c then do let x ← Xny; X3 [59]; pure ⟨a, b, some x⟩ else do X3 [59]; pure ⟨a, b, none⟩
def opM : M Int := do
 let b ← Xr 3 [61]
 if b then pure 1 else do
  let b ← Xr 3 [60]
  if b then do
   let b ← Xr 3 [61]
   pure (if b then 3 else 2)
  else do X3 [33]; X3 [61]; pure 4
def U5 : M Atom := do
 Yp [119, 104, 101, 114, 101]
 let a ← Xae
 let o ← opM
 let b ← Xae
 X3 [59]
 pure ⟨o, a, b⟩
def Xzo : M SetT := do Yp [115, 101, 116]; let a ← X8; X3 [61]; let t ← Xae; X3 [59]; pure ⟨a, t⟩
def Xei : M Int := do
 let b ← Xr 3 [43]
 if b then Xx 0 1048576 else do
  let b ← Xr 3 [45]
  if b then do let n ← Xx 0 1048576; pure (-n) else pure 0
def Xbd : M Move := do let a ← X8; X3 [61]; let b ← X8; let n ← Xei; X3 [59]; pure ⟨a, b, n⟩
def Xzr : M Ref := do Yp [109, 97, 121]; let x ← Xny; X3 [59]; pure ⟨x.1, x.2⟩
def Xg4 : Nat → M (List Int)
 | 0 => pure []
 | n + 1 => do let a ← Xx 0 9; let l ← Xg4 n; pure (a :: l)
def Wl : M (List Int) := Xg4 4
def Vm (most : Nat) : M (List B) := do let a ← X8; let l ← Xs (Xh 3 [44]) (do X3 [44]; X8) (most - 1); pure (a :: l)
def Xdm : M TypeT := do
 let b ← Xr 1 [110, 117, 109, 98, 101, 114]
 if b then do
  let lo ← Xx 0 1048576
  Yp [116, 111]
  let hi ← Xx 0 1048576
  let b ← Xr 1 [105, 110]
  if b then do let n ← X8; pure (.num lo hi (some n)) else pure (.num lo hi none)
 else do
  let b ← Xr 1 [100, 97, 116, 101]
  if b then pure .date else do
   let b ← Xr 1 [112, 101, 114, 115, 111, 110]
   if b then pure .person else do
    let b ← Xr 1 [99, 104, 111, 105, 99, 101]
    if b then do let l ← Vm 16; pure (.choice l) else fail 100
def Jn : M Field := do Yp [102, 105, 101, 108, 100]; let n ← X8; X3 [58]; let t ← Xdm; let w ← Wl; X3 [59]; pure ⟨n, t, w⟩
def Xab : M Depend := do Yp [100, 101, 112, 101, 110, 100]; let l ← Vm 11; Yp [103, 105, 118, 101]; let n ← X8; X3 [59]; pure ⟨l, n⟩

def Qf (s : Src) : M Src := do
 Wz s.issuers.length 8
 Yp [105, 115, 115, 117, 101, 114]
 let a ← X8
 X3 [59]
 pure { s with issuers := s.issuers ++ [a] }
def Xln (s : Src) : M Src := do
 Wz s.units.length 16
 Yp [117, 110, 105, 116]
 let a ← X8
 let b ← Xr 3 [61]
 if b then do
  let n ← Xx 2 1000
  let o ← X8
  X3 [59]
  pure { s with units := s.units ++ [⟨a, some (n, o)⟩] }
 else do
  X3 [59]
  pure { s with units := s.units ++ [⟨a, none⟩] }
def Xbh : Nat → Schema → M Schema
 | 0, _ => fail 0
 | n + 1, s => do
  let b ← Xr 3 [125]
  if b then pure s else (ifM (Xh 1 [102, 105, 101, 108, 100]) (do Wz s.fields.length 12; let f ← Jn; Xbh n { s with fields := s.fields ++ [f] }) (ifM (Xh 1 [100, 101, 112, 101, 110, 100]) (do Wz s.depends.length 8; let d ← Xab; Xbh n { s with depends := s.depends ++ [d] }) (fail 100)))
def Qq (s : Src) : M Src := do
 Wz s.schemas.length 16
 Yp [115, 99, 104, 101, 109, 97]
 let a ← X8
 Yp [98, 121]
 let b ← X8
 Yp [118, 101, 114, 115, 105, 111, 110]
 let v ← Xx 1 255
 Yp [115, 101, 108, 102]
 let w ← Wl
 X3 [123]
 let x ← Xbh 21 ⟨a, b, v, [⟨[115, 101, 108, 102], .person, w⟩], []⟩
 pure { s with schemas := s.schemas ++ [x] }
def Xjc (s : Src) : M Src := do
 Wz s.rules.length 16
 Yp [100, 101, 114, 105, 118, 101]
 let a ← X8
 X3 [123]
 ifM (Xh 1 [102, 114, 111, 109]) (do
  let f ← Xs (Xh 1 [102, 114, 111, 109]) Xb0 3
  let w ← Xs (Xh 1 [119, 104, 101, 114, 101]) U5 8
  let t ← Xs (Xh 1 [115, 101, 116]) Xzo 11
  X3 [125]
  pure { s with rules := s.rules ++ [⟨a, f, w, t⟩] }) (fail 100)
def Vw (s : Src) : M Src := do
 Wz s.converts.length 16
 Yp [99, 111, 110, 118, 101, 114, 116]
 let a ← X8
 Yp [116, 111]
 let b ← X8
 X3 [123]
 let l ← Xs (Xh 1 []) Xbd 11
 X3 [125]
 pure { s with converts := s.converts ++ [⟨a, b, l⟩] }
def Vp (s : Src) : M Src := do
 Wz s.purposes.length 8
 Yp [112, 117, 114, 112, 111, 115, 101]
 let a ← X8
 X3 [123]
 let l ← Xs (Xh 1 [109, 97, 121]) Xzr 32
 Yp [109, 111, 115, 116]
 let n ← Xx 0 32
 X3 [59]
 X3 [125]
 pure { s with purposes := s.purposes ++ [⟨a, l, n⟩] }

def atI (en : Int) : List Tok → Int
 | [] => en
 | x :: _ => x.at_
def X1o (ts : List Tok) (e : Int) : Int := match ts with
 | [] => 100
 | _ => e
abbrev pv (ts : List Tok) (en : Int) (S : V) : V := .agg [.d (.list 4 (ts.map Tok.enc)), .d (.int .i64 en), S]
abbrev U4 (en : Int) (ts : List Tok) (e : Int) : D := .iface 60 (.agg [.int .i64 (atI en ts), .int .i64 (X1o ts e)])
abbrev pb (ts : List Tok) (en : Int) (S : V) : Ob := .box 66 (pv ts en S)
def PK {α : Type} (K : Out → Objs → Prop) (ob : Objs) (p : Nat) (en : Int) (S : V) (v : α → V) : R α → Prop
 | .ok a ts => K (.ret (v a)) (setO ob p (pb ts en S))
 | .err ts e => K (.panic (.d (U4 en ts e))) (setO ob p (pb ts en S))
section
variable {α β : Type} {K : Out → Objs → Prop} {ob : Objs} {p : Nat} {en : Int} {S : V} {v : α → V}
@[simp] theorem PK_ok (a : α) (ts : List Tok) : PK K ob p en S v (.ok a ts) = K (.ret (v a)) (setO ob p (pb ts en S)) := rfl
@[simp] theorem PK_err (e : Int) (ts : List Tok) : PK K ob p en S v (.err ts e) = K (.panic (.d (U4 en ts e))) (setO ob p (pb ts en S)) := rfl
theorem PK.bind {K' : Out → Objs → Prop} {ob1 : Objs} {v' : β → V} {m : M α} {f : α → M β} {ts : List Tok} (h : PK K ob p en S v' ((m >>= f) ts))
  (he : ∀ ts' e, K (.panic (.d (U4 en ts' e))) (setO ob p (pb ts' en S)) → K' (.panic (.d (U4 en ts' e))) (setO ob1 p (pb ts' en S)))
  (hk : ∀ a ts', m ts = .ok a ts' → PK K ob p en S v' (f a ts') → K' (.ret (v a)) (setO ob1 p (pb ts' en S))) : PK K' ob1 p en S v (m ts) := by
 rw [Xe] at h
 cases hm : m ts with
 | ok a ts' => rw [hm] at h; exact hk a ts' hm h
 | err ts' e => rw [hm] at h; exact he ts' e h
end
theorem PK.tail {α : Type} {K K' : Out → Objs → Prop} {ob ob1 : Objs} {p : Nat} {en : Int} {S : V} {v : α → V} {v' : α → V} {m : M α} {ts : List Tok} (h : PK K ob p en S v' (m ts))
  (he : ∀ ts' e, K (.panic (.d (U4 en ts' e))) (setO ob p (pb ts' en S)) → K' (.panic (.d (U4 en ts' e))) (setO ob1 p (pb ts' en S)))
  (hk : ∀ a ts', m ts = .ok a ts' → K (.ret (v' a)) (setO ob p (pb ts' en S)) → K' (.ret (v a)) (setO ob1 p (pb ts' en S))) : PK K' ob1 p en S v (m ts) := by
 cases hm : m ts with
 | ok a ts' => rw [hm] at h; exact hk a ts' hm h
 | err ts' e => rw [hm] at h; exact he ts' e h
theorem Y8 {q : Nat → Bool} : ∀ {ob : Objs} {k E : Nat} {v : V}, noMenO q ob = true → lookO ob k = some (.box E v) → V.men q v = false
 | (j, o) :: r, k, E, v, h, hl => by
  simp only [lookO] at hl
  split at hl
  ·cases hl
   simp only [noMenO, Bool.and_eq_true, Bool.not_eq_true'] at h
   exact h.1
  ·refine Y8 (ob := r) ?_ hl
   cases o <;> simp_all [noMenO]
theorem Yi : ∀ {ob : Objs} {k : Nat} {o : Ob}, lookO ob k = some o → setO ob k o = ob
 | (j, o') :: r, k, o, h => by
  simp only [lookO] at h
  simp only [setO]
  split
  ·rename_i e; simp [e] at h; subst h; rfl
  ·rename_i e; rw [Yi (by simpa [e] using h)]
@[simp] theorem succ_ne (n : Nat) : ((n : Int) + 1 = 0) = False := by simp; omega
@[simp] theorem one_le_succ (n : Nat) : (1 ≤ (n : Int) + 1) = True := by simp; omega
@[simp] theorem ex3 (a b n : Nat) (c : List D) : (∃ E z xs, (a = E ∧ b = z ∧ c = xs) ∧ n = xs.length) = (n = c.length) := by
 rw [eq_iff_iff]
 exact ⟨fun ⟨_, _, _, ⟨_, _, h3⟩, h4⟩ => h3 ▸ h4, fun h => ⟨_, _, _, ⟨rfl, rfl, rfl⟩, h⟩⟩
@[simp] theorem add11 (n : Nat) : n + 1 + 1 = n + 2 := rfl
@[simp] theorem add21 (n : Nat) : n + 2 + 1 = n + 3 := rfl
@[simp] theorem add31 (n : Nat) : n + 3 + 1 = n + 4 := rfl
@[simp] theorem add41 (n : Nat) : n + 4 + 1 = n + 5 := rfl
@[simp] theorem add51 (n : Nat) : n + 5 + 1 = n + 6 := rfl
@[simp] theorem add61 (n : Nat) : n + 6 + 1 = n + 7 := rfl
@[simp] theorem add71 (n : Nat) : n + 7 + 1 = n + 8 := rfl
@[simp] theorem add12 (n : Nat) : n + 1 + 2 = n + 3 := rfl
@[simp] theorem add22 (n : Nat) : n + 2 + 2 = n + 4 := rfl
theorem Y3 {ob : Objs} {k : Nat} {o : Ob} (h : lookO ob k = some o) : k < fresh ob := by
 rcases Nat.lt_or_ge k (fresh ob) with h1 | h1
 ·exact h1
 ·rw [Yl ob k h1] at h; cases h
theorem Xc {ob ob2 : Objs} {p : Nat} {ts ts' : List Tok} {en : Int} {S : V} (hp : lookO ob p = some (pb ts en S)) (hm : ∀ kp, noMenO (young (fresh ob) kp) ob = true) {K : Objs → Prop} {vs : List V} (h : K (setO ob p (pb ts' en S))) (hv : V.mens (young (fresh ob) []) vs = false) (hd : Zt (young (fresh ob) []) ob2 = setO ob p (pb ts' en S)) : Zn (fresh ob) K vs ob2 := by
 refine ⟨[], hv, ?_, ?_⟩
 ·rw [hd]
  refine noMenO_set_box _ _ _ _ _ (hm _) ?_
  have := Y8 (hm []) hp
  simpa [pv] using this
 ·rw [hd]; exact h
@[simp] theorem Term.enc_shape (t : Term) : t.enc.shape = .node [.leaf, .leaf, .leaf, .leaf, .leaf] := by cases t <;> simp [Term.enc, D.shape]
@[simp] theorem TypeT.enc_shape (t : TypeT) : t.enc.shape = .node [.leaf, .leaf, .leaf, .leaf, .leaf, .leaf] := by cases t <;> simp [TypeT.enc, Xf, D.shape]
theorem Xor : ∀ {n : Nat} {ts ts' : List Tok} {l : List Int}, Xg4 n ts = .ok l ts' → l.length = n
 | 0, ts, ts', l, h => by cases h; rfl
 | n + 1, ts, ts', l, h => by
  simp only [Xg4, Xe] at h
  cases h1 : Xx 0 9 ts with
  | err a b => rw [h1] at h; cases h
  | ok a t1 =>
   rw [h1] at h
   cases h2 : Xg4 n t1 with
   | err a b => simp only [h2] at h; cases h
   | ok l' t2 =>
    simp only [h2] at h
    cases h
    simp [Xor h2]
theorem Uh {ts ts' : List Tok} {l : List Int} (h : Wl ts = .ok l ts') : ∃ a b c d, l = [a, b, c, d] := by
 have := Xor h
 match l, this with
 | [a, b, c, d], _ => exact ⟨a, b, c, d, rfl⟩
theorem Xc9 {α : Type} {begins : List Tok → Bool} {read : M α} : ∀ {n : Nat} {ts ts' : List Tok} {l : List α}, Xs begins read n ts = .ok l ts' → l.length ≤ n
 | 0, ts, ts', l, h => by
  simp only [Xs] at h
  split at h
  ·cases h
  ·cases h; simp
 | n + 1, ts, ts', l, h => by
  simp only [Xs] at h
  split at h
  ·simp only [Xe] at h
   cases h1 : read ts with
   | err a b => rw [h1] at h; cases h
   | ok a t1 =>
    rw [h1] at h
    cases h2 : Xs begins read n t1 with
    | err a b => simp only [h2] at h; cases h
    | ok l' t2 =>
     simp only [h2] at h
     cases h
     have := Xc9 h2
     simpa using this
  ·cases h; simp
theorem Xj8 {n : Nat} {ts ts' : List Tok} {l : List B} (h : Vm n ts = .ok l ts') : 1 ≤ l.length ∧ l.length ≤ n - 1 + 1 := by
 simp only [Vm, Xe] at h
 cases h1 : X8 ts with
 | err a b => rw [h1] at h; cases h
 | ok a t1 =>
  rw [h1] at h
  cases h2 : Xs (Xh 3 [44]) (do X3 [44]; X8) (n - 1) t1 with
  | err a b => simp only [h2] at h; cases h
  | ok l' t2 =>
   simp only [h2] at h
   cases h
   have := Xc9 h2
   simpa using this
@[simp] theorem From.enc_shape (f : From) : f.enc.shape = .node [.leaf, .leaf, .leaf, .node [.leaf, .leaf, .leaf, .leaf, .leaf]] := by
 obtain ⟨a, b, c⟩ := f
 cases c <;> simp [From.enc, D.shape]
@[simp] theorem Atom.enc_shape (f : Atom) : f.enc.shape = .node [.leaf, .node [.leaf, .leaf, .leaf, .leaf, .leaf], .node [.leaf, .leaf, .leaf, .leaf, .leaf]] := by simp [Atom.enc, D.shape]
@[simp] theorem SetT.enc_shape (f : SetT) : f.enc.shape = .node [.leaf, .leaf, .node [.leaf, .leaf, .leaf, .leaf, .leaf]] := by simp [SetT.enc, D.shape]
@[simp] theorem Move.enc_shape (f : Move) : f.enc.shape = .node [.leaf, .leaf, .leaf, .leaf, .leaf] := by simp [Move.enc, D.shape]
@[simp] theorem Ref.enc_shape (f : Ref) : f.enc.shape = .node [.leaf, .leaf, .leaf, .leaf] := by simp [Ref.enc, D.shape]
abbrev Yy (s : Src) : V := .agg [.sl 5 s.issuers.length, .sl 6 s.units.length, .sl 7 s.schemas.length, .sl 8 s.rules.length, .sl 9 s.converts.length, .sl 10 s.purposes.length]
abbrev Yg5 : Ob := .map [(.str [105, 115, 115, 117, 101, 114], .fn 19 [] []), (.str [117, 110, 105, 116], .fn 20 [] []), (.str [115, 99, 104, 101, 109, 97], .fn 21 [] []), (.str [100, 101, 114, 105, 118, 101], .fn 22 [] []), (.str [99, 111, 110, 118, 101, 114, 116], .fn 23 [] []), (.str [112, 117, 114, 112, 111, 115, 101], .fn 24 [] [])]
abbrev Qo : D := .agg [.nils, .nils, .nils, .nils, .nils, .nils]
abbrev stO (en : Int) (ts : List Tok) (s : Src) : Objs :=
 [(10, .arr 88 3 (s.purposes.map Purpose.enc)), (9, .arr 84 5 (s.converts.map Convert.enc)), (8, .arr 50 5 (s.rules.map Rule.enc)), (7, .arr 79 6 (s.schemas.map Schema.enc)), (6, .arr 74 5 (s.units.map UnitT.enc)), (5, .arr 9 1 (s.issuers.map D.str)),
  (4, pb ts en (Yy s)), (3, Yg5), (2, .box 31 (.d (.int .i64 0))), (1, .box 3 (.d (.int .i64 0))), (0, .box 30 (.d Qo))]
def PS (K : Out → Objs → Prop) (en : Int) : R Src → Prop
 | .ok s ts => K (.ret (.tup [])) (stO en ts s)
 | .err ts e => ∀ s, K (.panic (.d (U4 en ts e))) (stO en ts s)
theorem PS.bind {α : Type} {K K' : Out → Objs → Prop} {en : Int} {S : V} {ob1 : Objs} {v : α → V} {m : M α} {f : α → M Src} {ts : List Tok} (h : PS K en ((m >>= f) ts))
  (he : ∀ ts' e, (∀ s, K (.panic (.d (U4 en ts' e))) (stO en ts' s)) → K' (.panic (.d (U4 en ts' e))) (setO ob1 4 (pb ts' en S)))
  (hk : ∀ a ts', m ts = .ok a ts' → PS K en (f a ts') → K' (.ret (v a)) (setO ob1 4 (pb ts' en S))) : PK K' ob1 4 en S v (m ts) := by
 rw [Xe] at h
 cases hm : m ts with
 | ok a ts' => rw [hm] at h; exact hk a ts' hm h
 | err ts' e => rw [hm] at h; exact he ts' e h
theorem Xj {en : Int} {ts : List Tok} {s : Src} {K : Objs → Prop} {vs : List V} {ob2 : Objs} (h : K (stO en ts s)) (hv : V.mens (young 11 []) vs = false) (hd : Zt (young 11 []) ob2 = stO en ts s) : Zn 11 K vs ob2 := by
 refine ⟨[], hv, ?_, ?_⟩
 ·rw [hd]; simp [young, Ux]
 ·rw [hd]; exact h
structure Few (s : Src) : Prop where
 issuers : s.issuers.length ≤ 8
 units : s.units.length ≤ 16
 schemas : s.schemas.length ≤ 16
 rules : s.rules.length ≤ 16
 converts : s.converts.length ≤ 16
 purposes : s.purposes.length ≤ 8
end Go.Sx
/- Contracts: the parser's small readers. Condition: the program is the seat's. -/
namespace Go.Proofs.YtanpgmgkmfckaaaGreatDoor
open Go Go.Ab Go.Lx Go.Sx
set_option maxRecDepth 100000
section
variable {P : Prg} (hP : P.p = Tryz.prog) {ob : Objs} {p : Nat} {ts : List Tok} {en : Int} {S : V} (hS : V.allD [S] = none) (hp : lookO ob p = some (pb ts en S)) {K : Out → Objs → Prop}
include hP hS hp
theorem Ws (e : Int) (h : K (.panic (.d (U4 en ts e))) (setO ob p (pb ts en S))) : ACall P 25 [.ptr p [], .d (.int .i64 e)] ob K := by
 refine acall_lift hP mixed Yvn Yvc TOk.nil fun _ hm => ?_
 cases ts with
 | nil =>
  simp [Ymn, hp]
  exact Xc hp hm (by simpa [U4, atI, X1o] using h) (by simp) (by simp [Yi hp])
 | cons t ts =>
  simp [Ymn, X61, hp, Tok.enc]
  exact Xc hp hm (by simpa [U4, atI, X1o] using h) (by simp) (by simp [Yi hp])
theorem Q5 (k : Int) (t : B) (h : K (.ret (.d (.bool (Xh k t ts)))) (setO ob p (pb ts en S))) : ACall P 65 [.ptr p [], .d (.int .i64 k), .d (.str t)] ob K := by
 refine acall_lift hP mixed Yuc Ytf TOk.nil fun _ hm => ?_
 cases ts with
 | nil =>
  simp [Yp3, hp]
  exact Xc hp hm (by simpa [Xh] using h) (by simp) (by simp [Yi hp])
 | cons x ts =>
  simp [Yp3, hp, Tok.enc]
  exact Xc hp hm (by simpa [Xh] using h) (by simp) (by simp [Yi hp])
theorem Xpd (k : Int) (t : B) (h : PK K ob p en S (fun t => .d t.enc) (Jv k t ts)) : ACall P 133 [.ptr p [], .d (.int .i64 k), .d (.str t)] ob K := by
 refine acall_lift hP mixed Yjv Yld TOk.nil fun _ hm => ?_
 simp [Ykp, hp]
 refine Q5 hP hS (ts := ts) (en := en) (S := S) (by simp [hp]) _ _ ?_
 simp [hp]
 refine ⟨fun hn => ?_, fun hn => ?_⟩
 ·simp [Jv, hn] at h
  refine Ws hP hS (ts := ts) (en := en) (S := S) (by simp [hp]) _ ?_
  simp [hp]
  exact Xc hp hm h (by simp) (by simp [hp])
 ·cases ts with
  | nil => simp [Xh] at hn
  | cons x ts =>
   simp [Jv, hn] at h
   simp [X21, hp, hS, Tok.enc]
   exact Xc hp hm h (by simp) (by simp [hp])
theorem Zc (h : PK K ob p en S (fun t => .d (.str t)) (X8 ts)) : ACall P 60 [.ptr p []] ob K := by
 refine acall_lift hP mixed Yrv Yu6 TOk.nil fun _ hm => ?_
 simp [Ytp, hp]
 refine Xpd hP hS hp _ _ ?_
 refine PK.bind h (fun ts' e h => ?_) (fun a ts' ha h => ?_)
 ·simp
  exact Xc hp hm h (by simp) (by simp [hp])
 ·simp [Tok.enc]
  exact Xc hp hm h (by simp) (by simp [hp])
theorem Zu (t : B) (h : PK K ob p en S (fun _ => .tup []) (Yp t ts)) : ACall P 59 [.ptr p [], .d (.str t)] ob K := by
 refine acall_lift hP mixed Ysc Yr3 TOk.nil fun _ hm => ?_
 simp [Yq2, hp]
 refine Xpd hP hS hp _ _ ?_
 refine PK.bind h (fun ts' e h => ?_) (fun a ts' ha h => ?_)
 ·simp
  exact Xc hp hm h (by simp) (by simp [hp])
 ·simp [Tok.enc]
  exact Xc hp hm h (by simp) (by simp [hp])
theorem Yf (t : B) (h : PK K ob p en S (fun _ => .tup []) (X3 t ts)) : ACall P 61 [.ptr p [], .d (.str t)] ob K := by
 refine acall_lift hP mixed Yt0 Yrw TOk.nil fun _ hm => ?_
 simp [Yu0, hp]
 refine Xpd hP hS hp _ _ ?_
 refine PK.bind h (fun ts' e h => ?_) (fun a ts' ha h => ?_)
 ·simp
  exact Xc hp hm h (by simp) (by simp [hp])
 ·simp [Tok.enc]
  exact Xc hp hm h (by simp) (by simp [hp])
theorem Y6 (k : Int) (t : B) (h : PK K ob p en S (fun b => .d (.bool b)) (Xr k t ts)) : ACall P 62 [.ptr p [], .d (.int .i64 k), .d (.str t)] ob K := by
 refine acall_lift hP mixed Yt8 Yvl TOk.nil fun _ hm => ?_
 simp [Ysi, hp]
 refine Q5 hP hS hp _ _ ?_
 simp [hp]
 refine ⟨fun hn => ?_, fun hn => ?_⟩
 ·simp [Xr, hn] at h
  exact Xc hp hm h (by simp) (by simp [hp])
 ·cases ts with
  | nil => simp [Xh] at hn
  | cons x ts =>
   simp [Xr, hn] at h
   simp [hp, hS]
   exact Xc hp hm h (by simp) (by simp [hp])
theorem Xaw (many most : Nat) (h : PK K ob p en S (fun _ => .tup []) (Wz many most ts)) : ACall P 58 [.ptr p [], .d (.int .i64 many), .d (.int .i64 most)] ob K := by
 refine acall_lift hP mixed Yvj Ysv TOk.nil fun _ hm => ?_
 simp [Ys2, hp]
 refine ⟨fun hn => ?_, fun hn => ?_⟩
 ·simp [Wz, show many = most by omega] at h
  refine Ws hP hS hp _ ?_
  simp
  exact Xc hp hm h (by simp) (by simp [hp])
 ·simp [Wz, show many ≠ most by omega] at h
  exact Xc hp hm h (by simp) (by simp [Yi hp])
end
end Go.Proofs.YtanpgmgkmfckaaaGreatDoor
/- Contracts: the parser's readers of parts. Condition: the program is the seat's, and its intervals are laid. -/
namespace Go.Proofs.YtanpgmgkmfckaaaGreatDoor
open Go Go.Ab Go.Lx Go.Sx
set_option maxRecDepth 100000
attribute [local simp ↓] ql qn qo qi qh qj qk qm zt zp zr zu zq zl zm zk zo zn qq qp qw qx zg qy qv qr zh qu qt qs qz zb za zd ze zf zx zw zz zy qb qa qd qc qe qg qf zj zi
structure Ivl (P : Prg) : Prop where
 factors : GlobIs P 0 (.agg [.int .i64 2, .int .i64 1000])
 editions : GlobIs P 1 (.agg [.int .i64 1, .int .i64 255])
 mosts : GlobIs P 2 (.agg [.int .i64 0, .int .i64 32])
 weights : GlobIs P 3 (.agg [.int .i64 0, .int .i64 9])
 anyN : GlobIs P 4 (.agg [.int .i64 0, .int .i64 1048576])
section
variable {P : Prg} (hP : P.p = Tryz.prog)
include hP
theorem X8m (lo hi n : Int) {ob : Objs} {K : V → Prop} (h : K (.d (.bool (decide (lo ≤ n) && decide (n ≤ hi))))) : PCall P 134 [.d (.agg [.int .i64 lo, .int .i64 hi]), .d (.int .i64 n)] ob K := by
 refine pcall_lift hP mixed (ds := [.agg [.int .i64 lo, .int .i64 hi], .int .i64 n]) Ygz Yku TOk.nil ?_
 simp [Yhi]
 simpa using h
variable {ob : Objs} {p : Nat} {ts : List Tok} {en : Int} {S : V} (hS : V.allD [S] = none) (hp : lookO ob p = some (pb ts en S)) {K : Out → Objs → Prop}
include hS hp
theorem Zf (lo hi : Int) (h : PK K ob p en S (fun n => .d (.int .i64 n)) (Xx lo hi ts)) : ACall P 63 [.ptr p [], .d (.agg [.int .i64 lo, .int .i64 hi])] ob K := by
 refine acall_lift hP mixed Yr2 Ytm TOk.nil fun _ hm => ?_
 simp [Yrn, hp, hS]
 refine Q5 hP hS (ts := ts) (en := en) (S := S) (by simp [hp]) _ _ ?_
 cases hn : Xh 2 [] ts with
 | false =>
  simp [Xx, hn] at h
  simp [hp, hS]
  refine Ws hP hS (ts := ts) (en := en) (S := S) (by simp [hp]) _ ?_
  simp [hp, hS]
  exact Xc hp hm h (by simp) (by simp [hp])
 | true =>
  cases ts with
  | nil => simp [Xh] at hn
  | cons x ts =>
   simp [hp, hS, Tok.enc]
   refine X8m hP _ _ _ ?_
   by_cases hr : lo ≤ x.n ∧ x.n ≤ hi
   ·simp [Xx, hn, hr] at h
    simp [hr, X7q, hp, hS]
    refine Xpd hP hS (ts := x :: ts) (en := en) (S := S) (by simp [hp, Tok.enc]) _ _ ?_
    simp [Jv, hn, hp, hS, Tok.enc]
    exact Xc hp hm h (by simp) (by simp [hp])
   ·have hr' : (decide (lo ≤ x.n) && decide (x.n ≤ hi)) = false := by simpa using hr
    simp [Xx, hn, Bool.and_assoc, hr'] at h
    simp only [hr']
    simp [hp, hS]
    refine Ws hP hS (ts := x :: ts) (en := en) (S := S) (by simp [hp, Tok.enc]) _ ?_
    simp [hp, hS, Tok.enc]
    exact Xc hp hm h (by simp) (by simp [hp, Tok.enc])
theorem Xue (h : PK K ob p en S (fun x => .tup [.d (.str x.1), .d (.str x.2)]) (Xny ts)) : ACall P 138 [.ptr p []] ob K := by
 refine acall_lift hP mixed Ylg Yh7 TOk.nil fun _ hm => ?_
 simp [Yka, hp, hS]
 refine Zc hP hS (by simp [hp]) (PK.bind h (fun ts' e h => ?_) (fun a ts' ha h => ?_))
 ·simp
  exact Xc hp hm h (by simp) (by simp [hp])
 simp [hp, hS]
 refine Yf hP hS (by simp [hp]) _ (PK.bind h (fun ts' e h => ?_) (fun a ts' ha h => ?_))
 ·simp
  exact Xc hp hm h (by simp) (by simp [hp])
 simp [hp, hS]
 refine Zc hP hS (by simp [hp]) (PK.bind h (fun ts' e h => ?_) (fun a ts' ha h => ?_))
 ·simp
  exact Xc hp hm h (by simp) (by simp [hp])
 simp [hp, hS]
 exact Xc hp hm h (by simp) (by simp [hp])
theorem Ydm (hI : Ivl P) (h : PK K ob p en S (fun x => .d x.enc) (Xbd ts)) : ACall P 76 [.ptr p []] ob K := by
 refine acall_lift hP mixed Yuw Yui TOk.nil fun _ hm => ?_
 simp [Ysh, hp, hS, hI.factors, hI.editions, hI.mosts, hI.weights, hI.anyN]
 refine Zc hP hS (by simp [hp]) (PK.bind h (fun ts' e h => ?_) (fun a ts' ha h => ?_))
 ·simp
  exact Xc hp hm h (by simp) (by simp [hp])
 simp [hp, hS, hI.factors, hI.editions, hI.mosts, hI.weights, hI.anyN]
 refine Yf hP hS (by simp [hp]) _ (PK.bind h (fun ts' e h => ?_) (fun a ts' ha h => ?_))
 ·simp
  exact Xc hp hm h (by simp) (by simp [hp])
 simp [hp, hS, hI.factors, hI.editions, hI.mosts, hI.weights, hI.anyN]
 refine Zc hP hS (by simp [hp]) (PK.bind h (fun ts' e h => ?_) (fun a ts' ha h => ?_))
 ·simp
  exact Xc hp hm h (by simp) (by simp [hp])
 simp [hp, hS, hI.factors, hI.editions, hI.mosts, hI.weights, hI.anyN]
 rw [Xei, Xt] at h
 refine Y6 hP hS (by simp [hp]) _ _ (PK.bind h (fun ts' e h => ?_) (fun a ts' ha h => ?_))
 ·simp
  exact Xc hp hm h (by simp) (by simp [hp])
 cases a
 ·skip
  simp only [Bool.false_eq_true, if_false, if_true, Xt, Yr] at h
  simp [hp, hS, hI.factors, hI.editions, hI.mosts, hI.weights, hI.anyN]
  refine Y6 hP hS (by simp [hp]) _ _ (PK.bind h (fun ts' e h => ?_) (fun a ts' ha h => ?_))
  ·simp
   exact Xc hp hm h (by simp) (by simp [hp])
  cases a
  ·skip
   simp only [Bool.false_eq_true, if_false, if_true, Xt, Yr] at h
   simp [hp, hS, hI.factors, hI.editions, hI.mosts, hI.weights, hI.anyN, Xl7]
   refine Yf hP hS (by simp [hp]) _ (PK.bind h (fun ts' e h => ?_) (fun a ts' ha h => ?_))
   ·simp
    exact Xc hp hm h (by simp) (by simp [hp])
   simp [hp, hS, hI.factors, hI.editions, hI.mosts, hI.weights, hI.anyN]
   exact Xc hp hm h (by simp) (by simp [hp])
  ·skip
   simp only [Bool.false_eq_true, if_false, if_true, Xt, Yr] at h
   simp [hp, hS, hI.factors, hI.editions, hI.mosts, hI.weights, hI.anyN]
   refine Zf hP hS (by simp [hp]) _ _ (PK.bind h (fun ts' e h => ?_) (fun a ts' ha h => ?_))
   ·simp
    exact Xc hp hm h (by simp) (by simp [hp])
   simp [hp, hS, hI.factors, hI.editions, hI.mosts, hI.weights, hI.anyN, Xl7]
   have hw : IntKind.i64.wrap (-a) = -a := by have := Xr2 ha; exact IntWalk.i64_in _ (by omega)
   simp only [hw]
   refine Yf hP hS (by simp [hp]) _ (PK.bind h (fun ts' e h => ?_) (fun a ts' ha h => ?_))
   ·simp
    exact Xc hp hm h (by simp) (by simp [hp])
   simp [hp, hS, hI.factors, hI.editions, hI.mosts, hI.weights, hI.anyN]
   exact Xc hp hm h (by simp) (by simp [hp])
 ·skip
  simp only [Bool.false_eq_true, if_false, if_true, Xt, Yr] at h
  simp [hp, hS, hI.factors, hI.editions, hI.mosts, hI.weights, hI.anyN]
  refine Zf hP hS (by simp [hp]) _ _ (PK.bind h (fun ts' e h => ?_) (fun a ts' ha h => ?_))
  ·simp
   exact Xc hp hm h (by simp) (by simp [hp])
  simp [hp, hS, hI.factors, hI.editions, hI.mosts, hI.weights, hI.anyN, Xl7]
  refine Yf hP hS (by simp [hp]) _ (PK.bind h (fun ts' e h => ?_) (fun a ts' ha h => ?_))
  ·simp
   exact Xc hp hm h (by simp) (by simp [hp])
  simp [hp, hS, hI.factors, hI.editions, hI.mosts, hI.weights, hI.anyN]
  exact Xc hp hm h (by simp) (by simp [hp])
theorem Yi8 (h : PK K ob p en S (fun x => .d x.enc) (Xzr ts)) : ACall P 78 [.ptr p []] ob K := by
 refine acall_lift hP mixed Ysu Yrm TOk.nil fun _ hm => ?_
 simp [Yty, hp, hS]
 refine Zu hP hS (by simp [hp]) _ (PK.bind h (fun ts' e h => ?_) (fun a ts' ha h => ?_))
 ·simp
  exact Xc hp hm h (by simp) (by simp [hp])
 simp [hp, hS]
 refine Xue hP hS (by simp [hp]) (PK.bind h (fun ts' e h => ?_) (fun a ts' ha h => ?_))
 ·simp
  exact Xc hp hm h (by simp) (by simp [hp])
 simp [hp, hS]
 refine Yf hP hS (by simp [hp]) _ (PK.bind h (fun ts' e h => ?_) (fun a ts' ha h => ?_))
 ·simp
  exact Xc hp hm h (by simp) (by simp [hp])
 simp [hp, hS]
 exact Xc hp hm h (by simp) (by simp [hp])
theorem Yfi (h : PK K ob p en S (fun x => .d x.enc) (Xb0 ts)) : ACall P 70 [.ptr p []] ob K := by
 refine acall_lift hP mixed Yqz Ysb TOk.nil fun _ hm => ?_
 simp [Ysa, hp, hS]
 refine Zu hP hS (by simp [hp]) _ (PK.bind h (fun ts' e h => ?_) (fun a ts' ha h => ?_))
 ·simp
  exact Xc hp hm h (by simp) (by simp [hp])
 simp [hp, hS]
 refine Zc hP hS (by simp [hp]) (PK.bind h (fun ts' e h => ?_) (fun a ts' ha h => ?_))
 ·simp
  exact Xc hp hm h (by simp) (by simp [hp])
 simp [hp, hS]
 refine Zc hP hS (by simp [hp]) (PK.bind h (fun ts' e h => ?_) (fun a ts' ha h => ?_))
 ·simp
  exact Xc hp hm h (by simp) (by simp [hp])
 simp [hp, hS]
 refine Y6 hP hS (by simp [hp]) _ _ (PK.bind h (fun ts' e h => ?_) (fun a ts' ha h => ?_))
 ·simp
  exact Xc hp hm h (by simp) (by simp [hp])
 cases a
 ·skip
  simp only [Bool.false_eq_true, if_false, if_true, Xt, Yr] at h
  simp [hp, hS, Xzm]
  refine Yf hP hS (by simp [hp]) _ (PK.bind h (fun ts' e h => ?_) (fun a ts' ha h => ?_))
  ·simp
   exact Xc hp hm h (by simp) (by simp [hp])
  simp [hp, hS]
  exact Xc hp hm h (by simp) (by simp [hp])
 ·skip
  simp only [Bool.false_eq_true, if_false, if_true, Xt, Yr] at h
  simp [hp, hS]
  refine Xue hP hS (by simp [hp]) (PK.bind h (fun ts' e h => ?_) (fun a ts' ha h => ?_))
  ·simp
   exact Xc hp hm h (by simp) (by simp [hp])
  simp [hp, hS, Xzm]
  refine Yf hP hS (by simp [hp]) _ (PK.bind h (fun ts' e h => ?_) (fun a ts' ha h => ?_))
  ·simp
   exact Xc hp hm h (by simp) (by simp [hp])
  simp [hp, hS]
  exact Xc hp hm h (by simp) (by simp [hp])
end
end Go.Proofs.YtanpgmgkmfckaaaGreatDoor
/- Contracts: terms, comparisons, weights. Condition: the program is the seat's, and its intervals are laid. -/
namespace Go.Proofs.YtanpgmgkmfckaaaGreatDoor
open Go Go.Ab Go.Lx Go.Sx
set_option maxRecDepth 100000
attribute [local simp ↓] ql qn qo qi qh qj qk qm zt zp zr zu zq zl zm zk zo zn qq qp qw qx zg qy qv qr zh qu qt qs qz zb za zd ze zf zx zw zz zy qb qa qd qc qe qg qf zj zi
section
variable {P : Prg} (hP : P.p = Tryz.prog) {ob : Objs} {p : Nat} {ts : List Tok} {en : Int} {S : V} (hS : V.allD [S] = none) (hp : lookO ob p = some (pb ts en S)) {K : Out → Objs → Prop}
include hP hS hp
theorem Xen (hI : Ivl P) (h : PK K ob p en S (fun x => .d x.enc) (Xae ts)) : ACall P 139 [.ptr p []] ob K := by
 refine acall_lift hP mixed Yju Yi3 TOk.nil fun _ hm => ?_
 simp [Yjw, hp, hS, hI.factors, hI.editions, hI.mosts, hI.weights, hI.anyN]
 refine Q5 hP hS (ts := ts) (en := en) (S := S) (by simp [hp]) _ _ ?_
 cases hn : Xh 2 [] ts with
 | false =>
  simp only [Xae, hn, Bool.false_eq_true, if_false] at h
  simp [hp, hS, hI.anyN]
  refine Xue hP hS (by simp [hp]) (PK.bind h (fun ts' e h => ?_) (fun a ts' ha h => ?_))
  ·simp
   exact Xc hp hm h (by simp) (by simp [hp])
  simp [hp, hS, hI.factors, hI.editions, hI.mosts, hI.weights, hI.anyN]
  exact Xc hp hm h (by simp) (by simp [hp])
 | true =>
  simp only [Xae, hn, if_true] at h
  simp [hp, hS, hI.anyN]
  refine Zf hP hS (by simp [hp]) _ _ (PK.bind h (fun ts' e h => ?_) (fun a ts' ha h => ?_))
  ·simp
   exact Xc hp hm h (by simp) (by simp [hp])
  simp [hp, hS, hI.factors, hI.editions, hI.mosts, hI.weights, hI.anyN]
  exact Xc hp hm h (by simp) (by simp [hp])
theorem X6s (hI : Ivl P) (h : PK K ob p en S (fun x => .d x.enc) (U5 ts)) : ACall P 72 [.ptr p []] ob K := by
 refine acall_lift hP mixed Yve Yr7 TOk.nil fun _ hm => ?_
 simp [Ytq, hp, hS, hI.factors, hI.editions, hI.mosts, hI.weights, hI.anyN]
 refine Zu hP hS (by simp [hp]) _ (PK.bind h (fun ts' e h => ?_) (fun a ts' ha h => ?_))
 ·simp
  exact Xc hp hm h (by simp) (by simp [hp])
 simp [hp, hS, hI.factors, hI.editions, hI.mosts, hI.weights, hI.anyN]
 refine Xen hP hS (by simp [hp]) hI (PK.bind h (fun ts' e h => ?_) (fun a ts' ha h => ?_))
 ·simp
  exact Xc hp hm h (by simp) (by simp [hp])
 simp [hp, hS, hI.factors, hI.editions, hI.mosts, hI.weights, hI.anyN]
 rw [opM, Xt] at h
 refine Y6 hP hS (by simp [hp]) _ _ (PK.bind h (fun ts' e h => ?_) (fun a ts' ha h => ?_))
 ·simp
  exact Xc hp hm h (by simp) (by simp [hp])
 cases a
 ·skip
  simp only [Bool.false_eq_true, if_false, if_true, Xt, Yr] at h
  simp [hp, hS, hI.factors, hI.editions, hI.mosts, hI.weights, hI.anyN]
  refine Y6 hP hS (by simp [hp]) _ _ (PK.bind h (fun ts' e h => ?_) (fun a ts' ha h => ?_))
  ·simp
   exact Xc hp hm h (by simp) (by simp [hp])
  cases a
  ·skip
   simp only [Bool.false_eq_true, if_false, if_true, Xt, Yr] at h
   simp [hp, hS, hI.factors, hI.editions, hI.mosts, hI.weights, hI.anyN]
   refine Yf hP hS (by simp [hp]) _ (PK.bind h (fun ts' e h => ?_) (fun a ts' ha h => ?_))
   ·simp
    exact Xc hp hm h (by simp) (by simp [hp])
   simp [hp, hS, hI.factors, hI.editions, hI.mosts, hI.weights, hI.anyN]
   refine Yf hP hS (by simp [hp]) _ (PK.bind h (fun ts' e h => ?_) (fun a ts' ha h => ?_))
   ·simp
    exact Xc hp hm h (by simp) (by simp [hp])
   simp [hp, hS, hI.factors, hI.editions, hI.mosts, hI.weights, hI.anyN, Xe6]
   refine Xen hP hS (by simp [hp]) hI (PK.bind h (fun ts' e h => ?_) (fun a ts' ha h => ?_))
   ·simp
    exact Xc hp hm h (by simp) (by simp [hp])
   simp [hp, hS, hI.factors, hI.editions, hI.mosts, hI.weights, hI.anyN]
   refine Yf hP hS (by simp [hp]) _ (PK.bind h (fun ts' e h => ?_) (fun a ts' ha h => ?_))
   ·simp
    exact Xc hp hm h (by simp) (by simp [hp])
   simp [hp, hS, hI.factors, hI.editions, hI.mosts, hI.weights, hI.anyN]
   exact Xc hp hm h (by simp) (by simp [hp])
  ·skip
   simp only [Bool.false_eq_true, if_false, if_true, Xt, Yr] at h
   simp [hp, hS, hI.factors, hI.editions, hI.mosts, hI.weights, hI.anyN]
   refine Y6 hP hS (by simp [hp]) _ _ (PK.bind h (fun ts' e h => ?_) (fun a ts' ha h => ?_))
   ·simp
    exact Xc hp hm h (by simp) (by simp [hp])
   cases a
   ·skip
    simp only [Bool.false_eq_true, if_false, if_true, Xt, Yr] at h
    simp [hp, hS, hI.factors, hI.editions, hI.mosts, hI.weights, hI.anyN, Xe6]
    refine Xen hP hS (by simp [hp]) hI (PK.bind h (fun ts' e h => ?_) (fun a ts' ha h => ?_))
    ·simp
     exact Xc hp hm h (by simp) (by simp [hp])
    simp [hp, hS, hI.factors, hI.editions, hI.mosts, hI.weights, hI.anyN]
    refine Yf hP hS (by simp [hp]) _ (PK.bind h (fun ts' e h => ?_) (fun a ts' ha h => ?_))
    ·simp
     exact Xc hp hm h (by simp) (by simp [hp])
    simp [hp, hS, hI.factors, hI.editions, hI.mosts, hI.weights, hI.anyN]
    exact Xc hp hm h (by simp) (by simp [hp])
   ·skip
    simp only [Bool.false_eq_true, if_false, if_true, Xt, Yr] at h
    simp [hp, hS, hI.factors, hI.editions, hI.mosts, hI.weights, hI.anyN, Xe6]
    refine Xen hP hS (by simp [hp]) hI (PK.bind h (fun ts' e h => ?_) (fun a ts' ha h => ?_))
    ·simp
     exact Xc hp hm h (by simp) (by simp [hp])
    simp [hp, hS, hI.factors, hI.editions, hI.mosts, hI.weights, hI.anyN]
    refine Yf hP hS (by simp [hp]) _ (PK.bind h (fun ts' e h => ?_) (fun a ts' ha h => ?_))
    ·simp
     exact Xc hp hm h (by simp) (by simp [hp])
    simp [hp, hS, hI.factors, hI.editions, hI.mosts, hI.weights, hI.anyN]
    exact Xc hp hm h (by simp) (by simp [hp])
 ·skip
  simp only [Bool.false_eq_true, if_false, if_true, Xt, Yr] at h
  simp [hp, hS, hI.factors, hI.editions, hI.mosts, hI.weights, hI.anyN, Xe6]
  refine Xen hP hS (by simp [hp]) hI (PK.bind h (fun ts' e h => ?_) (fun a ts' ha h => ?_))
  ·simp
   exact Xc hp hm h (by simp) (by simp [hp])
  simp [hp, hS, hI.factors, hI.editions, hI.mosts, hI.weights, hI.anyN]
  refine Yf hP hS (by simp [hp]) _ (PK.bind h (fun ts' e h => ?_) (fun a ts' ha h => ?_))
  ·simp
   exact Xc hp hm h (by simp) (by simp [hp])
  simp [hp, hS, hI.factors, hI.editions, hI.mosts, hI.weights, hI.anyN]
  exact Xc hp hm h (by simp) (by simp [hp])
theorem Yhp (hI : Ivl P) (h : PK K ob p en S (fun x => .d x.enc) (Xzo ts)) : ACall P 74 [.ptr p []] ob K := by
 refine acall_lift hP mixed Yud Yt4 TOk.nil fun _ hm => ?_
 simp [Yq7, hp, hS, hI.factors, hI.editions, hI.mosts, hI.weights, hI.anyN]
 refine Zu hP hS (by simp [hp]) _ (PK.bind h (fun ts' e h => ?_) (fun a ts' ha h => ?_))
 ·simp
  exact Xc hp hm h (by simp) (by simp [hp])
 simp [hp, hS, hI.factors, hI.editions, hI.mosts, hI.weights, hI.anyN]
 refine Zc hP hS (by simp [hp]) (PK.bind h (fun ts' e h => ?_) (fun a ts' ha h => ?_))
 ·simp
  exact Xc hp hm h (by simp) (by simp [hp])
 simp [hp, hS, hI.factors, hI.editions, hI.mosts, hI.weights, hI.anyN]
 refine Yf hP hS (by simp [hp]) _ (PK.bind h (fun ts' e h => ?_) (fun a ts' ha h => ?_))
 ·simp
  exact Xc hp hm h (by simp) (by simp [hp])
 simp [hp, hS, hI.factors, hI.editions, hI.mosts, hI.weights, hI.anyN]
 refine Xen hP hS (by simp [hp]) hI (PK.bind h (fun ts' e h => ?_) (fun a ts' ha h => ?_))
 ·simp
  exact Xc hp hm h (by simp) (by simp [hp])
 simp [hp, hS, hI.factors, hI.editions, hI.mosts, hI.weights, hI.anyN]
 refine Yf hP hS (by simp [hp]) _ (PK.bind h (fun ts' e h => ?_) (fun a ts' ha h => ?_))
 ·simp
  exact Xc hp hm h (by simp) (by simp [hp])
 simp [hp, hS, hI.factors, hI.editions, hI.mosts, hI.weights, hI.anyN]
 exact Xc hp hm h (by simp) (by simp [hp])
theorem Xhx (hI : Ivl P) (h : PK K ob p en S (fun l => .d (.agg (l.map iD))) (Wl ts)) : ACall P 64 [.ptr p []] ob K := by
 refine acall_lift hP mixed Yru Yrq TOk.nil fun _ hm => ?_
 simp [Yts, hp, hS]
 refine ALoop.go (ι := List Int × List Tok) (fun j => [(0, .ptr p []), (2, .ptr (fresh ob) []), (4, .d (.int .i64 j.1.length))])
  (fun j => (fresh ob, .box 91 (.d (.agg (j.1.map iD ++ List.replicate (4 - j.1.length) (iD 0))))) :: setO ob p (pb j.2 en S))
  (fun j => j.1.length ≤ 4 ∧ PK K ob p en S (fun l => .d (.agg (l.map iD))) ((Xg4 (4 - j.1.length) >>= fun l => pure (j.1 ++ l)) j.2)) (fun j => 4 - j.1.length) ([], ts) ⟨by simp, ?_⟩ (by simp) (by simp [Yi hp]) ?_
 ·simp only [Wl] at h
  simp only [List.length_nil, Nat.sub_zero, List.nil_append]
  rw [Xe]
  cases hr : Xg4 4 ts with
  | ok a ts' => rw [hr] at h; exact h
  | err ts' e => rw [hr] at h; exact h
 rintro ⟨l, ts1⟩ ⟨hl, h⟩ R rn re rr rp
 have w1 : IntKind.i64.wrap 1 = 1 := by decide
 have w2 : IntKind.i64.wrap 2 = 2 := by decide
 have w3 : IntKind.i64.wrap 3 = 3 := by decide
 have w4 : IntKind.i64.wrap 4 = 4 := by decide
 match l, hl with
 | [], _ =>
  simp [Xca, hp, hS, hI.weights]
  simp [Xg4, Xt, Yr] at h
  refine Zf hP hS (by simp [hp]) _ _ (PK.bind h (fun ts' e h => ?_) (fun a ts' ha h => ?_))
  ·simp
   refine rp _ _ _ ?_
   simp
   exact Xc hp hm h (by simp) (by simp [hp])
  simp [hp, hS, w1, w2, w3, w4]
  refine rn [] ([a], ts') _ _ ⟨by simp, by simpa [Xg4, Xt, Yr] using h⟩ (by simp) (by simp) (by simp [hp]) (by simp [hp]) ?_
  simp
  refine noMenO_set_box _ _ _ _ _ (Xl _ hm) ?_
  have := Y8 (Xl 1 (l := []) hm) hp
  simpa [pv] using this
 | [a0], _ =>
  simp [Xca, hp, hS, hI.weights]
  simp [Xg4, Xt, Yr] at h
  refine Zf hP hS (by simp [hp]) _ _ (PK.bind h (fun ts' e h => ?_) (fun a ts' ha h => ?_))
  ·simp
   refine rp _ _ _ ?_
   simp
   exact Xc hp hm h (by simp) (by simp [hp])
  simp [hp, hS, w1, w2, w3, w4]
  refine rn [] ([a0, a], ts') _ _ ⟨by simp, by simpa [Xg4, Xt, Yr] using h⟩ (by simp) (by simp) (by simp [hp]) (by simp [hp]) ?_
  simp
  refine noMenO_set_box _ _ _ _ _ (Xl _ hm) ?_
  have := Y8 (Xl 1 (l := []) hm) hp
  simpa [pv] using this
 | [a0, b0], _ =>
  simp [Xca, hp, hS, hI.weights]
  simp [Xg4, Xt, Yr] at h
  refine Zf hP hS (by simp [hp]) _ _ (PK.bind h (fun ts' e h => ?_) (fun a ts' ha h => ?_))
  ·simp
   refine rp _ _ _ ?_
   simp
   exact Xc hp hm h (by simp) (by simp [hp])
  simp [hp, hS, w1, w2, w3, w4]
  refine rn [] ([a0, b0, a], ts') _ _ ⟨by simp, by simpa [Xg4, Xt, Yr] using h⟩ (by simp) (by simp) (by simp [hp]) (by simp [hp]) ?_
  simp
  refine noMenO_set_box _ _ _ _ _ (Xl _ hm) ?_
  have := Y8 (Xl 1 (l := []) hm) hp
  simpa [pv] using this
 | [a0, b0, c0], _ =>
  simp [Xca, hp, hS, hI.weights]
  simp [Xg4, Xt, Yr] at h
  refine Zf hP hS (by simp [hp]) _ _ (PK.bind h (fun ts' e h => ?_) (fun a ts' ha h => ?_))
  ·simp
   refine rp _ _ _ ?_
   simp
   exact Xc hp hm h (by simp) (by simp [hp])
  simp [hp, hS, w1, w2, w3, w4]
  refine rn [] ([a0, b0, c0, a], ts') _ _ ⟨by simp, by simpa [Xg4, Xt, Yr] using h⟩ (by simp) (by simp) (by simp [hp]) (by simp [hp]) ?_
  simp
  refine noMenO_set_box _ _ _ _ _ (Xl _ hm) ?_
  have := Y8 (Xl 1 (l := []) hm) hp
  simpa [pv] using this
 | [a0, b0, c0, d0], _ =>
  simp [Xca, hp, hS]
  simp [Xg4, Xt, Yr] at h
  refine re _ _ _ ?_
  simp [hp, hS]
  exact Xc hp hm h (by simp) (by simp [hp])
 | _ :: _ :: _ :: _ :: _ :: _, hl => simp at hl
end
end Go.Proofs.YtanpgmgkmfckaaaGreatDoor
/- Contracts: the parser's lists. Condition: the program is the seat's. -/
namespace Go.Proofs.YtanpgmgkmfckaaaGreatDoor
open Go Go.Ab Go.Lx Go.Sx
set_option maxRecDepth 100000
attribute [local simp ↓] ql qn qo qi qh qj qk qm zt zp zr zu zq zl zm zk zo zn qq qp qw qx zg qy qv qr zh qu qt qs qz zb za zd ze zf zx zw zz zy qb qa qd qc qe qg qf zj zi
section
variable {P : Prg} (hP : P.p = Tryz.prog) {ob : Objs} {p : Nat} {ts : List Tok} {en : Int} {S : V} (hS : V.allD [S] = none) (hp : lookO ob p = some (pb ts en S)) {K : Out → Objs → Prop}
include hP hS hp
omit hS in
theorem Jc (t : B) (x : Nat) (hx : fresh ob = x) (h : K (.ret (.fn 137 [] [.ptr x [], .ptr (x + 1) []])) ((x + 1, .box 9 (.d (.str t))) :: (x, .box 63 (.ptr p [])) :: ob)) : ACall P 69 [.ptr p [], .d (.str t)] ob K := by
 subst hx
 refine acall_lift hP mixed Ysm Ys4 TOk.nil fun _ hm => ?_
 simp [Yus, hp]
 refine ⟨[fresh ob, fresh ob + 1], by simp [young], ?_, ?_⟩
 ·have := Y3 hp
  simp [young, hp, hm, this]
 ·simpa [young, hp] using h
theorem Ua {t : B} {b1 b2 : Nat} (h1 : lookO ob b1 = some (.box 63 (.ptr p []))) (h2 : lookO ob b2 = some (.box 9 (.d (.str t)))) (h : K (.ret (.d (.bool (Xh 1 t ts)))) (setO ob p (pb ts en S))) : ACall P 137 [.ptr b1 [], .ptr b2 []] ob K := by
 refine acall_lift hP mixed Yil Yk0 TOk.nil fun _ hm => ?_
 simp [Yj4, hp, h1, h2]
 refine Q5 hP hS hp _ _ ?_
 simp [hp]
 exact Xc hp hm h (by simp) (by simp [hp])
theorem X69 {α : Type} {enc : α → D} (hsh : ∀ a, (enc a).shape = .node [.leaf, .leaf, .leaf, .node [.leaf, .leaf, .leaf, .leaf, .leaf]]) (begins : List Tok → Bool) (read : M α) (most : Nat) (hmost : most ≤ 1000) (bf rf : Nat) (bfi bca rfi rca : List V) (hbc : Xg P.p bf = true) (hrc : Xg P.p rf = true)
  (x : Nat) (hx : fresh ob = x) (hb : ∀ (ts : List Tok) (o : Ob) (K : Out → Objs → Prop), K (.ret (.d (.bool (begins ts)))) ((x, o) :: setO ob p (pb ts en S)) → ACall P bf (bfi ++ bca) ((x, o) :: setO ob p (pb ts en S)) K)
  (hr : ∀ (ts : List Tok) (o : Ob) (K : Out → Objs → Prop), PK K ((x, o) :: setO ob p (pb ts en S)) p en S (fun a => .d (enc a)) (read ts) → ACall P rf (rfi ++ rca) ((x, o) :: setO ob p (pb ts en S)) K)
  (h : PK K ob p en S (fun l => .d (.list 8 (l.map enc))) (Xs begins read most ts)) : ACall P 68 [.ptr p [], .d (.int .i64 most), .fn bf bfi bca, .fn rf rfi rca] ob K := by
 subst hx
 refine acall_lift hP mixed Yq1 Yvg TOk.nil fun hv hm => ?_
 have hv1 := V.mens_mono (p := young (fresh ob + 1) []) (q := young (fresh ob) []) (fun j e => by simp [young] at e ⊢; omega) _ (hv [])
 simp at hv1
 simp [Ysl, hp, hS]
 refine ALoop.go (ι := List α × List Tok) (fun j => [(0, .ptr p []), (1, .d (.int .i64 most)), (2, .fn bf bfi bca), (3, .fn rf rfi rca), (8, .sl (fresh ob) j.1.length)])
  (fun j => (fresh ob, .arr 54 8 (j.1.map enc)) :: setO ob p (pb j.2 en S))
  (fun j => j.1.length ≤ most ∧ PK K ob p en S (fun l => .d (.list 8 (l.map enc))) ((Xs begins read (most - j.1.length) >>= fun l => pure (j.1 ++ l)) j.2)) (fun j => most - j.1.length) ([], ts) ⟨by simp, ?_⟩ (by simp) (by simp [Yi hp]) ?_
 ·simp only [List.length_nil, Nat.sub_zero, List.nil_append]
  rw [Xe]
  cases hr : Xs begins read most ts with
  | ok a ts' => rw [hr] at h; exact h
  | err ts' e => rw [hr] at h; exact h
 rintro ⟨l, ts1⟩ ⟨hl, h⟩ R rn re rr rp
 dsimp only at hl h rn
 simp [X7u, hp, hS, hbc]
 refine hb _ _ _ ?_
 cases hbg : begins ts1 with
 | false =>
  simp [hp, hS]
  refine re _ _ _ ?_
  have h' : PK K ob p en S (fun l => .d (.list 8 (l.map enc))) (.ok l ts1) := by
   rw [Xe] at h
   cases hn : most - l.length <;> simpa [hn, Xs, hbg] using h
  simp [hp, hS]
  exact Xc hp hm h' (by simp) (by simp [hp])
 | true =>
  by_cases he : l.length = most
  ·simp [he, Xs, hbg, Xe] at h
   simp [hp, hS, he]
   refine Ws hP hS (ts := ts1) (en := en) (S := S) (by simp [hp]) _ ?_
   simp [hp]
   refine rp _ _ _ ?_
   simp
   exact Xc hp hm h (by simp) (by simp [hp])
  ·have hne : ¬ ((l.length : Int) = most) := by omega
   obtain ⟨n, hn⟩ : ∃ n, most - l.length = n + 1 := ⟨most - l.length - 1, by omega⟩
   simp only [hn] at h
   simp only [Xe, Xs, hbg, if_true] at h
   simp [hp, hS, hne, hrc, X88]
   refine hr _ _ _ ?_
   cases ha : read ts1 with
   | err ts' e =>
    simp only [ha] at h
    simp
    refine rp _ _ _ ?_
    simp
    exact Xc hp hm h (by simp) (by simp [hp])
   | ok a ts' =>
    simp only [ha] at h
    simp [hp, hS, hsh]
    refine ⟨by omega, ?_⟩
    refine rn [] (l ++ [a], ts') _ _ ⟨by simp; omega, ?_⟩ (by simp; omega) (by simp) (by simp [hp]) (by simp [hp, hv1]) ?_
    ·simp only [List.length_append, List.length_singleton, show most - (l.length + 1) = n by omega]
     rw [Xe]
     cases hl2 : Xs begins read n ts' with
     | err ts2 e => simp only [hl2] at h; exact h
     | ok l2 ts2 => simp only [hl2] at h; simpa using h
    ·simp
     refine noMenO_set_box _ _ _ _ _ (Xl _ hm) ?_
     have := Y8 (Xl 1 (l := []) hm) hp
     simpa [pv] using this
theorem X8p {α : Type} {enc : α → D} (hsh : ∀ a, (enc a).shape = .node [.leaf, .node [.leaf, .leaf, .leaf, .leaf, .leaf], .node [.leaf, .leaf, .leaf, .leaf, .leaf]]) (begins : List Tok → Bool) (read : M α) (most : Nat) (hmost : most ≤ 1000) (bf rf : Nat) (bfi bca rfi rca : List V) (hbc : Xg P.p bf = true) (hrc : Xg P.p rf = true)
  (x : Nat) (hx : fresh ob = x) (hb : ∀ (ts : List Tok) (o : Ob) (K : Out → Objs → Prop), K (.ret (.d (.bool (begins ts)))) ((x, o) :: setO ob p (pb ts en S)) → ACall P bf (bfi ++ bca) ((x, o) :: setO ob p (pb ts en S)) K)
  (hr : ∀ (ts : List Tok) (o : Ob) (K : Out → Objs → Prop), PK K ((x, o) :: setO ob p (pb ts en S)) p en S (fun a => .d (enc a)) (read ts) → ACall P rf (rfi ++ rca) ((x, o) :: setO ob p (pb ts en S)) K)
  (h : PK K ob p en S (fun l => .d (.list 11 (l.map enc))) (Xs begins read most ts)) : ACall P 71 [.ptr p [], .d (.int .i64 most), .fn bf bfi bca, .fn rf rfi rca] ob K := by
 subst hx
 refine acall_lift hP mixed Yrz Yrf TOk.nil fun hv hm => ?_
 have hv1 := V.mens_mono (p := young (fresh ob + 1) []) (q := young (fresh ob) []) (fun j e => by simp [young] at e ⊢; omega) _ (hv [])
 simp at hv1
 simp [Ys8, hp, hS]
 refine ALoop.go (ι := List α × List Tok) (fun j => [(0, .ptr p []), (1, .d (.int .i64 most)), (2, .fn bf bfi bca), (3, .fn rf rfi rca), (8, .sl (fresh ob) j.1.length)])
  (fun j => (fresh ob, .arr 56 11 (j.1.map enc)) :: setO ob p (pb j.2 en S))
  (fun j => j.1.length ≤ most ∧ PK K ob p en S (fun l => .d (.list 11 (l.map enc))) ((Xs begins read (most - j.1.length) >>= fun l => pure (j.1 ++ l)) j.2)) (fun j => most - j.1.length) ([], ts) ⟨by simp, ?_⟩ (by simp) (by simp [Yi hp]) ?_
 ·simp only [List.length_nil, Nat.sub_zero, List.nil_append]
  rw [Xe]
  cases hr : Xs begins read most ts with
  | ok a ts' => rw [hr] at h; exact h
  | err ts' e => rw [hr] at h; exact h
 rintro ⟨l, ts1⟩ ⟨hl, h⟩ R rn re rr rp
 dsimp only at hl h rn
 simp [X60, hp, hS, hbc]
 refine hb _ _ _ ?_
 cases hbg : begins ts1 with
 | false =>
  simp [hp, hS]
  refine re _ _ _ ?_
  have h' : PK K ob p en S (fun l => .d (.list 11 (l.map enc))) (.ok l ts1) := by
   rw [Xe] at h
   cases hn : most - l.length <;> simpa [hn, Xs, hbg] using h
  simp [hp, hS]
  exact Xc hp hm h' (by simp) (by simp [hp])
 | true =>
  by_cases he : l.length = most
  ·simp [he, Xs, hbg, Xe] at h
   simp [hp, hS, he]
   refine Ws hP hS (ts := ts1) (en := en) (S := S) (by simp [hp]) _ ?_
   simp [hp]
   refine rp _ _ _ ?_
   simp
   exact Xc hp hm h (by simp) (by simp [hp])
  ·have hne : ¬ ((l.length : Int) = most) := by omega
   obtain ⟨n, hn⟩ : ∃ n, most - l.length = n + 1 := ⟨most - l.length - 1, by omega⟩
   simp only [hn] at h
   simp only [Xe, Xs, hbg, if_true] at h
   simp [hp, hS, hne, hrc, X8w]
   refine hr _ _ _ ?_
   cases ha : read ts1 with
   | err ts' e =>
    simp only [ha] at h
    simp
    refine rp _ _ _ ?_
    simp
    exact Xc hp hm h (by simp) (by simp [hp])
   | ok a ts' =>
    simp only [ha] at h
    simp [hp, hS, hsh]
    refine ⟨by omega, ?_⟩
    refine rn [] (l ++ [a], ts') _ _ ⟨by simp; omega, ?_⟩ (by simp; omega) (by simp) (by simp [hp]) (by simp [hp, hv1]) ?_
    ·simp only [List.length_append, List.length_singleton, show most - (l.length + 1) = n by omega]
     rw [Xe]
     cases hl2 : Xs begins read n ts' with
     | err ts2 e => simp only [hl2] at h; exact h
     | ok l2 ts2 => simp only [hl2] at h; simpa using h
    ·simp
     refine noMenO_set_box _ _ _ _ _ (Xl _ hm) ?_
     have := Y8 (Xl 1 (l := []) hm) hp
     simpa [pv] using this
theorem X82 {α : Type} {enc : α → D} (hsh : ∀ a, (enc a).shape = .node [.leaf, .leaf, .node [.leaf, .leaf, .leaf, .leaf, .leaf]]) (begins : List Tok → Bool) (read : M α) (most : Nat) (hmost : most ≤ 1000) (bf rf : Nat) (bfi bca rfi rca : List V) (hbc : Xg P.p bf = true) (hrc : Xg P.p rf = true)
  (x : Nat) (hx : fresh ob = x) (hb : ∀ (ts : List Tok) (o : Ob) (K : Out → Objs → Prop), K (.ret (.d (.bool (begins ts)))) ((x, o) :: setO ob p (pb ts en S)) → ACall P bf (bfi ++ bca) ((x, o) :: setO ob p (pb ts en S)) K)
  (hr : ∀ (ts : List Tok) (o : Ob) (K : Out → Objs → Prop), PK K ((x, o) :: setO ob p (pb ts en S)) p en S (fun a => .d (enc a)) (read ts) → ACall P rf (rfi ++ rca) ((x, o) :: setO ob p (pb ts en S)) K)
  (h : PK K ob p en S (fun l => .d (.list 7 (l.map enc))) (Xs begins read most ts)) : ACall P 73 [.ptr p [], .d (.int .i64 most), .fn bf bfi bca, .fn rf rfi rca] ob K := by
 subst hx
 refine acall_lift hP mixed Yug Yue TOk.nil fun hv hm => ?_
 have hv1 := V.mens_mono (p := young (fresh ob + 1) []) (q := young (fresh ob) []) (fun j e => by simp [young] at e ⊢; omega) _ (hv [])
 simp at hv1
 simp [Yto, hp, hS]
 refine ALoop.go (ι := List α × List Tok) (fun j => [(0, .ptr p []), (1, .d (.int .i64 most)), (2, .fn bf bfi bca), (3, .fn rf rfi rca), (8, .sl (fresh ob) j.1.length)])
  (fun j => (fresh ob, .arr 58 7 (j.1.map enc)) :: setO ob p (pb j.2 en S))
  (fun j => j.1.length ≤ most ∧ PK K ob p en S (fun l => .d (.list 7 (l.map enc))) ((Xs begins read (most - j.1.length) >>= fun l => pure (j.1 ++ l)) j.2)) (fun j => most - j.1.length) ([], ts) ⟨by simp, ?_⟩ (by simp) (by simp [Yi hp]) ?_
 ·simp only [List.length_nil, Nat.sub_zero, List.nil_append]
  rw [Xe]
  cases hr : Xs begins read most ts with
  | ok a ts' => rw [hr] at h; exact h
  | err ts' e => rw [hr] at h; exact h
 rintro ⟨l, ts1⟩ ⟨hl, h⟩ R rn re rr rp
 dsimp only at hl h rn
 simp [X59, hp, hS, hbc]
 refine hb _ _ _ ?_
 cases hbg : begins ts1 with
 | false =>
  simp [hp, hS]
  refine re _ _ _ ?_
  have h' : PK K ob p en S (fun l => .d (.list 7 (l.map enc))) (.ok l ts1) := by
   rw [Xe] at h
   cases hn : most - l.length <;> simpa [hn, Xs, hbg] using h
  simp [hp, hS]
  exact Xc hp hm h' (by simp) (by simp [hp])
 | true =>
  by_cases he : l.length = most
  ·simp [he, Xs, hbg, Xe] at h
   simp [hp, hS, he]
   refine Ws hP hS (ts := ts1) (en := en) (S := S) (by simp [hp]) _ ?_
   simp [hp]
   refine rp _ _ _ ?_
   simp
   exact Xc hp hm h (by simp) (by simp [hp])
  ·have hne : ¬ ((l.length : Int) = most) := by omega
   obtain ⟨n, hn⟩ : ∃ n, most - l.length = n + 1 := ⟨most - l.length - 1, by omega⟩
   simp only [hn] at h
   simp only [Xe, Xs, hbg, if_true] at h
   simp [hp, hS, hne, hrc, X9p]
   refine hr _ _ _ ?_
   cases ha : read ts1 with
   | err ts' e =>
    simp only [ha] at h
    simp
    refine rp _ _ _ ?_
    simp
    exact Xc hp hm h (by simp) (by simp [hp])
   | ok a ts' =>
    simp only [ha] at h
    simp [hp, hS, hsh]
    refine ⟨by omega, ?_⟩
    refine rn [] (l ++ [a], ts') _ _ ⟨by simp; omega, ?_⟩ (by simp; omega) (by simp) (by simp [hp]) (by simp [hp, hv1]) ?_
    ·simp only [List.length_append, List.length_singleton, show most - (l.length + 1) = n by omega]
     rw [Xe]
     cases hl2 : Xs begins read n ts' with
     | err ts2 e => simp only [hl2] at h; exact h
     | ok l2 ts2 => simp only [hl2] at h; simpa using h
    ·simp
     refine noMenO_set_box _ _ _ _ _ (Xl _ hm) ?_
     have := Y8 (Xl 1 (l := []) hm) hp
     simpa [pv] using this
theorem X7d {α : Type} {enc : α → D} (hsh : ∀ a, (enc a).shape = .node [.leaf, .leaf, .leaf, .leaf, .leaf]) (begins : List Tok → Bool) (read : M α) (most : Nat) (hmost : most ≤ 1000) (bf rf : Nat) (bfi bca rfi rca : List V) (hbc : Xg P.p bf = true) (hrc : Xg P.p rf = true)
  (x : Nat) (hx : fresh ob = x) (hb : ∀ (ts : List Tok) (o : Ob) (K : Out → Objs → Prop), K (.ret (.d (.bool (begins ts)))) ((x, o) :: setO ob p (pb ts en S)) → ACall P bf (bfi ++ bca) ((x, o) :: setO ob p (pb ts en S)) K)
  (hr : ∀ (ts : List Tok) (o : Ob) (K : Out → Objs → Prop), PK K ((x, o) :: setO ob p (pb ts en S)) p en S (fun a => .d (enc a)) (read ts) → ACall P rf (rfi ++ rca) ((x, o) :: setO ob p (pb ts en S)) K)
  (h : PK K ob p en S (fun l => .d (.list 5 (l.map enc))) (Xs begins read most ts)) : ACall P 75 [.ptr p [], .d (.int .i64 most), .fn bf bfi bca, .fn rf rfi rca] ob K := by
 subst hx
 refine acall_lift hP mixed Ytb Yvk TOk.nil fun hv hm => ?_
 have hv1 := V.mens_mono (p := young (fresh ob + 1) []) (q := young (fresh ob) []) (fun j e => by simp [young] at e ⊢; omega) _ (hv [])
 simp at hv1
 simp [Yqw, hp, hS]
 refine ALoop.go (ι := List α × List Tok) (fun j => [(0, .ptr p []), (1, .d (.int .i64 most)), (2, .fn bf bfi bca), (3, .fn rf rfi rca), (8, .sl (fresh ob) j.1.length)])
  (fun j => (fresh ob, .arr 112 5 (j.1.map enc)) :: setO ob p (pb j.2 en S))
  (fun j => j.1.length ≤ most ∧ PK K ob p en S (fun l => .d (.list 5 (l.map enc))) ((Xs begins read (most - j.1.length) >>= fun l => pure (j.1 ++ l)) j.2)) (fun j => most - j.1.length) ([], ts) ⟨by simp, ?_⟩ (by simp) (by simp [Yi hp]) ?_
 ·simp only [List.length_nil, Nat.sub_zero, List.nil_append]
  rw [Xe]
  cases hr : Xs begins read most ts with
  | ok a ts' => rw [hr] at h; exact h
  | err ts' e => rw [hr] at h; exact h
 rintro ⟨l, ts1⟩ ⟨hl, h⟩ R rn re rr rp
 dsimp only at hl h rn
 simp [X62, hp, hS, hbc]
 refine hb _ _ _ ?_
 cases hbg : begins ts1 with
 | false =>
  simp [hp, hS]
  refine re _ _ _ ?_
  have h' : PK K ob p en S (fun l => .d (.list 5 (l.map enc))) (.ok l ts1) := by
   rw [Xe] at h
   cases hn : most - l.length <;> simpa [hn, Xs, hbg] using h
  simp [hp, hS]
  exact Xc hp hm h' (by simp) (by simp [hp])
 | true =>
  by_cases he : l.length = most
  ·simp [he, Xs, hbg, Xe] at h
   simp [hp, hS, he]
   refine Ws hP hS (ts := ts1) (en := en) (S := S) (by simp [hp]) _ ?_
   simp [hp]
   refine rp _ _ _ ?_
   simp
   exact Xc hp hm h (by simp) (by simp [hp])
  ·have hne : ¬ ((l.length : Int) = most) := by omega
   obtain ⟨n, hn⟩ : ∃ n, most - l.length = n + 1 := ⟨most - l.length - 1, by omega⟩
   simp only [hn] at h
   simp only [Xe, Xs, hbg, if_true] at h
   simp [hp, hS, hne, hrc, X75]
   refine hr _ _ _ ?_
   cases ha : read ts1 with
   | err ts' e =>
    simp only [ha] at h
    simp
    refine rp _ _ _ ?_
    simp
    exact Xc hp hm h (by simp) (by simp [hp])
   | ok a ts' =>
    simp only [ha] at h
    simp [hp, hS, hsh]
    refine ⟨by omega, ?_⟩
    refine rn [] (l ++ [a], ts') _ _ ⟨by simp; omega, ?_⟩ (by simp; omega) (by simp) (by simp [hp]) (by simp [hp, hv1]) ?_
    ·simp only [List.length_append, List.length_singleton, show most - (l.length + 1) = n by omega]
     rw [Xe]
     cases hl2 : Xs begins read n ts' with
     | err ts2 e => simp only [hl2] at h; exact h
     | ok l2 ts2 => simp only [hl2] at h; simpa using h
    ·simp
     refine noMenO_set_box _ _ _ _ _ (Xl _ hm) ?_
     have := Y8 (Xl 1 (l := []) hm) hp
     simpa [pv] using this
theorem X9h {α : Type} {enc : α → D} (hsh : ∀ a, (enc a).shape = .node [.leaf, .leaf, .leaf, .leaf]) (begins : List Tok → Bool) (read : M α) (most : Nat) (hmost : most ≤ 1000) (bf rf : Nat) (bfi bca rfi rca : List V) (hbc : Xg P.p bf = true) (hrc : Xg P.p rf = true)
  (x : Nat) (hx : fresh ob = x) (hb : ∀ (ts : List Tok) (o : Ob) (K : Out → Objs → Prop), K (.ret (.d (.bool (begins ts)))) ((x, o) :: setO ob p (pb ts en S)) → ACall P bf (bfi ++ bca) ((x, o) :: setO ob p (pb ts en S)) K)
  (hr : ∀ (ts : List Tok) (o : Ob) (K : Out → Objs → Prop), PK K ((x, o) :: setO ob p (pb ts en S)) p en S (fun a => .d (enc a)) (read ts) → ACall P rf (rfi ++ rca) ((x, o) :: setO ob p (pb ts en S)) K)
  (h : PK K ob p en S (fun l => .d (.list 4 (l.map enc))) (Xs begins read most ts)) : ACall P 77 [.ptr p [], .d (.int .i64 most), .fn bf bfi bca, .fn rf rfi rca] ob K := by
 subst hx
 refine acall_lift hP mixed Ytg Yu7 TOk.nil fun hv hm => ?_
 have hv1 := V.mens_mono (p := young (fresh ob + 1) []) (q := young (fresh ob) []) (fun j e => by simp [young] at e ⊢; omega) _ (hv [])
 simp at hv1
 simp [Yrc, hp, hS]
 refine ALoop.go (ι := List α × List Tok) (fun j => [(0, .ptr p []), (1, .d (.int .i64 most)), (2, .fn bf bfi bca), (3, .fn rf rfi rca), (8, .sl (fresh ob) j.1.length)])
  (fun j => (fresh ob, .arr 107 4 (j.1.map enc)) :: setO ob p (pb j.2 en S))
  (fun j => j.1.length ≤ most ∧ PK K ob p en S (fun l => .d (.list 4 (l.map enc))) ((Xs begins read (most - j.1.length) >>= fun l => pure (j.1 ++ l)) j.2)) (fun j => most - j.1.length) ([], ts) ⟨by simp, ?_⟩ (by simp) (by simp [Yi hp]) ?_
 ·simp only [List.length_nil, Nat.sub_zero, List.nil_append]
  rw [Xe]
  cases hr : Xs begins read most ts with
  | ok a ts' => rw [hr] at h; exact h
  | err ts' e => rw [hr] at h; exact h
 rintro ⟨l, ts1⟩ ⟨hl, h⟩ R rn re rr rp
 dsimp only at hl h rn
 simp [X64, hp, hS, hbc]
 refine hb _ _ _ ?_
 cases hbg : begins ts1 with
 | false =>
  simp [hp, hS]
  refine re _ _ _ ?_
  have h' : PK K ob p en S (fun l => .d (.list 4 (l.map enc))) (.ok l ts1) := by
   rw [Xe] at h
   cases hn : most - l.length <;> simpa [hn, Xs, hbg] using h
  simp [hp, hS]
  exact Xc hp hm h' (by simp) (by simp [hp])
 | true =>
  by_cases he : l.length = most
  ·simp [he, Xs, hbg, Xe] at h
   simp [hp, hS, he]
   refine Ws hP hS (ts := ts1) (en := en) (S := S) (by simp [hp]) _ ?_
   simp [hp]
   refine rp _ _ _ ?_
   simp
   exact Xc hp hm h (by simp) (by simp [hp])
  ·have hne : ¬ ((l.length : Int) = most) := by omega
   obtain ⟨n, hn⟩ : ∃ n, most - l.length = n + 1 := ⟨most - l.length - 1, by omega⟩
   simp only [hn] at h
   simp only [Xe, Xs, hbg, if_true] at h
   simp [hp, hS, hne, hrc, X7y]
   refine hr _ _ _ ?_
   cases ha : read ts1 with
   | err ts' e =>
    simp only [ha] at h
    simp
    refine rp _ _ _ ?_
    simp
    exact Xc hp hm h (by simp) (by simp [hp])
   | ok a ts' =>
    simp only [ha] at h
    simp [hp, hS, hsh]
    refine ⟨by omega, ?_⟩
    refine rn [] (l ++ [a], ts') _ _ ⟨by simp; omega, ?_⟩ (by simp; omega) (by simp) (by simp [hp]) (by simp [hp, hv1]) ?_
    ·simp only [List.length_append, List.length_singleton, show most - (l.length + 1) = n by omega]
     rw [Xe]
     cases hl2 : Xs begins read n ts' with
     | err ts2 e => simp only [hl2] at h; exact h
     | ok l2 ts2 => simp only [hl2] at h; simpa using h
    ·simp
     refine noMenO_set_box _ _ _ _ _ (Xl _ hm) ?_
     have := Y8 (Xl 1 (l := []) hm) hp
     simpa [pv] using this
theorem X90 {α : Type} {enc : α → D} (hsh : ∀ a, (enc a).shape = .leaf) (begins : List Tok → Bool) (read : M α) (most : Nat) (hmost : most ≤ 1000) (bf rf : Nat) (bfi bca rfi rca : List V) (hbc : Xg P.p bf = true) (hrc : Xg P.p rf = true)
  (x : Nat) (hx : fresh ob = x) (hb : ∀ (ts : List Tok) (o : Ob) (K : Out → Objs → Prop), K (.ret (.d (.bool (begins ts)))) ((x, o) :: setO ob p (pb ts en S)) → ACall P bf (bfi ++ bca) ((x, o) :: setO ob p (pb ts en S)) K)
  (hr : ∀ (ts : List Tok) (o : Ob) (K : Out → Objs → Prop), PK K ((x, o) :: setO ob p (pb ts en S)) p en S (fun a => .d (enc a)) (read ts) → ACall P rf (rfi ++ rca) ((x, o) :: setO ob p (pb ts en S)) K)
  (h : PK K ob p en S (fun l => .d (.list 1 (l.map enc))) (Xs begins read most ts)) : ACall P 176 [.ptr p [], .d (.int .i64 most), .fn bf bfi bca, .fn rf rfi rca] ob K := by
 subst hx
 refine acall_lift hP mixed Yh6 Yky TOk.nil fun hv hm => ?_
 have hv1 := V.mens_mono (p := young (fresh ob + 1) []) (q := young (fresh ob) []) (fun j e => by simp [young] at e ⊢; omega) _ (hv [])
 simp at hv1
 simp [Yj5, hp, hS]
 refine ALoop.go (ι := List α × List Tok) (fun j => [(0, .ptr p []), (1, .d (.int .i64 most)), (2, .fn bf bfi bca), (3, .fn rf rfi rca), (8, .sl (fresh ob) j.1.length)])
  (fun j => (fresh ob, .arr 9 1 (j.1.map enc)) :: setO ob p (pb j.2 en S))
  (fun j => j.1.length ≤ most ∧ PK K ob p en S (fun l => .d (.list 1 (l.map enc))) ((Xs begins read (most - j.1.length) >>= fun l => pure (j.1 ++ l)) j.2)) (fun j => most - j.1.length) ([], ts) ⟨by simp, ?_⟩ (by simp) (by simp [Yi hp]) ?_
 ·simp only [List.length_nil, Nat.sub_zero, List.nil_append]
  rw [Xe]
  cases hr : Xs begins read most ts with
  | ok a ts' => rw [hr] at h; exact h
  | err ts' e => rw [hr] at h; exact h
 rintro ⟨l, ts1⟩ ⟨hl, h⟩ R rn re rr rp
 dsimp only at hl h rn
 simp [X0b, hp, hS, hbc]
 refine hb _ _ _ ?_
 cases hbg : begins ts1 with
 | false =>
  simp [hp, hS]
  refine re _ _ _ ?_
  have h' : PK K ob p en S (fun l => .d (.list 1 (l.map enc))) (.ok l ts1) := by
   rw [Xe] at h
   cases hn : most - l.length <;> simpa [hn, Xs, hbg] using h
  simp [hp, hS]
  exact Xc hp hm h' (by simp) (by simp [hp])
 | true =>
  by_cases he : l.length = most
  ·simp [he, Xs, hbg, Xe] at h
   simp [hp, hS, he]
   refine Ws hP hS (ts := ts1) (en := en) (S := S) (by simp [hp]) _ ?_
   simp [hp]
   refine rp _ _ _ ?_
   simp
   exact Xc hp hm h (by simp) (by simp [hp])
  ·have hne : ¬ ((l.length : Int) = most) := by omega
   obtain ⟨n, hn⟩ : ∃ n, most - l.length = n + 1 := ⟨most - l.length - 1, by omega⟩
   simp only [hn] at h
   simp only [Xe, Xs, hbg, if_true] at h
   simp [hp, hS, hne, hrc, X0f]
   refine hr _ _ _ ?_
   cases ha : read ts1 with
   | err ts' e =>
    simp only [ha] at h
    simp
    refine rp _ _ _ ?_
    simp
    exact Xc hp hm h (by simp) (by simp [hp])
   | ok a ts' =>
    simp only [ha] at h
    simp [hp, hS, hsh]
    refine ⟨by omega, ?_⟩
    refine rn [] (l ++ [a], ts') _ _ ⟨by simp; omega, ?_⟩ (by simp; omega) (by simp) (by simp [hp]) (by simp [hp, hv1]) ?_
    ·simp only [List.length_append, List.length_singleton, show most - (l.length + 1) = n by omega]
     rw [Xe]
     cases hl2 : Xs begins read n ts' with
     | err ts2 e => simp only [hl2] at h; exact h
     | ok l2 ts2 => simp only [hl2] at h; simpa using h
    ·simp
     refine noMenO_set_box _ _ _ _ _ (Xl _ hm) ?_
     have := Y8 (Xl 1 (l := []) hm) hp
     simpa [pv] using this
end
end Go.Proofs.YtanpgmgkmfckaaaGreatDoor
/- Contracts: names with commas, types, fields, dependencies. Condition: the program is the seat's, and its intervals are laid. -/
namespace Go.Proofs.YtanpgmgkmfckaaaGreatDoor
open Go Go.Ab Go.Lx Go.Sx
set_option maxRecDepth 100000
attribute [local simp ↓] ql qn qo qi qh qj qk qm zt zp zr zu zq zl zm zk zo zn qq qp qw qx zg qy qv qr zh qu qt qs qz zb za zd ze zf zx zw zz zy qb qa qd qc qe qg qf zj zi
section
variable {P : Prg} (hP : P.p = Tryz.prog) {ob : Objs} {p : Nat} {ts : List Tok} {en : Int} {S : V} (hS : V.allD [S] = none) (hp : lookO ob p = some (pb ts en S)) {K : Out → Objs → Prop}
include hP
theorem V4 : Xg P.p 175 = true ∧ Xg P.p 177 = true ∧ Xg P.p 137 = true ∧ Xg P.p 70 = true ∧ Xg P.p 72 = true ∧ Xg P.p 74 = true ∧ Xg P.p 76 = true ∧ Xg P.p 78 = true := by
 rw [hP]; exact ⟨by kernel_rfl, by kernel_rfl, by kernel_rfl, by kernel_rfl, by kernel_rfl, by kernel_rfl, by kernel_rfl, by kernel_rfl⟩
include hS hp
theorem Xw8 {b1 : Nat} (h1 : lookO ob b1 = some (.box 63 (.ptr p []))) (h : K (.ret (.d (.bool (Xh 3 [44] ts)))) (setO ob p (pb ts en S))) : ACall P 175 [.ptr b1 []] ob K := by
 refine acall_lift hP mixed Yim Yh8 TOk.nil fun _ hm => ?_
 simp [Yg2, hp, h1]
 refine Q5 hP hS hp _ _ ?_
 simp [hp]
 exact Xc hp hm h (by simp) (by simp [hp])
theorem Xs9 {b1 : Nat} (h1 : lookO ob b1 = some (.box 63 (.ptr p []))) (h : PK K ob p en S (fun a => .d (.str a)) ((do X3 [44]; X8 : M B) ts)) : ACall P 177 [.ptr b1 []] ob K := by
 have hbp : (b1 == p) = false := by rw [beq_eq_false_iff_ne]; intro e; subst e; rw [h1] at hp; cases hp
 have hpb : (p == b1) = false := by rw [beq_eq_false_iff_ne]; intro e; subst e; rw [h1] at hp; cases hp
 refine acall_lift hP mixed Yhv Yhx TOk.nil fun _ hm => ?_
 simp [Yiy, hp, h1]
 refine Yf hP hS hp _ (PK.bind h (fun ts' e h => ?_) (fun a ts' ha h => ?_))
 ·simp
  exact Xc hp hm h (by simp) (by simp [hp])
 simp [hp, h1, hbp, hpb]
 refine Zc hP hS (by simp [hp]) (PK.tail h (fun ts' e h => ?_) (fun a ts' ha h => ?_))
 ·simp
  exact Xc hp hm h (by simp) (by simp [hp])
 simp [hp, h1]
 exact Xc hp hm h (by simp) (by simp [hp])
theorem Xo3 (most : Nat) (h0 : 1 ≤ most) (hmost : most ≤ 1000) (h : PK K ob p en S (fun l => .d (Xf l)) (Vm most ts)) : ACall P 136 [.ptr p [], .d (.int .i64 most)] ob K := by
 refine acall_lift hP mixed Yjg Yjr TOk.nil fun _ hm => ?_
 simp [Yhz, hp, hS]
 refine Zc hP hS (by simp [hp]) (PK.bind h (fun ts' e h => ?_) (fun a ts' ha h => ?_))
 ·simp
  exact Xc hp hm h (by simp) (by simp [hp])
 simp [hp, hS]
 have hw : IntKind.i64.wrap ((most : Int) - 1) = ((most - 1 : Nat) : Int) := by rw [IntWalk.i64_in _ (by omega)]; omega
 rw [hw]
 refine X90 hP hS (by simp [hp]) (enc := D.str) (fun _ => rfl) (Xh 3 [44]) (do X3 [44]; X8) (most - 1) (by omega) _ _ [] _ [] _ (V4 hP).1 (V4 hP).2.1 _ rfl (fun ts o K h => ?_) (fun ts o K h => ?_) (PK.bind h (fun ts' e h => ?_) (fun l ts' ha h => ?_))
 ·exact Xw8 hP hS (p := p) (ts := ts) (en := en) (by simp [hp]) (by simp [hp]) (by simpa [hp] using h)
 ·exact Xs9 hP hS (p := p) (ts := ts) (en := en) (by simp [hp]) (by simp [hp]) (by simpa [hp] using h)
 ·simp [hp]
  exact Xc hp hm h (by simp) (by simp [hp])
 have hl := Xc9 ha
 simp [hp, show 1 + l.length = l.length + 1 by omega]
 refine ⟨by omega, ?_⟩
 exact Xc hp hm h (by simp) (by simp [hp])
theorem Yfh (hI : Ivl P) (h : PK K ob p en S (fun x => .d x.enc) (Xdm ts)) : ACall P 135 [.ptr p []] ob K := by
 refine acall_lift hP mixed Yg8 Yg1 TOk.nil fun _ hm => ?_
 simp [Yhu, hp, hS, hI.factors, hI.editions, hI.mosts, hI.weights, hI.anyN]
 refine Y6 hP hS (by simp [hp]) _ _ (PK.bind h (fun ts' e h => ?_) (fun a ts' ha h => ?_))
 ·simp
  exact Xc hp hm h (by simp) (by simp [hp])
 cases a
 ·skip
  simp only [Bool.false_eq_true, if_false, if_true, Xt, Yr] at h
  simp [hp, hS, hI.factors, hI.editions, hI.mosts, hI.weights, hI.anyN]
  refine Y6 hP hS (by simp [hp]) _ _ (PK.bind h (fun ts' e h => ?_) (fun a ts' ha h => ?_))
  ·simp
   exact Xc hp hm h (by simp) (by simp [hp])
  cases a
  ·skip
   simp only [Bool.false_eq_true, if_false, if_true, Xt, Yr] at h
   simp [hp, hS, hI.factors, hI.editions, hI.mosts, hI.weights, hI.anyN]
   refine Y6 hP hS (by simp [hp]) _ _ (PK.bind h (fun ts' e h => ?_) (fun a ts' ha h => ?_))
   ·simp
    exact Xc hp hm h (by simp) (by simp [hp])
   cases a
   ·skip
    simp only [Bool.false_eq_true, if_false, if_true, Xt, Yr] at h
    simp [hp, hS, hI.factors, hI.editions, hI.mosts, hI.weights, hI.anyN]
    refine Y6 hP hS (by simp [hp]) _ _ (PK.bind h (fun ts' e h => ?_) (fun a ts' ha h => ?_))
    ·simp
     exact Xc hp hm h (by simp) (by simp [hp])
    cases a
    ·skip
     simp only [Bool.false_eq_true, if_false, if_true, Xt, Yr] at h
     simp [hp, hS, hI.factors, hI.editions, hI.mosts, hI.weights, hI.anyN]
     refine Ws hP hS (ts := ts') (en := en) (S := S) (by simp [hp]) _ ?_
     simp [hp]
     exact Xc hp hm h (by simp) (by simp [hp])
    ·skip
     simp only [Bool.false_eq_true, if_false, if_true, Xt, Yr] at h
     simp [hp, hS, hI.factors, hI.editions, hI.mosts, hI.weights, hI.anyN]
     refine Xo3 hP hS (by simp [hp]) 16 (by decide) (by decide) (PK.bind h (fun ts' e h => ?_) (fun l ts' ha h => ?_))
     ·simp
      exact Xc hp hm h (by simp) (by simp [hp])
     have hl := Xj8 ha
     have hw : IntKind.i64.wrap ((l.length : Int) - 1) = (l.length : Int) - 1 := IntWalk.i64_in _ (by omega)
     simp [hp, hS, Xf, hw, Jl]
     exact Xc hp hm h (by simp) (by simp [hp])
   ·skip
    simp only [Bool.false_eq_true, if_false, if_true, Xt, Yr] at h
    simp [hp, hS, hI.factors, hI.editions, hI.mosts, hI.weights, hI.anyN, Jl]
    exact Xc hp hm h (by simp) (by simp [hp])
  ·skip
   simp only [Bool.false_eq_true, if_false, if_true, Xt, Yr] at h
   simp [hp, hS, hI.factors, hI.editions, hI.mosts, hI.weights, hI.anyN, Jl]
   exact Xc hp hm h (by simp) (by simp [hp])
 ·skip
  simp only [Bool.false_eq_true, if_false, if_true, Xt, Yr] at h
  simp [hp, hS, hI.factors, hI.editions, hI.mosts, hI.weights, hI.anyN]
  refine Zf hP hS (by simp [hp]) _ _ (PK.bind h (fun ts' e h => ?_) (fun a ts' ha h => ?_))
  ·simp
   exact Xc hp hm h (by simp) (by simp [hp])
  simp [hp, hS, hI.factors, hI.editions, hI.mosts, hI.weights, hI.anyN]
  refine Zu hP hS (by simp [hp]) _ (PK.bind h (fun ts' e h => ?_) (fun a ts' ha h => ?_))
  ·simp
   exact Xc hp hm h (by simp) (by simp [hp])
  simp [hp, hS, hI.factors, hI.editions, hI.mosts, hI.weights, hI.anyN]
  refine Zf hP hS (by simp [hp]) _ _ (PK.bind h (fun ts' e h => ?_) (fun a ts' ha h => ?_))
  ·simp
   exact Xc hp hm h (by simp) (by simp [hp])
  simp [hp, hS, hI.factors, hI.editions, hI.mosts, hI.weights, hI.anyN]
  refine Y6 hP hS (by simp [hp]) _ _ (PK.bind h (fun ts' e h => ?_) (fun a ts' ha h => ?_))
  ·simp
   exact Xc hp hm h (by simp) (by simp [hp])
  cases a
  ·skip
   simp only [Bool.false_eq_true, if_false, if_true, Xt, Yr] at h
   simp [hp, hS, hI.factors, hI.editions, hI.mosts, hI.weights, hI.anyN, Jl]
   exact Xc hp hm h (by simp) (by simp [hp])
  ·skip
   simp only [Bool.false_eq_true, if_false, if_true, Xt, Yr] at h
   simp [hp, hS, hI.factors, hI.editions, hI.mosts, hI.weights, hI.anyN]
   refine Zc hP hS (by simp [hp]) (PK.bind h (fun ts' e h => ?_) (fun a ts' ha h => ?_))
   ·simp
    exact Xc hp hm h (by simp) (by simp [hp])
   simp [hp, hS, hI.factors, hI.editions, hI.mosts, hI.weights, hI.anyN, Jl]
   exact Xc hp hm h (by simp) (by simp [hp])
theorem X8j (hI : Ivl P) (h : PK K ob p en S (fun x => .d x.enc) (Jn ts)) : ACall P 66 [.ptr p []] ob K := by
 refine acall_lift hP mixed Yss Yuo TOk.nil fun _ hm => ?_
 simp [Ytz, hp, hS, hI.factors, hI.editions, hI.mosts, hI.weights, hI.anyN]
 refine Zu hP hS (by simp [hp]) _ (PK.bind h (fun ts' e h => ?_) (fun a ts' ha h => ?_))
 ·simp
  exact Xc hp hm h (by simp) (by simp [hp])
 simp [hp, hS, hI.factors, hI.editions, hI.mosts, hI.weights, hI.anyN]
 refine Zc hP hS (by simp [hp]) (PK.bind h (fun ts' e h => ?_) (fun a ts' ha h => ?_))
 ·simp
  exact Xc hp hm h (by simp) (by simp [hp])
 simp [hp, hS, hI.factors, hI.editions, hI.mosts, hI.weights, hI.anyN]
 refine Yf hP hS (by simp [hp]) _ (PK.bind h (fun ts' e h => ?_) (fun a ts' ha h => ?_))
 ·simp
  exact Xc hp hm h (by simp) (by simp [hp])
 simp [hp, hS, hI.factors, hI.editions, hI.mosts, hI.weights, hI.anyN]
 refine Yfh hP hS (by simp [hp]) hI (PK.bind h (fun ts' e h => ?_) (fun a ts' ha h => ?_))
 ·simp
  exact Xc hp hm h (by simp) (by simp [hp])
 simp [hp, hS, hI.factors, hI.editions, hI.mosts, hI.weights, hI.anyN]
 refine Xhx hP hS (by simp [hp]) hI (PK.bind h (fun ts' e h => ?_) (fun l ts' ha h => ?_))
 ·simp
  exact Xc hp hm h (by simp) (by simp [hp])
 obtain ⟨a0, b0, c0, d0, rfl⟩ := Uh ha
 simp [hp, hS]
 refine Yf hP hS (by simp [hp]) _ (PK.bind h (fun ts' e h => ?_) (fun a ts' ha h => ?_))
 ·simp
  exact Xc hp hm h (by simp) (by simp [hp])
 simp [hp, hS, hI.factors, hI.editions, hI.mosts, hI.weights, hI.anyN]
 exact Xc hp hm h (by simp) (by simp [hp])
theorem X1t (h : PK K ob p en S (fun x => .d x.enc) (Xab ts)) : ACall P 67 [.ptr p []] ob K := by
 refine acall_lift hP mixed Yt7 Ytt TOk.nil fun _ hm => ?_
 simp [Ys5, hp, hS]
 refine Zu hP hS (by simp [hp]) _ (PK.bind h (fun ts' e h => ?_) (fun a ts' ha h => ?_))
 ·simp
  exact Xc hp hm h (by simp) (by simp [hp])
 simp [hp, hS]
 refine Xo3 hP hS (by simp [hp]) 11 (by decide) (by decide) (PK.bind h (fun ts' e h => ?_) (fun l ts' ha h => ?_))
 ·simp
  exact Xc hp hm h (by simp) (by simp [hp])
 simp [hp, hS, Xf]
 refine Zu hP hS (by simp [hp]) _ (PK.bind h (fun ts' e h => ?_) (fun a ts' ha h => ?_))
 ·simp
  exact Xc hp hm h (by simp) (by simp [hp])
 simp [hp, hS]
 refine Zc hP hS (by simp [hp]) (PK.bind h (fun ts' e h => ?_) (fun a ts' ha h => ?_))
 ·simp
  exact Xc hp hm h (by simp) (by simp [hp])
 simp [hp, hS]
 refine Yf hP hS (by simp [hp]) _ (PK.bind h (fun ts' e h => ?_) (fun a ts' ha h => ?_))
 ·simp
  exact Xc hp hm h (by simp) (by simp [hp])
 simp [hp, hS]
 exact Xc hp hm h (by simp) (by simp [hp])
end
end Go.Proofs.YtanpgmgkmfckaaaGreatDoor
/- Contracts: the definitions. Condition: the program is the seat's, and its intervals are laid. -/
namespace Go.Proofs.YtanpgmgkmfckaaaGreatDoor
open Go Go.Ab Go.Lx Go.Sx
set_option maxRecDepth 100000
attribute [local simp ↓] ql qn qo qi qh qj qk qm zt zp zr zu zq zl zm zk zo zn qq qp qw qx zg qy qv qr zh qu qt qs qz zb za zd ze zf zx zw zz zy qb qa qd qc qe qg qf zj zi
section
variable {P : Prg} (hP : P.p = Tryz.prog) (hI : Ivl P) {ts : List Tok} {en : Int} {s : Src} (hs : Few s) {K : Out → Objs → Prop}
include hP hI hs
theorem X0e (h : PS K en (Qf s ts)) : ACall P 19 [.ptr 4 []] (stO en ts s) K := by
 refine acall_lift hP mixed Yu5 Ytw TOk.nil fun _ hm => ?_
 simp [Yux, hI.factors, hI.editions, hI.mosts, hI.weights, hI.anyN]
 refine Xaw hP (S := Yy s) (by simp) (by simp) _ 8 (PS.bind h (fun ts' e h => ?_) (fun a ts' ha h => ?_))
 ·simp
  exact Xj (h s) (by simp) (by simp [young])
 simp [hI.factors, hI.editions, hI.mosts, hI.weights, hI.anyN]
 refine Zu hP (S := Yy s) (by simp) (by simp) _ (PS.bind h (fun ts' e h => ?_) (fun a ts' ha h => ?_))
 ·simp
  exact Xj (h s) (by simp) (by simp [young])
 simp [hI.factors, hI.editions, hI.mosts, hI.weights, hI.anyN]
 refine ⟨?_, ?_⟩
 ·skip
  refine Zc hP (S := Yy s) (by simp) (by simp) (PS.bind h (fun ts' e h => ?_) (fun a ts' ha h => ?_))
  ·simp
   exact Xj (h s) (by simp) (by simp [young])
  simp [hI.factors, hI.editions, hI.mosts, hI.weights, hI.anyN]
  refine ⟨by have := hs.issuers; omega, ?_⟩
  refine Yf hP (S := Yy { s with issuers := s.issuers ++ [a] }) (by simp) (by simp) _ (PS.bind h (fun ts' e h => ?_) (fun a ts' ha h => ?_))
  ·simp
   exact Xj (h { s with issuers := s.issuers ++ [a] }) (by simp) (by simp [young])
  simp [hI.factors, hI.editions, hI.mosts, hI.weights, hI.anyN]
  exact Xj h (by simp) (by simp)
 ·skip
  refine Zc hP (S := Yy s) (by simp) (by simp) (PS.bind h (fun ts' e h => ?_) (fun a ts' ha h => ?_))
  ·simp
   exact Xj (h s) (by simp) (by simp [young])
  simp [hI.factors, hI.editions, hI.mosts, hI.weights, hI.anyN]
  refine ⟨by have := hs.issuers; omega, ?_⟩
  refine Yf hP (S := Yy { s with issuers := s.issuers ++ [a] }) (by simp) (by simp) _ (PS.bind h (fun ts' e h => ?_) (fun a ts' ha h => ?_))
  ·simp
   exact Xj (h { s with issuers := s.issuers ++ [a] }) (by simp) (by simp [young])
  simp [hI.factors, hI.editions, hI.mosts, hI.weights, hI.anyN]
  exact Xj h (by simp) (by simp)
end
end Go.Proofs.YtanpgmgkmfckaaaGreatDoor
/- Contracts: the definitions. Condition: the program is the seat's, and its intervals are laid. -/
namespace Go.Proofs.YtanpgmgkmfckaaaGreatDoor
open Go Go.Ab Go.Lx Go.Sx
set_option maxRecDepth 100000
attribute [local simp ↓] ql qn qo qi qh qj qk qm zt zp zr zu zq zl zm zk zo zn qq qp qw qx zg qy qv qr zh qu qt qs qz zb za zd ze zf zx zw zz zy qb qa qd qc qe qg qf zj zi
section
variable {P : Prg} (hP : P.p = Tryz.prog) (hI : Ivl P) {ts : List Tok} {en : Int} {s : Src} (hs : Few s) {K : Out → Objs → Prop}
include hP hI hs
theorem Yb9 (h : PS K en (Xln s ts)) : ACall P 20 [.ptr 4 []] (stO en ts s) K := by
 refine acall_lift hP mixed Yq4 Yvq TOk.nil fun _ hm => ?_
 simp [Ysq, hI.factors, hI.editions, hI.mosts, hI.weights, hI.anyN]
 refine Xaw hP (S := Yy s) (by simp) (by simp) _ 16 (PS.bind h (fun ts' e h => ?_) (fun a ts' ha h => ?_))
 ·simp
  exact Xj (h s) (by simp) (by simp [young])
 simp [hI.factors, hI.editions, hI.mosts, hI.weights, hI.anyN]
 refine Zu hP (S := Yy s) (by simp) (by simp) _ (PS.bind h (fun ts' e h => ?_) (fun a ts' ha h => ?_))
 ·simp
  exact Xj (h s) (by simp) (by simp [young])
 simp [hI.factors, hI.editions, hI.mosts, hI.weights, hI.anyN]
 refine Zc hP (S := Yy s) (by simp) (by simp) (PS.bind h (fun ts' e h => ?_) (fun a ts' ha h => ?_))
 ·simp
  exact Xj (h s) (by simp) (by simp [young])
 simp [hI.factors, hI.editions, hI.mosts, hI.weights, hI.anyN]
 refine Y6 hP (S := Yy s) (by simp) (by simp) _ _ (PS.bind h (fun ts' e h => ?_) (fun a ts' ha h => ?_))
 ·simp
  exact Xj (h s) (by simp) (by simp [young])
 cases a
 ·skip
  simp only [Bool.false_eq_true, if_false, if_true, Xt, Yr] at h
  simp [hI.factors, hI.editions, hI.mosts, hI.weights, hI.anyN, Xxg]
  refine Yf hP (S := Yy s) (by simp) (by simp) _ (PS.bind h (fun ts' e h => ?_) (fun a ts' ha h => ?_))
  ·simp
   exact Xj (h s) (by simp) (by simp [young])
  simp [hI.factors, hI.editions, hI.mosts, hI.weights, hI.anyN]
  refine ⟨by have := hs.units; omega, ?_⟩
  exact Xj h (by simp) (by simp [young, UnitT.enc])
 ·skip
  simp only [Bool.false_eq_true, if_false, if_true, Xt, Yr] at h
  simp [hI.factors, hI.editions, hI.mosts, hI.weights, hI.anyN]
  refine Zf hP (S := Yy s) (by simp) (by simp) _ _ (PS.bind h (fun ts' e h => ?_) (fun a ts' ha h => ?_))
  ·simp
   exact Xj (h s) (by simp) (by simp [young])
  simp [hI.factors, hI.editions, hI.mosts, hI.weights, hI.anyN]
  refine Zc hP (S := Yy s) (by simp) (by simp) (PS.bind h (fun ts' e h => ?_) (fun a ts' ha h => ?_))
  ·simp
   exact Xj (h s) (by simp) (by simp [young])
  simp [hI.factors, hI.editions, hI.mosts, hI.weights, hI.anyN, Xxg]
  refine Yf hP (S := Yy s) (by simp) (by simp) _ (PS.bind h (fun ts' e h => ?_) (fun a ts' ha h => ?_))
  ·simp
   exact Xj (h s) (by simp) (by simp [young])
  simp [hI.factors, hI.editions, hI.mosts, hI.weights, hI.anyN]
  refine ⟨by have := hs.units; omega, ?_⟩
  exact Xj h (by simp) (by simp [young, UnitT.enc])
end
end Go.Proofs.YtanpgmgkmfckaaaGreatDoor
/- The abstract statements that stand for the code of these functions, written by a program from the translation; that they do is checked by the kernel. No condition. -/
namespace Go.Proofs.YtanpgmgkmfckaaaGreatDoor
open Go Go.Ab
set_option maxRecDepth 100000
def Ybb : Nat := 0x440c20c71840c2142e2c041e2c3070080b8783000
def X55 : Nat := 0x100a0c40c20c81c610308643a0eddec099347002000dac1040c20f62071840c21f5b01badb08083b74b0c0c0b7dcec001040b7dcac000080b7d003b71b04180b7dc2c001040b7dbec000080b7dbac140b7d1c002df6cb00ac141c22c78c0000821030832071840c21aa25ea6200800255da000419c1042003b661069400419000028c51c01802800020450070e11040c20e11c6103086003b603c37c47800417400027051dd786000082
def Yb3 : S := zS [(zS [] Ybb)] X55
def ir9 : FSt := .pre (.rg [] [.op (some 2) (.alloc 30 (.agg [.nils, .nils, .nils, .nils, .nils, .nils])),
   .op (some 3) (.alloc 3 (.int .i64 0)),
   .op (some 4) (.alloc 31 (.int .i64 0))] [0, 2, 3, 4] [])
 (.pre (.rg [] [.op (some 10) (.c (.mv (.t 0))),
   .op (some 11) (.pcall 15 [(.t 10)]),
   .op (some 9) (.c (.mv (.t 11))),
   .op (some 12) (.c (.ext (.t 9) 0)),
   .op (some 13) (.c (.ext (.t 9) 1)),
   .op (some 14) (.c (.ext (.t 9) 2)),
   .op (some 5) (.c (.mv (.t 12))),
   .op none (.st 1 (.t 3) (.t 13)),
   .op none (.st 1 (.t 4) (.t 14))] [0, 2, 3, 4, 5] [])
 (.pre (.seq (.rg [] [.op (some 15) (.c (.ld 1 false (.t 4))),
   .op (some 16) (.c (.bin .neq (.t 15) (.int .i64 0)))] [0, 2, 3, 4, 5, 16] [])
 (.cond (.t 16) (.seq (.rgT 6 (.one 0 (.op (some 17) (.c (.ld 6 true (.t 2))))
  (.br (.cons 1 (.op (some 18) (.c (.ld 1 false (.t 3)))) (.br (.cons 2 (.op (some 19) (.c (.ld 1 false (.t 4)))) (.one 3 (.op none (.st 6 (.t 2) (.t 17)))
  (.one 4 (.op none (.st 1 (.t 3) (.t 18)))
  (.one 5 (.op none (.st 1 (.t 4) (.t 19)))
  (.done))))
  (.cons 3 (.op none (.st 6 (.t 2) (.t 17))) (.br (.cons 2 (.op (some 19) (.c (.ld 1 false (.t 4)))) (.one 4 (.op none (.st 1 (.t 3) (.t 18)))
  (.one 5 (.op none (.st 1 (.t 4) (.t 19)))
  (.done)))
  (.cons 4 (.op none (.st 1 (.t 3) (.t 18))) (.br (.cons 2 (.op (some 19) (.c (.ld 1 false (.t 4)))) (.one 5 (.op none (.st 1 (.t 4) (.t 19)))
  (.done))
  (.nil)))
  (.nil))))
  (.nil))))
  (.cons 2 (.op (some 19) (.c (.ld 1 false (.t 4)))) (.br (.cons 1 (.op (some 18) (.c (.ld 1 false (.t 3)))) (.one 3 (.op none (.st 6 (.t 2) (.t 17)))
  (.one 4 (.op none (.st 1 (.t 3) (.t 18)))
  (.one 5 (.op none (.st 1 (.t 4) (.t 19)))
  (.done))))
  (.cons 3 (.op none (.st 6 (.t 2) (.t 17))) (.br (.cons 1 (.op (some 18) (.c (.ld 1 false (.t 3)))) (.one 4 (.op none (.st 1 (.t 3) (.t 18)))
  (.one 5 (.op none (.st 1 (.t 4) (.t 19)))
  (.done)))
  (.nil)))
  (.nil))))
  (.cons 3 (.op none (.st 6 (.t 2) (.t 17))) (.br (.cons 1 (.op (some 18) (.c (.ld 1 false (.t 3)))) (.br (.cons 2 (.op (some 19) (.c (.ld 1 false (.t 4)))) (.one 4 (.op none (.st 1 (.t 3) (.t 18)))
  (.one 5 (.op none (.st 1 (.t 4) (.t 19)))
  (.done)))
  (.cons 4 (.op none (.st 1 (.t 3) (.t 18))) (.br (.cons 2 (.op (some 19) (.c (.ld 1 false (.t 4)))) (.one 5 (.op none (.st 1 (.t 4) (.t 19)))
  (.done))
  (.nil)))
  (.nil))))
  (.cons 2 (.op (some 19) (.c (.ld 1 false (.t 4)))) (.br (.cons 1 (.op (some 18) (.c (.ld 1 false (.t 3)))) (.one 4 (.op none (.st 1 (.t 3) (.t 18)))
  (.one 5 (.op none (.st 1 (.t 4) (.t 19)))
  (.done)))
  (.nil)))
  (.nil))))
  (.nil)))))) [2, 3, 4] [])
 (.ret)) (.skip)))
 (.dfr [.op (some 20) (.c (.mkf 18 [] [(.t 2), (.t 3), (.t 4)]))] [0, 2, 3, 4, 5, 20] 20
 (.seq (.rg [] [.op (some 21) (.mkm none),
   .op none (.mset (.str []) (.t 21) (.str [105, 115, 115, 117, 101, 114]) (.fn 19)),
   .op none (.mset (.str []) (.t 21) (.str [117, 110, 105, 116]) (.fn 20)),
   .op none (.mset (.str []) (.t 21) (.str [115, 99, 104, 101, 109, 97]) (.fn 21)),
   .op none (.mset (.str []) (.t 21) (.str [100, 101, 114, 105, 118, 101]) (.fn 22)),
   .op none (.mset (.str []) (.t 21) (.str [99, 111, 110, 118, 101, 114, 116]) (.fn 23)),
   .op none (.mset (.str []) (.t 21) (.str [112, 117, 114, 112, 111, 115, 101]) (.fn 24)),
   .op (some 22) (.c (.mv (.t 21))),
   .op (some 6) (.c (.mv (.t 22)))] [0, 2, 3, 4, 5, 6] [2, 3, 4])
 (.seq (.rg [] [.op (some 23) (.c (.mv (.t 5))),
   .op (some 24) (.c (.mv (.t 0))),
   .op (some 25) (.c (.lenS (.t 24))),
   .op (some 26) (.c (.bld [.nils, .int .i64 0, .agg [.nils, .nils, .nils, .nils, .nils, .nils]] [(0, (.t 23)), (1, (.t 25))])),
   .op (some 27) (.box 66 (.t 26)),
   .op (some 7) (.mvn (.t 27) (.t 27) [(9, 1, [2, 0]), (74, 5, [2, 1]), (79, 6, [2, 2]), (50, 5, [2, 3]), (84, 5, [2, 4]), (88, 3, [2, 5])])] [2, 3, 4, 6, 7] [2, 3, 4])
 (.seq (.block 0 (.loop [2, 3, 4, 6, 7] Yb3))
 (.seq (.rg [] [.op (some 60) (.c (.mv (.t 7))),
   .op (some 61) (.c (.nilc (.t 60))),
   .op (some 62) (.c (.fldA 2 2 (.t 61))),
   .op (some 63) (.ldf 6 true (.t 62)),
   .op none (.st 6 (.t 2) (.t 63)),
   .op none (.st 1 (.t 3) (.int .i64 0)),
   .op none (.st 1 (.t 4) (.int .i64 0))] [2, 3, 4] [2, 3, 4])
 (.ret))))))))
theorem ok9 : Xr3 Tryz.prog 9 1 ir9 [.c 2 6 true, .c 3 1 false, .c 4 1 false] = true := by kernel_rfl
def Ydj : Nat := 0x1002002002e2c0f8b01507042104086041e2cdac0392e5e03e2d141d6c001ddf041080e2c0010030040450c00c00020030000c00030060050020c014100b484002e2c0f8b01507042104086041e2cdac0392e5e0f141038b000400c01011430030000800c00030000c01801400830050402c2e30101d6c001ddf0420b7b012b8343002e2c0f8b01507042104086041e2cdac0392e5e0f141038b000400c01011430030000800c00030000c01801400830050402d2101dec04ae01e2b0c1d6c001ddf042080038782042104da0001201
def X3n : Nat := 0x40080080478b12e2c0541c1085142181438b0de2c438128e12e2d141338b0004ee1f04108fe2c0010030030020c4005040112100478b12e2c0541c1085142181438b0de2c438128e0f1413f8b000400c00c0083100141004478c0404ce2c0013b87c10823b8b012f8343011e2c4b8b01507042145086050e2c378b10e04a383c504fe2c0010030030020c40050401121013b8b012f8438ac304ce2c0013b87c108200fe1e08108514de20001201
def Xun : Nat := 0x40080090e83b6b099340b1e0800002800800900ed2b8b07e2c0c2e0d278b04238b00041085142008e1e140002138b04
def Xto : Nat := 0x412801380800c6e2c178784385405106bc20ed178b032783401b87830000802800800980edcecc2c0c2e0dcac131b000410841020317850000adb04
def X38 : Nat := 0x401c3a84
def Xt2 : Nat := 0x100a02d0800efb2e78430524616f083b6eb03278340bde0c0002085045
def Xyw : Nat := 0x104a00a02a0800e925d06f183b680c6e0d029783000082
def Xzg : Nat := 0x400006f8b1ee2c054301778b020822c1738b020822814f8b052416b8b18e2ca38197e1ce2d2015f8b00059e1f141099e2c0010c30030000c000200218014100648701be2c7b8b0150c05de2c08208b05ce2c08208a053e2c14905ae2c638b28e065f83c8059e2c0010c30030000c00020021801410066f8c07057e2c0016787c508208118f6b8ec601be2c7b8b0150c05de2c08208b05ce2c08208a053e2c14905ae2c638b28e065f83c8059e2c0010c30030000c00020021801410064870420463dd1815f8b00041142096e2c082084055e2c082083054e2c14204000104053878004d040282002180142
def Xwh : Nat := 0x100a0020026c1be6085e0d141080128e107420000800800a49415021040a30010030040450c00c00020030000c00030060050020c014100b9784c304b91f100002
def Xs8 : Nat := 0x100a0030800e18845031c20a0048e0d0217840000800c20037c32d40030040450c00c00020030000c00030060050020c0165e04b9e0463054c4bc00800c01011430030000800c00030000c018014008300a001ffef43b42183b400830030000800c00030000c01807e8100002
def Xlj : Nat := 0x100a00200218c15312f7020f834075e080002
def Xma : Nat := 0x4028008009a6c15020c30996021f8347fbc0c008300200504205774065e140002
def Xju : Nat := 0x4028008008e3c94d21561ef5820f83405de080002
def Xnw : Nat := 0x100a0020025150540810424c113834051e100002
def Xnz : Nat := 0x100a0020026420af4420f834049e080002
def Xlb : Nat := 0x402800800900865030c00c00030000800860055f80ee3c00430c00c000300008008600a3811383403de140002
def Xk1 : Nat := 0x4028000104d1480d31af3020f834035e080002
def n21 : Nat := 0x40280001803b4a1030b834910800104708208608208514000015e200002
def Ylm : S := zS [(zS [(zS [(zS [(zS [(zS [(zS [(zS [(zS [(zS [(zS [(zS [(zS [] X38), (zS [(zS [(zS [] Ydj), (zS [(zS [] X3n)] Xun)] Xto)] Xt2)] Xyw)] Xzg)] Xwh)] Xs8)] Xlj)] Xma)] Xju)] Xnw)] Xnz)] Xlb)] Xk1)] n21
theorem Yq8 : Xv Tryz.prog 21 1 Ylm [] = true := by kernel_rfl
def X4k : Nat := 0x1000dac078b01500e2c0c30b7b02082bac175b33b28e05c8fd2c0010c30c00c0002140141005482045072b00041c6c0c30b0b02082bec140000bde34c2ca2481c61440c2040340
def Xty : Nat := 0x100a002002741becb02178340b5e080002
def Xwg : Nat := 0x100a002002aab054084102a67583b65111e0d028052e1c7000141530ef98237834000099e200002
def Xxj : Nat := 0x100a0020028e40540830c28a0403b5e10fe0d021050e1c70000548521716f7c23783400007de200002
def Xvw : Nat := 0x4028008009c74150208209b6460ed5c43383406813b871c00034f48612f60237834000061e200002
def X5v : Nat := 0x4300200243a0ed54264d016782000504
def Xyb : Nat := 0x412802805020034c934f48612f083b520c9e0d013783000082
def Xur : Nat := 0x4028008009b06f40217834045e080002
def Xvx : Nat := 0x100a0020023c21540c30c00c00021401720ee3800430c300300008500a34113834039e140002
def Xxy : Nat := 0x402800011562521441af2c20f834031e080002
def n22 : Nat := 0x40280001803b490c30b83481070010460c308508208414000011e200002
def Yqd : S := zS [(zS [(zS [(zS [(zS [(zS [] X5v), (zS [(zS [(zS [(zS [(zS [] X4k)] Xty)] Xwg)] Xxj)] Xvw)] Xyb)] Xur)] Xvx)] Xxy)] n22
theorem Yuh : Xv Tryz.prog 22 1 Yqd [] = true := by kernel_rfl
def X3p : Nat := 0x1000a2b054a84102a420828059e543815ce0f9800430030000c00020021401410054820450640010631040a20820a114000085e34c2ca2481c61440c2040340
def Xxp : Nat := 0x4028008009d06f7821783407de080002
def Xvg : Nat := 0x4028008009c74150210409b6560ed5c44f834068153871c00002f60237834000061e200002
def Xv6 : Nat := 0x4028008009b06f54217834059e080002
def Xwo : Nat := 0x100a0020024d40540810424811383404de100002
def Xx3 : Nat := 0x100a0020023d40af4020f834045e080002
def Xx6 : Nat := 0x4028008008f0855030030000c000200214015ce03b8e0010c00c000300008008500a34113834039e140002
def Xxl : Nat := 0x100a00005448558e3c31ef2c20f834031e080002
def n23 : Nat := 0x40280001803b490c30b834810700104610408508208414000011e200002
def Ypo : S := zS [(zS [(zS [(zS [(zS [(zS [(zS [(zS [(zS [] X3p)] Xxp)] Xvg)] Xv6)] Xwo)] Xx3)] Xx6)] Xxl)] n23
theorem Yso : Xv Tryz.prog 23 1 Ypo [] = true := by kernel_rfl
def X5z : Nat := 0x4002bbac054b6c1450acb020828c5aa8c038383e90010030030020c01410034820430670010661450a50820a414000091e34c2ca2481c61440c2040340
def Xys : Nat := 0x4028008009d06f84217834089e080002
def Xt5 : Nat := 0x100a002002ef006f7c217834081e080002
def Xsi : Nat := 0x100a00200275e05408208271b087e0d2380c000300200504209774071e140002
def Xym : Nat := 0x100a0020025133cd12f6420f834069e080002
def Xx7 : Nat := 0x40280080097601502041096508e03b52115e0d015056e1c70001904d0ef4c23783400004de200002
def Xyi : Nat := 0x4028008009b06f40217834045e080002
def Xwj : Nat := 0x4028008008f0835000c00c00830058380ee3800400c00c008300a34113834039e140002
def Xxk : Nat := 0x100a0000454cf4125501ef2c20f834031e080002
def n24 : Nat := 0x40280001403b490c30b834810700104614508508208414000011e200002
def Yn8 : S := zS [(zS [(zS [(zS [(zS [(zS [(zS [(zS [(zS [(zS [] X5z)] Xys)] Xt5)] Xsi)] Xym)] Xx7)] Xyi)] Xwj)] Xxk)] n24
theorem Yti : Xv Tryz.prog 24 1 Yn8 [] = true := by kernel_rfl
end Go.Proofs.YtanpgmgkmfckaaaGreatDoor
/- The same statements with their regions folded into expressions, printed by the fold itself; that they are that is checked by the kernel. No condition. -/
namespace Go.Proofs.YtanpgmgkmfckaaaGreatDoor
open Go Go.Ab
set_option maxRecDepth 100000
def Xws : S2 := zL [15] [] Ybb
def Yb0 := by
 have h := Eq.refl Xws
 conv at h => rhs; cbv
 exact h
def X5t : S2 := zL [15] [Xws] X55
def X3f := by
 have h := fun (a : S2) => Eq.refl (zL [15] [a] X55)
 conv at h => intro a; rhs; cbv
 have e : X5t = _ := h Xws
 exact e
def lt9 : FS2 := .pre (.rg [.op (some 2) (.alloc 30 (.agg [.nils, .nils, .nils, .nils, .nils, .nils])), .op (some 3) (.alloc 3 (.int .i64 0)), .op (some 4) (.alloc 31 (.int .i64 0))] [(0, (.a (.t 0))), (2, (.a (.t 2))), (3, (.a (.t 3))), (4, (.a (.t 4)))] [])
 (.pre (.rg [.chk [] (.u (.ext (.t 0) 0) (.call 15 (.cons (.a (.t 0)) .nil))), .chk [] (.u (.ext (.t 0) 2) (.call 15 (.cons (.a (.t 0)) .nil))), .chk [] (.u (.ext (.t 0) 1) (.call 15 (.cons (.a (.t 0)) .nil))), .lt 13 [] (.u (.ext (.t 0) 1) (.call 15 (.cons (.a (.t 0)) .nil))), .op none (.st 1 (.t 3) (.t 13)), .lt 14 [] (.u (.ext (.t 0) 2) (.call 15 (.cons (.a (.t 0)) .nil))), .op none (.st 1 (.t 4) (.t 14))] [(0, (.a (.t 0))), (2, (.a (.t 2))), (3, (.a (.t 3))), (4, (.a (.t 4))), (5, (.u (.ext (.t 0) 0) (.call 15 (.cons (.a (.t 0)) .nil))))] [])
 (.pre (.seq (.rg [] [(0, (.a (.t 0))), (2, (.a (.t 2))), (3, (.a (.t 3))), (4, (.a (.t 4))), (5, (.a (.t 5))), (16, (.b (.bin .neq (.t 0) (.t 1)) (.u (.ld 1 false (.t 0)) (.a (.t 4))) (.a (.int .i64 0))))] [])
 (.cond (.t 16) (.seq (.rgT (.one 0 (.op (some 17) (.c (.ld 6 true (.t 2))))
  (.br (.cons 1 (.op (some 18) (.c (.ld 1 false (.t 3)))) (.br (.cons 2 (.op (some 19) (.c (.ld 1 false (.t 4)))) (.one 3 (.op none (.st 6 (.t 2) (.t 17)))
  (.one 4 (.op none (.st 1 (.t 3) (.t 18)))
  (.one 5 (.op none (.st 1 (.t 4) (.t 19)))
  (.done))))
  (.cons 3 (.op none (.st 6 (.t 2) (.t 17))) (.br (.cons 2 (.op (some 19) (.c (.ld 1 false (.t 4)))) (.one 4 (.op none (.st 1 (.t 3) (.t 18)))
  (.one 5 (.op none (.st 1 (.t 4) (.t 19)))
  (.done)))
  (.cons 4 (.op none (.st 1 (.t 3) (.t 18))) (.br (.cons 2 (.op (some 19) (.c (.ld 1 false (.t 4)))) (.one 5 (.op none (.st 1 (.t 4) (.t 19)))
  (.done))
  (.nil)))
  (.nil))))
  (.nil))))
  (.cons 2 (.op (some 19) (.c (.ld 1 false (.t 4)))) (.br (.cons 1 (.op (some 18) (.c (.ld 1 false (.t 3)))) (.one 3 (.op none (.st 6 (.t 2) (.t 17)))
  (.one 4 (.op none (.st 1 (.t 3) (.t 18)))
  (.one 5 (.op none (.st 1 (.t 4) (.t 19)))
  (.done))))
  (.cons 3 (.op none (.st 6 (.t 2) (.t 17))) (.br (.cons 1 (.op (some 18) (.c (.ld 1 false (.t 3)))) (.one 4 (.op none (.st 1 (.t 3) (.t 18)))
  (.one 5 (.op none (.st 1 (.t 4) (.t 19)))
  (.done)))
  (.nil)))
  (.nil))))
  (.cons 3 (.op none (.st 6 (.t 2) (.t 17))) (.br (.cons 1 (.op (some 18) (.c (.ld 1 false (.t 3)))) (.br (.cons 2 (.op (some 19) (.c (.ld 1 false (.t 4)))) (.one 4 (.op none (.st 1 (.t 3) (.t 18)))
  (.one 5 (.op none (.st 1 (.t 4) (.t 19)))
  (.done)))
  (.cons 4 (.op none (.st 1 (.t 3) (.t 18))) (.br (.cons 2 (.op (some 19) (.c (.ld 1 false (.t 4)))) (.one 5 (.op none (.st 1 (.t 4) (.t 19)))
  (.done))
  (.nil)))
  (.nil))))
  (.cons 2 (.op (some 19) (.c (.ld 1 false (.t 4)))) (.br (.cons 1 (.op (some 18) (.c (.ld 1 false (.t 3)))) (.one 4 (.op none (.st 1 (.t 3) (.t 18)))
  (.one 5 (.op none (.st 1 (.t 4) (.t 19)))
  (.done)))
  (.nil)))
  (.nil))))
  (.nil)))))) [2, 3, 4] [])
 (.ret)) (.skip)))
 (.dfr [.op (some 20) (.c (.mkf 18 [] [(.t 2), (.t 3), (.t 4)]))] [(0, (.a (.t 0))), (2, (.a (.t 2))), (3, (.a (.t 3))), (4, (.a (.t 4))), (5, (.a (.t 5))), (20, (.a (.t 20)))] 20
 (.seq (.rg [.op (some 21) (.mkm none), .op none (.mset (.str []) (.t 21) (.str [105, 115, 115, 117, 101, 114]) (.fn 19)), .op none (.mset (.str []) (.t 21) (.str [117, 110, 105, 116]) (.fn 20)), .op none (.mset (.str []) (.t 21) (.str [115, 99, 104, 101, 109, 97]) (.fn 21)), .op none (.mset (.str []) (.t 21) (.str [100, 101, 114, 105, 118, 101]) (.fn 22)), .op none (.mset (.str []) (.t 21) (.str [99, 111, 110, 118, 101, 114, 116]) (.fn 23)), .op none (.mset (.str []) (.t 21) (.str [112, 117, 114, 112, 111, 115, 101]) (.fn 24))] [(0, (.a (.t 0))), (2, (.a (.t 2))), (3, (.a (.t 3))), (4, (.a (.t 4))), (5, (.a (.t 5))), (6, (.a (.t 21)))] [2, 3, 4])
 (.seq (.rg [.chk [] (.u (.lenS (.t 0)) (.a (.t 0))), .lt 25 [] (.u (.lenS (.t 0)) (.a (.t 0))), .lt 23 [] (.a (.t 5)), .op (some 26) (.c (.bld [.nils, (.int .i64 0), (.agg [.nils, .nils, .nils, .nils, .nils, .nils])] [(0, (.t 23)), (1, (.t 25))])), .op (some 27) (.box 66 (.t 26)), .op (some 7) (.mvn (.t 27) (.t 27) [(9, 1, [2, 0]), (74, 5, [2, 1]), (79, 6, [2, 2]), (50, 5, [2, 3]), (84, 5, [2, 4]), (88, 3, [2, 5])])] [(2, (.a (.t 2))), (3, (.a (.t 3))), (4, (.a (.t 4))), (6, (.a (.t 6))), (7, (.a (.t 7)))] [2, 3, 4])
 (.seq (.block 0 (.loop [2, 3, 4, 6, 7] X5t))
 (.seq (.rg [.chk [] (.u (.fldA 2 2 (.t 0)) (.u (.nilc (.t 0)) (.a (.t 7)))), .lt 62 [] (.u (.fldA 2 2 (.t 0)) (.u (.nilc (.t 0)) (.a (.t 7)))), .op (some 63) (.ldf 6 true (.t 62)), .op none (.st 6 (.t 2) (.t 63)), .op none (.st 1 (.t 3) (.int .i64 0)), .op none (.st 1 (.t 4) (.int .i64 0))] [(2, (.a (.t 2))), (3, (.a (.t 3))), (4, (.a (.t 4)))] [2, 3, 4])
 (.ret))))))))
theorem lf9 : ir9.lift [15] = some lt9 := by kernel_rfl
def Xjf : S2 := .rgT (.one 0 (.op (some 53) (.c (.fldA 4 4 (.t 2))))
  (.one 2 (.op (some 55) (.c (.mv (.t 0))))
  (.br (.cons 1 (.op (some 54) (.c (.ld 1 false (.t 53)))) (.one 3 (.op (some 56) (.call 66 [(.t 55)]))
  (.one 4 (.op (some 57) (.bls 11 [.agg [.str [], .agg [.int .i64 0, .int .i64 0, .int .i64 0, .str [], .int .i64 0, .nils], .agg (List.replicate 4 (.int .i64 0))]] [(0, (.t 56))]))
  (.one 5 (.op (some 58) (.app 93 11 120 (.t 54) (.t 57)))
  (.one 6 (.op (some 59) (.c (.fldA 4 4 (.t 2))))
  (.one 7 (.op none (.st 1 (.t 59) (.t 58)))
  (.done))))))
  (.cons 3 (.op (some 56) (.call 66 [(.t 55)])) (.br (.cons 1 (.op (some 54) (.c (.ld 1 false (.t 53)))) (.one 4 (.op (some 57) (.bls 11 [.agg [.str [], .agg [.int .i64 0, .int .i64 0, .int .i64 0, .str [], .int .i64 0, .nils], .agg (List.replicate 4 (.int .i64 0))]] [(0, (.t 56))]))
  (.one 5 (.op (some 58) (.app 93 11 120 (.t 54) (.t 57)))
  (.one 6 (.op (some 59) (.c (.fldA 4 4 (.t 2))))
  (.one 7 (.op none (.st 1 (.t 59) (.t 58)))
  (.done)))))
  (.cons 4 (.op (some 57) (.bls 11 [.agg [.str [], .agg [.int .i64 0, .int .i64 0, .int .i64 0, .str [], .int .i64 0, .nils], .agg (List.replicate 4 (.int .i64 0))]] [(0, (.t 56))])) (.br (.cons 1 (.op (some 54) (.c (.ld 1 false (.t 53)))) (.one 5 (.op (some 58) (.app 93 11 120 (.t 54) (.t 57)))
  (.one 6 (.op (some 59) (.c (.fldA 4 4 (.t 2))))
  (.one 7 (.op none (.st 1 (.t 59) (.t 58)))
  (.done))))
  (.nil)))
  (.nil))))
  (.nil)))))) [0, 2] []
def Xlt : S2 := zL [] [] X3n
def X9z := by
 have h := Eq.refl Xlt
 conv at h => rhs; cbv
 exact h
def Xlu : S2 := zL [] [Xlt] Xun
def Xze := by
 have h := fun (a : S2) => Eq.refl (zL [] [a] Xun)
 conv at h => intro a; rhs; cbv
 have e : Xlu = _ := h Xlt
 exact e
def Xjg : S2 := zL [] [Xjf, Xlu] Xto
def Xu6 := by
 have h := fun (a b : S2) => Eq.refl (zL [] [a, b] Xto)
 conv at h => intro a b; rhs; cbv
 have e : Xjg = _ := h Xjf Xlu
 exact e
def Xkj : S2 := zL [] [] X38
def Xsl := by
 have h := Eq.refl Xkj
 conv at h => rhs; cbv
 exact h
def Xmd : S2 := zL [] [Xjg] Xt2
def X6e := by
 have h := fun (a : S2) => Eq.refl (zL [] [a] Xt2)
 conv at h => intro a; rhs; cbv
 have e : Xmd = _ := h Xjg
 exact e
def Xms : S2 := zL [] [Xkj, Xmd] Xyw
def X7g := by
 have h := fun (a b : S2) => Eq.refl (zL [] [a, b] Xyw)
 conv at h => intro a b; rhs; cbv
 have e : Xms = _ := h Xkj Xmd
 exact e
def Xl2 : S2 := zL [] [Xms] Xzg
def X6w := by
 have h := fun (a : S2) => Eq.refl (zL [] [a] Xzg)
 conv at h => intro a; rhs; cbv
 have e : Xl2 = _ := h Xms
 exact e
def Xoe : S2 := zL [] [Xl2] Xwh
def X7a := by
 have h := fun (a : S2) => Eq.refl (zL [] [a] Xwh)
 conv at h => intro a; rhs; cbv
 have e : Xoe = _ := h Xl2
 exact e
def Xm2 : S2 := zL [] [Xoe] Xs8
def X7j := by
 have h := fun (a : S2) => Eq.refl (zL [] [a] Xs8)
 conv at h => intro a; rhs; cbv
 have e : Xm2 = _ := h Xoe
 exact e
def Xgc : S2 := zL [] [Xm2] Xlj
def X0n := by
 have h := fun (a : S2) => Eq.refl (zL [] [a] Xlj)
 conv at h => intro a; rhs; cbv
 have e : Xgc = _ := h Xm2
 exact e
def Xfw : S2 := zL [] [Xgc] Xma
def X1m := by
 have h := fun (a : S2) => Eq.refl (zL [] [a] Xma)
 conv at h => intro a; rhs; cbv
 have e : Xfw = _ := h Xgc
 exact e
def Xgq : S2 := zL [] [Xfw] Xju
def X08 := by
 have h := fun (a : S2) => Eq.refl (zL [] [a] Xju)
 conv at h => intro a; rhs; cbv
 have e : Xgq = _ := h Xfw
 exact e
def Xg0 : S2 := zL [] [Xgq] Xnw
def X2f := by
 have h := fun (a : S2) => Eq.refl (zL [] [a] Xnw)
 conv at h => intro a; rhs; cbv
 have e : Xg0 = _ := h Xgq
 exact e
def Xe2 : S2 := zL [] [Xg0] Xnz
def X04 := by
 have h := fun (a : S2) => Eq.refl (zL [] [a] Xnz)
 conv at h => intro a; rhs; cbv
 have e : Xe2 = _ := h Xg0
 exact e
def Xff : S2 := zL [] [Xe2] Xlb
def X14 := by
 have h := fun (a : S2) => Eq.refl (zL [] [a] Xlb)
 conv at h => intro a; rhs; cbv
 have e : Xff = _ := h Xe2
 exact e
def Xf9 : S2 := zL [] [Xff] Xk1
def Xz2 := by
 have h := fun (a : S2) => Eq.refl (zL [] [a] Xk1)
 conv at h => intro a; rhs; cbv
 have e : Xf9 = _ := h Xff
 exact e
def Ymv : S2 := zL [] [Xf9] n21
def Yuq := by
 have h := fun (a : S2) => Eq.refl (zL [] [a] n21)
 conv at h => intro a; rhs; cbv
 have e : Ymv = _ := h Xf9
 exact e
theorem Yuy : Ylm.lift [] = some Ymv := by kernel_rfl
def Xn6 : S2 := zL [] [] X4k
def X7m := by
 have h := Eq.refl Xn6
 conv at h => rhs; cbv
 exact h
def Xkb : S2 := zL [] [Xn6] Xty
def X77 := by
 have h := fun (a : S2) => Eq.refl (zL [] [a] Xty)
 conv at h => intro a; rhs; cbv
 have e : Xkb = _ := h Xn6
 exact e
def Xm8 : S2 := zL [] [Xkb] Xwg
def X9b := by
 have h := fun (a : S2) => Eq.refl (zL [] [a] Xwg)
 conv at h => intro a; rhs; cbv
 have e : Xm8 = _ := h Xkb
 exact e
def Xnv : S2 := zL [] [Xm8] Xxj
def X6v := by
 have h := fun (a : S2) => Eq.refl (zL [] [a] Xxj)
 conv at h => intro a; rhs; cbv
 have e : Xnv = _ := h Xm8
 exact e
def Xnd : S2 := zL [] [Xnv] Xvw
def X7v := by
 have h := fun (a : S2) => Eq.refl (zL [] [a] Xvw)
 conv at h => intro a; rhs; cbv
 have e : Xnd = _ := h Xnv
 exact e
def Xmj : S2 := zL [] [] X5v
def Xvd := by
 have h := Eq.refl Xmj
 conv at h => rhs; cbv
 exact h
def Xnc : S2 := zL [] [Xmj, Xnd] Xyb
def X81 := by
 have h := fun (a b : S2) => Eq.refl (zL [] [a, b] Xyb)
 conv at h => intro a b; rhs; cbv
 have e : Xnc = _ := h Xmj Xnd
 exact e
def Xj1 : S2 := zL [] [Xnc] Xur
def X8l := by
 have h := fun (a : S2) => Eq.refl (zL [] [a] Xur)
 conv at h => intro a; rhs; cbv
 have e : Xj1 = _ := h Xnc
 exact e
def Xk7 : S2 := zL [] [Xj1] Xvx
def X7h := by
 have h := fun (a : S2) => Eq.refl (zL [] [a] Xvx)
 conv at h => intro a; rhs; cbv
 have e : Xk7 = _ := h Xj1
 exact e
def Xm9 : S2 := zL [] [Xk7] Xxy
def X94 := by
 have h := fun (a : S2) => Eq.refl (zL [] [a] Xxy)
 conv at h => intro a; rhs; cbv
 have e : Xm9 = _ := h Xk7
 exact e
def Yok : S2 := zL [] [Xm9] n22
def Ytc := by
 have h := fun (a : S2) => Eq.refl (zL [] [a] n22)
 conv at h => intro a; rhs; cbv
 have e : Yok = _ := h Xm9
 exact e
theorem Yta : Yqd.lift [] = some Yok := by kernel_rfl
def Xm5 : S2 := zL [] [] X3p
def X8v := by
 have h := Eq.refl Xm5
 conv at h => rhs; cbv
 exact h
def Xng : S2 := zL [] [Xm5] Xxp
def X9v := by
 have h := fun (a : S2) => Eq.refl (zL [] [a] Xxp)
 conv at h => intro a; rhs; cbv
 have e : Xng = _ := h Xm5
 exact e
def Xko : S2 := zL [] [Xng] Xvg
def X98 := by
 have h := fun (a : S2) => Eq.refl (zL [] [a] Xvg)
 conv at h => intro a; rhs; cbv
 have e : Xko = _ := h Xng
 exact e
def Xjt : S2 := zL [] [Xko] Xv6
def X80 := by
 have h := fun (a : S2) => Eq.refl (zL [] [a] Xv6)
 conv at h => intro a; rhs; cbv
 have e : Xjt = _ := h Xko
 exact e
def Xk8 : S2 := zL [] [Xjt] Xwo
def X6f := by
 have h := fun (a : S2) => Eq.refl (zL [] [a] Xwo)
 conv at h => intro a; rhs; cbv
 have e : Xk8 = _ := h Xjt
 exact e
def Xj0 : S2 := zL [] [Xk8] Xx3
def X91 := by
 have h := fun (a : S2) => Eq.refl (zL [] [a] Xx3)
 conv at h => intro a; rhs; cbv
 have e : Xj0 = _ := h Xk8
 exact e
def Xmw : S2 := zL [] [Xj0] Xx6
def X6u := by
 have h := fun (a : S2) => Eq.refl (zL [] [a] Xx6)
 conv at h => intro a; rhs; cbv
 have e : Xmw = _ := h Xj0
 exact e
def Xmq : S2 := zL [] [Xmw] Xxl
def X8e := by
 have h := fun (a : S2) => Eq.refl (zL [] [a] Xxl)
 conv at h => intro a; rhs; cbv
 have e : Xmq = _ := h Xmw
 exact e
def Yn2 : S2 := zL [] [Xmq] n23
def Yr6 := by
 have h := fun (a : S2) => Eq.refl (zL [] [a] n23)
 conv at h => intro a; rhs; cbv
 have e : Yn2 = _ := h Xmq
 exact e
theorem Yvb : Ypo.lift [] = some Yn2 := by kernel_rfl
def Xmy : S2 := zL [] [] X5z
def X8b := by
 have h := Eq.refl Xmy
 conv at h => rhs; cbv
 exact h
def Xk0 : S2 := zL [] [Xmy] Xys
def X67 := by
 have h := fun (a : S2) => Eq.refl (zL [] [a] Xys)
 conv at h => intro a; rhs; cbv
 have e : Xk0 = _ := h Xmy
 exact e
def Xlf : S2 := zL [] [Xk0] Xt5
def X8r := by
 have h := fun (a : S2) => Eq.refl (zL [] [a] Xt5)
 conv at h => intro a; rhs; cbv
 have e : Xlf = _ := h Xk0
 exact e
def Xkp : S2 := zL [] [Xlf] Xsi
def X6t := by
 have h := fun (a : S2) => Eq.refl (zL [] [a] Xsi)
 conv at h => intro a; rhs; cbv
 have e : Xkp = _ := h Xlf
 exact e
def Xn8 : S2 := zL [] [Xkp] Xym
def X97 := by
 have h := fun (a : S2) => Eq.refl (zL [] [a] Xym)
 conv at h => intro a; rhs; cbv
 have e : Xn8 = _ := h Xkp
 exact e
def Xn0 : S2 := zL [] [Xn8] Xx7
def X85 := by
 have h := fun (a : S2) => Eq.refl (zL [] [a] Xx7)
 conv at h => intro a; rhs; cbv
 have e : Xn0 = _ := h Xn8
 exact e
def Xj5 : S2 := zL [] [Xn0] Xyi
def X9a := by
 have h := fun (a : S2) => Eq.refl (zL [] [a] Xyi)
 conv at h => intro a; rhs; cbv
 have e : Xj5 = _ := h Xn0
 exact e
def Xli : S2 := zL [] [Xj5] Xwj
def X9e := by
 have h := fun (a : S2) => Eq.refl (zL [] [a] Xwj)
 conv at h => intro a; rhs; cbv
 have e : Xli = _ := h Xj5
 exact e
def Xm1 : S2 := zL [] [Xli] Xxk
def X7s := by
 have h := fun (a : S2) => Eq.refl (zL [] [a] Xxk)
 conv at h => intro a; rhs; cbv
 have e : Xm1 = _ := h Xli
 exact e
def Ynh : S2 := zL [] [Xm1] n24
def Yuz := by
 have h := fun (a : S2) => Eq.refl (zL [] [a] n24)
 conv at h => intro a; rhs; cbv
 have e : Ynh = _ := h Xm1
 exact e
theorem Yq6 : Yn8.lift [] = some Ynh := by kernel_rfl
end Go.Proofs.YtanpgmgkmfckaaaGreatDoor
/- Contracts: the definitions. Condition: the program is the seat's, and its intervals are laid. -/
namespace Go.Proofs.YtanpgmgkmfckaaaGreatDoor
open Go Go.Ab Go.Lx Go.Sx
set_option maxRecDepth 100000
attribute [local simp ↓] ql qn qo qi qh qj qk qm zt zp zr zu zq zl zm zk zo zn qq qp qw qx zg qy qv qr zh qu qt qs qz zb za zd ze zf zx zw zz zy qb qa qd qc qe qg qf zj zi
section
variable {P : Prg} (hP : P.p = Tryz.prog) (hI : Ivl P) {ts : List Tok} {en : Int} {s : Src} (hs : Few s) {K : Out → Objs → Prop}
include hP hI hs
theorem Xx2 (h : PS K en (Vw s ts)) : ACall P 23 [.ptr 4 []] (stO en ts s) K := by
 refine acall_lift hP mixed Yso Yvb TOk.nil fun _ hm => ?_
 simp [Yr6, hI.factors, hI.editions, hI.mosts, hI.weights, hI.anyN]
 refine Xaw hP (S := Yy s) (by simp) (by simp) _ 16 (PS.bind h (fun ts' e h => ?_) (fun a ts' ha h => ?_))
 ·simp
  exact Xj (h s) (by simp) (by simp [young])
 simp [hI.factors, hI.editions, hI.mosts, hI.weights, hI.anyN, X8e]
 refine Zu hP (S := Yy s) (by simp) (by simp) _ (PS.bind h (fun ts' e h => ?_) (fun a ts' ha h => ?_))
 ·simp
  exact Xj (h s) (by simp) (by simp [young])
 simp [hI.factors, hI.editions, hI.mosts, hI.weights, hI.anyN, X6u]
 refine Zc hP (S := Yy s) (by simp) (by simp) (PS.bind h (fun ts' e h => ?_) (fun a ts' ha h => ?_))
 ·simp
  exact Xj (h s) (by simp) (by simp [young])
 simp [hI.factors, hI.editions, hI.mosts, hI.weights, hI.anyN, X91]
 refine Zu hP (S := Yy s) (by simp) (by simp) _ (PS.bind h (fun ts' e h => ?_) (fun a ts' ha h => ?_))
 ·simp
  exact Xj (h s) (by simp) (by simp [young])
 simp [hI.factors, hI.editions, hI.mosts, hI.weights, hI.anyN, X6f]
 refine Zc hP (S := Yy s) (by simp) (by simp) (PS.bind h (fun ts' e h => ?_) (fun a ts' ha h => ?_))
 ·simp
  exact Xj (h s) (by simp) (by simp [young])
 simp [hI.factors, hI.editions, hI.mosts, hI.weights, hI.anyN, X80]
 refine Yf hP (S := Yy s) (by simp) (by simp) _ (PS.bind h (fun ts' e h => ?_) (fun a ts' ha h => ?_))
 ·simp
  exact Xj (h s) (by simp) (by simp [young])
 simp [hI.factors, hI.editions, hI.mosts, hI.weights, hI.anyN, X98]
 refine Jc hP (ts := ts') (en := en) (S := Yy s) (by simp) _ 12 (by simp) ?_
 simp
 refine X7d hP (S := Yy s) (by simp) (by simp) (enc := Move.enc) (by simp) (Xh 1 []) Xbd 11 (by decide) _ _ [] _ [.ptr 4 []] [] (V4 hP).2.2.1 (V4 hP).2.2.2.2.2.2.1 14 (by simp) (fun ts o K h => ?_) (fun ts o K h => ?_) (PS.bind h (fun ts' e h => ?_) (fun a ts' ha h => ?_))
 ·exact Ua hP (S := Yy s) (p := 4) (ts := ts) (en := en) (t := []) (by simp) (by simp) (by simp) (by simp) (by simpa using h)
 ·exact Ydm hP (S := Yy s) (by simp) (p := 4) (ts := ts) (en := en) (by simp) hI h
 ·simp
  exact Xj (h s) (by simp) (by simp [young])
 simp [hI.factors, hI.editions, hI.mosts, hI.weights, hI.anyN, X9v]
 refine Yf hP (S := Yy s) (by simp) (by simp) _ (PS.bind h (fun ts' e h => ?_) (fun a ts' ha h => ?_))
 ·simp
  exact Xj (h s) (by simp) (by simp [young])
 simp [hI.factors, hI.editions, hI.mosts, hI.weights, hI.anyN, X8v]
 refine ⟨by have := hs.converts; omega, ?_⟩
 exact Xj (s := { s with converts := s.converts ++ [⟨_, _, _⟩] }) h (by simp) (by simp [young]; rfl)
end
end Go.Proofs.YtanpgmgkmfckaaaGreatDoor
/- Contracts: the definitions. Condition: the program is the seat's, and its intervals are laid. -/
namespace Go.Proofs.YtanpgmgkmfckaaaGreatDoor
open Go Go.Ab Go.Lx Go.Sx
set_option maxRecDepth 100000
attribute [local simp ↓] ql qn qo qi qh qj qk qm zt zp zr zu zq zl zm zk zo zn qq qp qw qx zg qy qv qr zh qu qt qs qz zb za zd ze zf zx zw zz zy qb qa qd qc qe qg qf zj zi
section
variable {P : Prg} (hP : P.p = Tryz.prog) (hI : Ivl P) {ts : List Tok} {en : Int} {s : Src} (hs : Few s) {K : Out → Objs → Prop}
include hP hI hs
theorem Xxs (h : PS K en (Vp s ts)) : ACall P 24 [.ptr 4 []] (stO en ts s) K := by
 refine acall_lift hP mixed Yti Yq6 TOk.nil fun _ hm => ?_
 simp [Yuz, hI.factors, hI.editions, hI.mosts, hI.weights, hI.anyN]
 refine Xaw hP (S := Yy s) (by simp) (by simp) _ 8 (PS.bind h (fun ts' e h => ?_) (fun a ts' ha h => ?_))
 ·simp
  exact Xj (h s) (by simp) (by simp [young])
 simp [hI.factors, hI.editions, hI.mosts, hI.weights, hI.anyN, X7s]
 refine Zu hP (S := Yy s) (by simp) (by simp) _ (PS.bind h (fun ts' e h => ?_) (fun a ts' ha h => ?_))
 ·simp
  exact Xj (h s) (by simp) (by simp [young])
 simp [hI.factors, hI.editions, hI.mosts, hI.weights, hI.anyN, X9e]
 refine Zc hP (S := Yy s) (by simp) (by simp) (PS.bind h (fun ts' e h => ?_) (fun a ts' ha h => ?_))
 ·simp
  exact Xj (h s) (by simp) (by simp [young])
 simp [hI.factors, hI.editions, hI.mosts, hI.weights, hI.anyN, X9a]
 refine Yf hP (S := Yy s) (by simp) (by simp) _ (PS.bind h (fun ts' e h => ?_) (fun a ts' ha h => ?_))
 ·simp
  exact Xj (h s) (by simp) (by simp [young])
 simp [hI.factors, hI.editions, hI.mosts, hI.weights, hI.anyN, X85]
 refine Jc hP (ts := ts') (en := en) (S := Yy s) (by simp) _ 12 (by simp) ?_
 simp
 refine X9h hP (S := Yy s) (by simp) (by simp) (enc := Ref.enc) (by simp) (Xh 1 [109, 97, 121]) Xzr 32 (by decide) _ _ [] _ [.ptr 4 []] [] (V4 hP).2.2.1 (V4 hP).2.2.2.2.2.2.2 14 (by simp) (fun ts o K h => ?_) (fun ts o K h => ?_) (PS.bind h (fun ts' e h => ?_) (fun a ts' ha h => ?_))
 ·exact Ua hP (S := Yy s) (p := 4) (ts := ts) (en := en) (t := [109, 97, 121]) (by simp) (by simp) (by simp) (by simp) (by simpa using h)
 ·exact Yi8 hP (S := Yy s) (by simp) (p := 4) (ts := ts) (en := en) (by simp) h
 ·simp
  exact Xj (h s) (by simp) (by simp [young])
 simp [hI.factors, hI.editions, hI.mosts, hI.weights, hI.anyN, X97]
 refine Zu hP (S := Yy s) (by simp) (by simp) _ (PS.bind h (fun ts' e h => ?_) (fun a ts' ha h => ?_))
 ·simp
  exact Xj (h s) (by simp) (by simp [young])
 simp [hI.factors, hI.editions, hI.mosts, hI.weights, hI.anyN, X6t]
 refine Zf hP (S := Yy s) (by simp) (by simp) _ _ (PS.bind h (fun ts' e h => ?_) (fun a ts' ha h => ?_))
 ·simp
  exact Xj (h s) (by simp) (by simp [young])
 simp [hI.factors, hI.editions, hI.mosts, hI.weights, hI.anyN, X8r]
 refine Yf hP (S := Yy s) (by simp) (by simp) _ (PS.bind h (fun ts' e h => ?_) (fun a ts' ha h => ?_))
 ·simp
  exact Xj (h s) (by simp) (by simp [young])
 simp [hI.factors, hI.editions, hI.mosts, hI.weights, hI.anyN, X67]
 refine Yf hP (S := Yy s) (by simp) (by simp) _ (PS.bind h (fun ts' e h => ?_) (fun a ts' ha h => ?_))
 ·simp
  exact Xj (h s) (by simp) (by simp [young])
 simp [hI.factors, hI.editions, hI.mosts, hI.weights, hI.anyN, X8b]
 refine ⟨by have := hs.purposes; omega, ?_⟩
 exact Xj (s := { s with purposes := s.purposes ++ [⟨_, _, _⟩] }) h (by simp) (by simp [young]; rfl)
end
end Go.Proofs.YtanpgmgkmfckaaaGreatDoor
/- Contracts: the definitions. Condition: the program is the seat's, and its intervals are laid. -/
namespace Go.Proofs.YtanpgmgkmfckaaaGreatDoor
open Go Go.Ab Go.Lx Go.Sx
set_option maxRecDepth 100000
attribute [local simp ↓] ql qn qo qi qh qj qk qm zt zp zr zu zq zl zm zk zo zn qq qp qw qx zg qy qv qr zh qu qt qs qz zb za zd ze zf zx zw zz zy qb qa qd qc qe qg qf zj zi
section
variable {P : Prg} (hP : P.p = Tryz.prog) (hI : Ivl P) {ts : List Tok} {en : Int} {s : Src} (hs : Few s) {K : Out → Objs → Prop}
include hP hI hs
theorem Ybt (h : PS K en (Xjc s ts)) : ACall P 22 [.ptr 4 []] (stO en ts s) K := by
 refine acall_lift hP mixed Yuh Yta TOk.nil fun _ hm => ?_
 simp [Ytc, hI.factors, hI.editions, hI.mosts, hI.weights, hI.anyN]
 refine Xaw hP (S := Yy s) (by simp) (by simp) _ 16 (PS.bind h (fun ts' e h => ?_) (fun a ts' ha h => ?_))
 ·simp
  exact Xj (h s) (by simp) (by simp [young])
 simp [hI.factors, hI.editions, hI.mosts, hI.weights, hI.anyN, X94]
 refine Zu hP (S := Yy s) (by simp) (by simp) _ (PS.bind h (fun ts' e h => ?_) (fun a ts' ha h => ?_))
 ·simp
  exact Xj (h s) (by simp) (by simp [young])
 simp [hI.factors, hI.editions, hI.mosts, hI.weights, hI.anyN, X7h]
 refine Zc hP (S := Yy s) (by simp) (by simp) (PS.bind h (fun ts' e h => ?_) (fun a ts' ha h => ?_))
 ·simp
  exact Xj (h s) (by simp) (by simp [young])
 simp [hI.factors, hI.editions, hI.mosts, hI.weights, hI.anyN, X8l]
 refine Yf hP (S := Yy s) (by simp) (by simp) _ (PS.bind h (fun ts' e h => ?_) (fun a ts' ha h => ?_))
 ·simp
  exact Xj (h s) (by simp) (by simp [young])
 simp [hI.factors, hI.editions, hI.mosts, hI.weights, hI.anyN, X81]
 refine Q5 hP (S := Yy s) (ts := ts') (en := en) (by simp) (by simp) _ _ ?_
 cases hn : Xh 1 [102, 114, 111, 109] ts' with
 | false =>
  simp only [ifM, hn, Bool.false_eq_true, if_false] at h
  simp [Xvd]
  refine Ws hP (S := Yy s) (ts := ts') (en := en) (by simp) (by simp) _ ?_
  simp
  exact Xj (h s) (by simp) (by simp [young])
 | true =>
  simp only [ifM, hn, if_true] at h
  simp [Xvd, X7v]
  refine Jc hP (ts := ts') (en := en) (S := Yy s) (by simp) _ 12 (by simp) ?_
  simp
  refine X69 hP (S := Yy s) (by simp) (by simp) (enc := From.enc) (by simp) (Xh 1 [102, 114, 111, 109]) Xb0 3 (by decide) _ _ [] _ [.ptr 4 []] [] (V4 hP).2.2.1 (V4 hP).2.2.2.1 14 (by simp) (fun ts o K h => ?_) (fun ts o K h => ?_) (PS.bind h (fun ts' e h => ?_) (fun a ts' ha h => ?_))
  ·exact Ua hP (S := Yy s) (p := 4) (ts := ts) (en := en) (t := [102, 114, 111, 109]) (by simp) (by simp) (by simp) (by simp) (by simpa using h)
  ·exact Yfi hP (S := Yy s) (by simp) (p := 4) (ts := ts) (en := en) (by simp) h
  ·simp
   exact Xj (h s) (by simp) (by simp [young])
  simp [hI.factors, hI.editions, hI.mosts, hI.weights, hI.anyN, X6v]
  refine Jc hP (ts := ts') (en := en) (S := Yy s) (by simp) _ 14 (by simp) ?_
  simp
  refine X8p hP (S := Yy s) (by simp) (by simp) (enc := Atom.enc) (by simp) (Xh 1 [119, 104, 101, 114, 101]) U5 8 (by decide) _ _ [] _ [.ptr 4 []] [] (V4 hP).2.2.1 (V4 hP).2.2.2.2.1 16 (by simp) (fun ts o K h => ?_) (fun ts o K h => ?_) (PS.bind h (fun ts' e h => ?_) (fun a ts' ha h => ?_))
  ·exact Ua hP (S := Yy s) (p := 4) (ts := ts) (en := en) (t := [119, 104, 101, 114, 101]) (by simp) (by simp) (by simp) (by simp) (by simpa using h)
  ·exact X6s hP (S := Yy s) (by simp) (p := 4) (ts := ts) (en := en) (by simp) hI h
  ·simp
   exact Xj (h s) (by simp) (by simp [young])
  simp [hI.factors, hI.editions, hI.mosts, hI.weights, hI.anyN, X9b]
  refine Jc hP (ts := ts') (en := en) (S := Yy s) (by simp) _ 16 (by simp) ?_
  simp
  refine X82 hP (S := Yy s) (by simp) (by simp) (enc := SetT.enc) (by simp) (Xh 1 [115, 101, 116]) Xzo 11 (by decide) _ _ [] _ [.ptr 4 []] [] (V4 hP).2.2.1 (V4 hP).2.2.2.2.2.1 18 (by simp) (fun ts o K h => ?_) (fun ts o K h => ?_) (PS.bind h (fun ts' e h => ?_) (fun a ts' ha h => ?_))
  ·exact Ua hP (S := Yy s) (p := 4) (ts := ts) (en := en) (t := [115, 101, 116]) (by simp) (by simp) (by simp) (by simp) (by simpa using h)
  ·exact Yhp hP (S := Yy s) (by simp) (p := 4) (ts := ts) (en := en) (by simp) hI h
  ·simp
   exact Xj (h s) (by simp) (by simp [young])
  simp [hI.factors, hI.editions, hI.mosts, hI.weights, hI.anyN, X77]
  refine Yf hP (S := Yy s) (by simp) (by simp) _ (PS.bind h (fun ts' e h => ?_) (fun a ts' ha h => ?_))
  ·simp
   exact Xj (h s) (by simp) (by simp [young])
  simp [hI.factors, hI.editions, hI.mosts, hI.weights, hI.anyN, X7m]
  refine ⟨by have := hs.rules; omega, ?_⟩
  exact Xj (s := { s with rules := s.rules ++ [⟨_, _, _, _⟩] }) h (by simp) (by simp [young]; rfl)
end
end Go.Proofs.YtanpgmgkmfckaaaGreatDoor
/- Contracts: the definitions. Condition: the program is the seat's, and its intervals are laid. -/
namespace Go.Proofs.YtanpgmgkmfckaaaGreatDoor
open Go Go.Ab Go.Lx Go.Sx
set_option maxRecDepth 100000
attribute [local simp ↓] ql qn qo qi qh qj qk qm zt zp zr zu zq zl zm zk zo zn qq qp qw qx zg qy qv qr zh qu qt qs qz zb za zd ze zf zx zw zz zy qb qa qd qc qe qg qf zj zi
theorem Ydy {α β : Type} {c : List Tok → Bool} {a b : M α} {g : α → M β} {ts : List Tok} (h : c ts = true) : (ifM c a b >>= g) ts = (a >>= g) ts := by simp only [Xe, ifM, h, if_true]
theorem Yfg {α β : Type} {c : List Tok → Bool} {a b : M α} {g : α → M β} {ts : List Tok} (h : c ts = false) : (ifM c a b >>= g) ts = (b >>= g) ts := by simp only [Xe, ifM, h, if_false, Bool.false_eq_true]
theorem J6 {α β : Type} {m : M α} {f : α → M β} {ts ts' : List Tok} {b : β} (h : (m >>= f) ts = .ok b ts') : ∃ a t1, m ts = .ok a t1 ∧ f a t1 = .ok b ts' := by
 rw [Xe] at h
 cases hm : m ts with
 | ok a t1 => rw [hm] at h; exact ⟨a, t1, rfl, h⟩
 | err a b => rw [hm] at h; cases h
theorem Xqc {f : Sx.Field} {ts ts' : List Tok} (h : Jn ts = .ok f ts') : ∃ a b c d, f.weights = [a, b, c, d] := by
 simp only [Jn] at h
 obtain ⟨_, _, _, h⟩ := J6 h
 obtain ⟨_, _, _, h⟩ := J6 h
 obtain ⟨_, _, _, h⟩ := J6 h
 obtain ⟨_, _, _, h⟩ := J6 h
 obtain ⟨w, _, hw, h⟩ := J6 h
 obtain ⟨_, _, _, h⟩ := J6 h
 cases h
 exact Uh hw
theorem Xme {f : Sx.Field} {ts ts' : List Tok} (h : Jn ts = .ok f ts') : f.enc.shape = .node [.leaf, .node [.leaf, .leaf, .leaf, .leaf, .leaf, .leaf], .node [.leaf, .leaf, .leaf, .leaf]] := by
 obtain ⟨a, b, c, d, e⟩ := Xqc h
 simp [Field.enc, e, D.shape]
theorem Xi4 (d : Sx.Depend) : d.enc.shape = .node [.leaf, .leaf, .leaf, .leaf] := by simp [Depend.enc, Xf, D.shape]
section
variable {P : Prg} (hP : P.p = Tryz.prog) (hI : Ivl P) {ts : List Tok} {en : Int} {s : Src} (hs : Few s) {K : Out → Objs → Prop}
include hP hI hs
theorem X12 (h : PS K en (Qq s ts)) : ACall P 21 [.ptr 4 []] (stO en ts s) K := by
 refine acall_lift hP mixed Yq8 Yuy TOk.nil fun _ hm => ?_
 simp [Yuq, hI.factors, hI.editions, hI.mosts, hI.weights, hI.anyN]
 refine Xaw hP (S := Yy s) (by simp) (by simp) _ 16 (PS.bind h (fun ts' e h => ?_) (fun a ts' ha h => ?_))
 ·simp
  exact Xj (h s) (by simp) (by simp [young])
 simp [hI.factors, hI.editions, hI.mosts, hI.weights, hI.anyN, Xz2]
 refine Zu hP (S := Yy s) (by simp) (by simp) _ (PS.bind h (fun ts' e h => ?_) (fun a ts' ha h => ?_))
 ·simp
  exact Xj (h s) (by simp) (by simp [young])
 simp [hI.factors, hI.editions, hI.mosts, hI.weights, hI.anyN, X14]
 refine Zc hP (S := Yy s) (by simp) (by simp) (PS.bind h (fun ts' e h => ?_) (fun a ts' ha h => ?_))
 ·simp
  exact Xj (h s) (by simp) (by simp [young])
 simp [hI.factors, hI.editions, hI.mosts, hI.weights, hI.anyN, X04]
 refine Zu hP (S := Yy s) (by simp) (by simp) _ (PS.bind h (fun ts' e h => ?_) (fun a ts' ha h => ?_))
 ·simp
  exact Xj (h s) (by simp) (by simp [young])
 simp [hI.factors, hI.editions, hI.mosts, hI.weights, hI.anyN, X2f]
 refine Zc hP (S := Yy s) (by simp) (by simp) (PS.bind h (fun ts' e h => ?_) (fun a ts' ha h => ?_))
 ·simp
  exact Xj (h s) (by simp) (by simp [young])
 simp [hI.factors, hI.editions, hI.mosts, hI.weights, hI.anyN, X08]
 refine Zu hP (S := Yy s) (by simp) (by simp) _ (PS.bind h (fun ts' e h => ?_) (fun a ts' ha h => ?_))
 ·simp
  exact Xj (h s) (by simp) (by simp [young])
 simp [hI.factors, hI.editions, hI.mosts, hI.weights, hI.anyN, X1m]
 refine Zf hP (S := Yy s) (by simp) (by simp) _ _ (PS.bind h (fun ts' e h => ?_) (fun a ts' ha h => ?_))
 ·simp
  exact Xj (h s) (by simp) (by simp [young])
 simp [hI.factors, hI.editions, hI.mosts, hI.weights, hI.anyN, X0n]
 refine Zu hP (S := Yy s) (by simp) (by simp) _ (PS.bind h (fun ts' e h => ?_) (fun a ts' ha h => ?_))
 ·simp
  exact Xj (h s) (by simp) (by simp [young])
 simp [hI.factors, hI.editions, hI.mosts, hI.weights, hI.anyN, X7j]
 refine Xhx hP (S := Yy s) (by simp) (by simp) hI (PS.bind h (fun ts' e h => ?_) (fun a ts' ha h => ?_))
 ·simp
  exact Xj (h s) (by simp) (by simp [young])
 obtain ⟨w1, w2, w3, w4, rfl⟩ := Uh ha
 simp [X7a]
 refine Yf hP (S := Yy s) (by simp) (by simp) _ (PS.bind h (fun ts' e h => ?_) (fun a ts' ha h => ?_))
 ·simp
  exact Xj (h s) (by simp) (by simp [young])
 simp [hI.factors, hI.editions, hI.mosts, hI.weights, hI.anyN, X6w]
 have fin : ∀ (ts' : List Tok) (e : Int), (∀ s, K (.panic (.d (U4 en ts' e))) (stO en ts' s)) → ∀ (o1 o2 o3 o4 : Ob), Zn 11 (K (.panic (.d (U4 en ts' e)))) [.d (U4 en ts' e)] ((14, o1) :: (13, o2) :: (12, o3) :: (11, o4) :: stO en ts' s) := fun ts' e h o1 o2 o3 o4 => Xj (h s) (by simp) (by simp [young])
 refine ALoop.go (ι := Schema × List Tok) (fun _ => [(0, .ptr 4 []), (2, .ptr 11 [])])
  (fun j => (14, .arr 96 4 (j.1.depends.map Depend.enc)) :: (13, .arr 93 11 (j.1.fields.map Field.enc)) :: (12, .box 93 (.d (Field.enc ⟨[115, 101, 108, 102], .person, [w1, w2, w3, w4]⟩))) :: (11, .box 79 (.agg [.d (.str j.1.name), .d (.str j.1.by_), .d (iD 0), .d (iD j.1.version), .sl 13 j.1.fields.length, .sl 14 j.1.depends.length])) :: stO en j.2 s)
  (fun j => 1 ≤ j.1.fields.length ∧ j.1.fields.length ≤ 12 ∧ j.1.depends.length ≤ 8 ∧ PS K en ((Xbh (22 - (j.1.fields.length + j.1.depends.length)) j.1 >>= fun x => pure { s with schemas := s.schemas ++ [x] }) j.2)) (fun j => 20 - (j.1.fields.length + j.1.depends.length)) (⟨_, _, _, [⟨_, _, _⟩], []⟩, _) ⟨by simp, by simp, by simp, h⟩ (by simp) (by simp [Field.enc, TypeT.enc]) ?_
 clear h
 rintro ⟨x, ts1⟩ ⟨hf0, hf, hd, h⟩ R rn re rr rp
 dsimp only at hf0 hf hd h rn
 obtain ⟨n, hn⟩ : ∃ n, 22 - (x.fields.length + x.depends.length) = n + 1 := ⟨21 - (x.fields.length + x.depends.length), by omega⟩
 rw [hn, Xbh, Xt] at h
 simp [X7g]
 refine Y6 hP (S := Yy s) (by simp) (by simp) _ _ (PS.bind h (fun ts' e h => ?_) (fun a ts' ha h => ?_))
 ·simp
  refine rp _ _ _ ?_
  simp
  exact fin _ _ h _ _ _ _
 cases a with
 | true =>
  simp only [if_true, Yr] at h
  simp [Xsl]
  refine re _ _ _ ?_
  simp
  exact ⟨by have := hs.schemas; omega, Xj (s := { s with schemas := s.schemas ++ [x] }) h (by simp) (by simp [young]; rfl)⟩
 | false =>
  simp only [Bool.false_eq_true, if_false] at h
  simp [Xsl, X6e]
  refine Q5 hP (S := Yy s) (ts := ts') (en := en) (by simp) (by simp) _ _ ?_
  cases hn1 : Xh 1 [102, 105, 101, 108, 100] ts' with
  | true =>
   rw [Ydy hn1, Xt] at h
   simp [Xu6]
   refine Xaw hP (S := Yy s) (by simp) (by simp) _ 12 (PS.bind h (fun ts' e h => ?_) (fun a ts' ha h => ?_))
   ·simp
    refine rp _ _ _ ?_
    simp
    exact fin _ _ h _ _ _ _
   have hlt : x.fields.length < 12 := by
    simp only [Wz] at ha
    split at ha
    ·cases ha
    ·omega
   rw [Xt] at h
   simp [Xjf]
   refine ⟨?_, ?_⟩
   all_goals
    refine X8j hP (S := Yy s) (by simp) (by simp) hI (PS.bind h (fun ts' e h => ?_) (fun a ts' ha h => ?_))
    ·simp
     refine rp _ _ _ ?_
     simp
     exact fin _ _ h _ _ _ _
    have hsh := Xme ha
    simp [hsh]
    refine ⟨by omega, ?_⟩
    refine rn [] ({ x with fields := x.fields ++ [a] }, ts') _ _ ⟨by first | exact hf0 | simp, by simp; omega, by simp; omega, ?_⟩ (by simp; omega) (by simp) (by simp [young]) (by simp [young]) (by simp [young, Ux])
    simp only [List.length_append, List.length_singleton]
    rw [show 22 - (x.fields.length + 1 + x.depends.length) = n by omega]
    exact h
  | false =>
   rw [Yfg hn1] at h
   simp [Xu6]
   refine Q5 hP (S := Yy s) (ts := ts') (en := en) (by simp) (by simp) _ _ ?_
   cases hn2 : Xh 1 [100, 101, 112, 101, 110, 100] ts' with
   | false =>
    rw [Yfg hn2] at h
    simp [Xze]
    refine Ws hP (S := Yy s) (ts := ts') (en := en) (by simp) (by simp) _ ?_
    simp
    refine rp _ _ _ ?_
    simp
    exact fin _ _ h _ _ _ _
   | true =>
    rw [Ydy hn2, Xt] at h
    simp [Xze]
    refine Xaw hP (S := Yy s) (by simp) (by simp) _ 8 (PS.bind h (fun ts' e h => ?_) (fun a ts' ha h => ?_))
    ·simp
     refine rp _ _ _ ?_
     simp
     exact fin _ _ h _ _ _ _
    have hlt : x.depends.length < 8 := by
     simp only [Wz] at ha
     split at ha
     ·cases ha
     ·omega
    rw [Xt] at h
    simp [X9z]
    refine ⟨?_, ?_⟩
    all_goals
     refine X1t hP (S := Yy s) (by simp) (by simp) (PS.bind h (fun ts' e h => ?_) (fun a ts' ha h => ?_))
     ·simp
      refine rp _ _ _ ?_
      simp
      exact fin _ _ h _ _ _ _
     have hsh := Xi4 a
     simp [hsh]
     refine ⟨by omega, ?_⟩
     refine rn [] ({ x with depends := x.depends ++ [a] }, ts') _ _ ⟨by first | exact hf0 | simp, by simp; omega, by simp; omega, ?_⟩ (by simp; omega) (by simp) (by simp [young]) (by simp [young]) (by simp [young, Ux])
     simp only [List.length_append, List.length_singleton]
     rw [show 22 - (x.fields.length + (x.depends.length + 1)) = n by omega]
     exact h
end
end Go.Proofs.YtanpgmgkmfckaaaGreatDoor
/- Plain laws of the parser of sources: what it reads is at the front; a source cut where it failed fails at its end alone. No program. -/
namespace Go.Sx
open Go Go.Ab Go.Lx
def R.rest {α : Type} : R α → List Tok
 | .ok _ r => r
 | .err r _ => r
def R.End {α : Type} : R α → Prop
 | .ok _ r => r = []
 | .err r _ => r = []
def R.map {α : Type} (g : Tok → Tok) : R α → R α
 | .ok a r => .ok a (r.map g)
 | .err r e => .err (r.map g) e
def Wn {α : Type} (m : M α) (pre post : List Tok) : Prop := match m (pre ++ post) with
 | .ok a r => (∃ mid, r = mid ++ post ∧ m pre = .ok a mid) ∨ (r.length < post.length ∧ (m pre).End)
 | .err r e => (∃ mid, mid ≠ [] ∧ r = mid ++ post ∧ m pre = .err mid e) ∨ (r.length ≤ post.length ∧ (m pre).End)
def Mv (g : Tok → Tok) : Prop := ∀ t, (g t).kind = t.kind ∧ (g t).text = t.text ∧ (g t).n = t.n
structure Good {α : Type} (m : M α) : Prop where
 sfx : ∀ ts, (m ts).rest <:+ ts
 loc : ∀ pre post, Wn m pre post
 mv : ∀ g, Mv g → ∀ ts, m (ts.map g) = (m ts).map g
def Z7 {α : Type} (m : M α) : Prop := ∀ ts a r, m ts = .ok a r → r.length < ts.length
section
variable {α β : Type}
theorem Good.ok {m : M α} (h : Good m) {ts r : List Tok} {a : α} (e : m ts = .ok a r) : r <:+ ts := by have := h.sfx ts; rw [e] at this; exact this
theorem Good.er {m : M α} (h : Good m) {ts r : List Tok} {e' : Int} (e : m ts = .err r e') : r <:+ ts := by have := h.sfx ts; rw [e] at this; exact this
theorem Good.end_nil {m : M α} (h : Good m) : (m []).End := by
 have := h.sfx []
 cases e : m [] with
 | ok a r => rw [e] at this; exact List.suffix_nil.1 this
 | err r x => rw [e] at this; exact List.suffix_nil.1 this
theorem Good.pure (a : α) : Good (pure a : M α) := ⟨fun ts => List.suffix_rfl, fun pre post => .inl ⟨pre, rfl, rfl⟩, fun _ _ _ => rfl⟩
theorem Good.fail (e : Int) : Good (fail e : M α) := by
 refine ⟨fun ts => List.suffix_rfl, fun pre post => ?_, fun _ _ _ => rfl⟩
 simp only [Wn, Sx.fail]
 cases pre with
 | nil => exact .inr ⟨by simp, rfl⟩
 | cons x p => exact .inl ⟨x :: p, by simp, rfl, rfl⟩
theorem Good.bind {m : M α} {f : α → M β} (hm : Good m) (hf : ∀ a, Good (f a)) : Good (m >>= f) := by
 refine ⟨fun ts => ?_, fun pre post => ?_, fun g hg ts => ?_⟩
 ·rw [Xe]
  have h1 := hm.sfx ts
  cases e : m ts with
  | ok a r => rw [e] at h1; exact ((hf a).sfx r).trans h1
  | err r x => rw [e] at h1; exact h1
 ·have h1 := hm.loc pre post
  unfold Wn at h1 ⊢
  rw [Xe]
  cases e : m (pre ++ post) with
  | ok a r =>
   rw [e] at h1
   simp only at h1 ⊢
   rcases h1 with ⟨mid, rfl, h2⟩ | ⟨h2, h3⟩
   ·have h4 := (hf a).loc mid post
    unfold Wn at h4
    rw [Xe, h2]
    exact h4
   ·have h6 : ((m >>= f) pre).End := by
     rw [Xe]
     cases e2 : m pre with
     | ok a' r' =>
      rw [e2] at h3
      simp only [R.End] at h3
      subst h3
      exact (hf a').end_nil
     | err r' x => rw [e2] at h3; exact h3
    cases e3 : f a r with
    | ok b r2 => exact .inr ⟨Nat.lt_of_le_of_lt ((hf a).ok e3).length_le h2, h6⟩
    | err r2 x => exact .inr ⟨Nat.le_of_lt (Nat.lt_of_le_of_lt ((hf a).er e3).length_le h2), h6⟩
  | err r x =>
   rw [e] at h1
   simp only at h1 ⊢
   rcases h1 with ⟨mid, h0, rfl, h2⟩ | ⟨h2, h3⟩
   ·exact .inl ⟨mid, h0, rfl, by rw [Xe, h2]⟩
   ·refine .inr ⟨h2, ?_⟩
    rw [Xe]
    cases e2 : m pre with
    | ok a' r' =>
     rw [e2] at h3
     simp only [R.End] at h3
     subst h3
     exact (hf a').end_nil
    | err r' x => rw [e2] at h3; exact h3
 ·rw [Xe, Xe, hm.mv g hg ts]
  cases m ts with
  | ok a r => exact (hf a).mv g hg r
  | err r x => rfl
theorem Good.ite {c : Prop} [Decidable c] {a b : M α} (ha : Good a) (hb : Good b) : Good (if c then a else b) := by split <;> assumption
theorem Xbk {g : Tok → Tok} (hg : Mv g) (k : Int) (t : B) (ts : List Tok) : Xh k t (ts.map g) = Xh k t ts := by
 cases ts with
 | nil => rfl
 | cons x r => simp only [List.map_cons, Xh, (hg x).1, (hg x).2.1]
theorem Z7.bind {m : M α} {f : α → M β} (hm : Z7 m) (hf : ∀ a, Good (f a)) : Z7 (m >>= f) := fun ts b r h => by
 rw [Xe] at h
 cases e : m ts with
 | ok a r1 => rw [e] at h; exact Nat.lt_of_le_of_lt ((hf a).ok h).length_le (hm _ _ _ e)
 | err r1 x => rw [e] at h; cases h
theorem Z7.bind2 {m : M α} {f : α → M β} (hm : Good m) (hf : ∀ a, Z7 (f a)) : Z7 (m >>= f) := fun ts b r h => by
 rw [Xe] at h
 cases e : m ts with
 | ok a r1 => rw [e] at h; exact Nat.lt_of_lt_of_le (hf a _ _ _ h) (hm.ok e).length_le
 | err r1 x => rw [e] at h; cases h
theorem Good.ifN {k : Int} {t : B} {a b : M α} (ha : Good a) (he : Z7 a) (hb : Good b) : Good (fun ts => if Xh k t ts then a ts else b ts) := by
 refine ⟨fun ts => ?_, fun pre post => ?_, fun g hg ts => ?_⟩
 ·split
  ·exact ha.sfx ts
  ·exact hb.sfx ts
 ·cases pre with
  | nil =>
   have hl := hb.loc [] post
   have hn : Xh k t [] = false := rfl
   simp only [Wn, List.nil_append, hn, Bool.false_eq_true, if_false] at hl ⊢
   split
   ·rename_i x y z hc
    split at hc
    ·exact .inr ⟨he _ _ _ hc, hb.end_nil⟩
    ·rw [hc] at hl; exact hl
   ·rename_i x y z hc
    split at hc
    ·exact .inr ⟨(ha.er hc).length_le, hb.end_nil⟩
    ·rw [hc] at hl; exact hl
  | cons x p =>
   have hn : Xh k t (x :: p ++ post) = Xh k t (x :: p) := rfl
   have h1 := ha.loc (x :: p) post
   have h2 := hb.loc (x :: p) post
   cases hc : Xh k t (x :: p) with
   | true => simp only [Wn, hn, hc, if_true] at h1 ⊢; exact h1
   | false => simp only [Wn, hn, hc, Bool.false_eq_true, if_false] at h2 ⊢; exact h2
 ·simp only [Xbk hg]
  split
  ·exact ha.mv g hg ts
  ·exact hb.mv g hg ts
theorem Vc {k : Int} {t : B} {f : Tok → α} (hf : ∀ g, Mv g → ∀ x, f (g x) = f x) : Good (fun ts => if Xh k t ts then .ok (f (ts.headD default)) ts.tail else .err ts 100 : M α) ∧ Z7 (fun ts => if Xh k t ts then .ok (f (ts.headD default)) ts.tail else .err ts 100 : M α) := by
 have he : Z7 (fun ts => if Xh k t ts then .ok (f (ts.headD default)) ts.tail else .err ts 100 : M α) := fun ts a r h => by
  cases ts with
  | nil => simp [Xh] at h
  | cons x p =>
   simp only at h
   split at h
   ·cases h; simp
   ·cases h
 refine ⟨⟨fun ts => ?_, fun pre post => ?_, fun g hg ts => ?_⟩, he⟩
 ·split
  ·exact List.tail_suffix _
  ·exact List.suffix_rfl
 ·cases pre with
  | nil =>
   cases hp : Xh k t post with
   | true =>
    have : post ≠ [] := by intro e; subst e; simp [Xh] at hp
    simp only [Wn, List.nil_append, hp, if_true]
    exact .inr ⟨by have := List.length_pos_iff.2 this; simp; omega, by simp [Xh, R.End]⟩
   | false =>
    simp only [Wn, List.nil_append, hp, Bool.false_eq_true, if_false]
    exact .inr ⟨Nat.le_refl _, by simp [Xh, R.End]⟩
  | cons x p =>
   have hn : Xh k t (x :: p ++ post) = Xh k t (x :: p) := rfl
   cases hp : Xh k t (x :: p) with
   | true =>
    simp only [Wn, hn, hp, if_true]
    exact .inl ⟨p, by simp, by simp⟩
   | false =>
    simp only [Wn, hn, hp, Bool.false_eq_true, if_false]
    exact .inl ⟨x :: p, by simp, by simp, rfl⟩
 ·simp only [Xbk hg]
  cases ts with
  | nil => simp [Xh, R.map]
  | cons x p =>
   cases hp : Xh k t (x :: p) with
   | true => simp [R.map, hf g hg]
   | false => simp [R.map]
end
theorem Xyl : X8 = fun ts => if Xh 1 [] ts then .ok (ts.headD default).text ts.tail else .err ts 100 := by
 funext ts; simp only [X8, Xe, Jv]; cases Xh 1 [] ts <;> rfl
theorem Xtx (t : B) : Yp t = fun ts => if Xh 1 t ts then .ok () ts.tail else .err ts 100 := by
 funext ts; simp only [Yp, Xe, Jv]; cases Xh 1 t ts <;> rfl
theorem Xxb (t : B) : X3 t = fun ts => if Xh 3 t ts then .ok () ts.tail else .err ts 100 := by
 funext ts; simp only [X3, Xe, Jv]; cases Xh 3 t ts <;> rfl
theorem Xn : Good X8 := by rw [Xyl]; exact (Vc (f := fun x => x.text) fun g hg x => (hg x).2.1).1
theorem Xvp : Z7 X8 := by rw [Xyl]; exact (Vc (f := fun x => x.text) fun g hg x => (hg x).2.1).2
theorem Xy (t : B) : Good (Yp t) := by rw [Xtx]; exact (Vc (f := fun _ => ()) fun g hg x => rfl).1
theorem Yx (t : B) : Z7 (Yp t) := by rw [Xtx]; exact (Vc (f := fun _ => ()) fun g hg x => rfl).2
theorem Xk (t : B) : Good (X3 t) := by rw [Xxb]; exact (Vc (f := fun _ => ()) fun g hg x => rfl).1
theorem Xh2 (t : B) : Z7 (X3 t) := by rw [Xxb]; exact (Vc (f := fun _ => ()) fun g hg x => rfl).2
theorem X2 (k : Int) (t : B) : Good (Xr k t) := by
 refine ⟨fun ts => ?_, fun pre post => ?_, fun g hg ts => ?_⟩
 ·simp only [Xr]
  split
  ·exact List.tail_suffix _
  ·exact List.suffix_rfl
 ·cases pre with
  | nil =>
   cases hp : Xh k t post with
   | true =>
    have : post ≠ [] := by intro e; subst e; simp [Xh] at hp
    simp only [Wn, Xr, List.nil_append, hp, if_true]
    exact .inr ⟨by have := List.length_pos_iff.2 this; simp; omega, by simp [Xh, R.End]⟩
   | false =>
    simp only [Wn, Xr, List.nil_append, hp, Bool.false_eq_true, if_false]
    exact .inl ⟨[], rfl, by simp [Xh]⟩
  | cons x p =>
   have hn : Xh k t (x :: p ++ post) = Xh k t (x :: p) := rfl
   cases hp : Xh k t (x :: p) with
   | true =>
    simp only [Wn, Xr, hn, hp, if_true]
    exact .inl ⟨p, by simp, by simp⟩
   | false =>
    simp only [Wn, Xr, hn, hp, Bool.false_eq_true, if_false]
    exact .inl ⟨x :: p, by simp, rfl⟩
 ·simp only [Xr, Xbk hg]
  cases ts with
  | nil => simp [Xh, R.map]
  | cons x p =>
   cases hp : Xh k t (x :: p) with
   | true => simp [R.map]
   | false => simp [R.map]
theorem Up (lo hi : Int) : Xx lo hi [] = .err [] 100 := by simp [Xx, Xh]
theorem Vr (lo hi : Int) (x : Tok) (p : List Tok) : Xx lo hi (x :: p) = if Xh 2 [] [x] && decide (lo ≤ x.n) && decide (x.n ≤ hi) then .ok x.n p else .err (x :: p) 100 := by
 simp only [Xx, List.headD_cons, List.tail_cons]; rfl
theorem Yv (lo hi : Int) : Good (Xx lo hi) := by
 refine ⟨fun ts => ?_, fun pre post => ?_, fun g hg ts => ?_⟩
 ·simp only [Xx]
  split
  ·exact List.tail_suffix _
  ·exact List.suffix_rfl
 ·cases pre with
  | nil =>
   cases post with
   | nil => simp only [Wn, List.append_nil, Up]; exact .inr ⟨Nat.le_refl _, rfl⟩
   | cons y q =>
    simp only [Wn, List.nil_append, Up, Vr]
    split
    ·rename_i h; split at h
     ·cases h; exact .inr ⟨by simp, rfl⟩
     ·cases h
    ·rename_i h; split at h
     ·cases h
     ·cases h; exact .inr ⟨Nat.le_refl _, rfl⟩
  | cons x p =>
   simp only [Wn, List.cons_append, Vr]
   split
   ·rename_i h; split at h
    ·rename_i hc; cases h; exact .inl ⟨p, rfl, by rw [if_pos hc]⟩
    ·cases h
   ·rename_i h; split at h
    ·cases h
    ·rename_i hc; cases h; exact .inl ⟨x :: p, by simp, rfl, by rw [if_neg hc]⟩
 ·cases ts with
  | nil => simp [Up, R.map]
  | cons x p =>
   have := Xbk hg 2 [] [x]
   simp only [List.map_cons, List.map_nil] at this
   simp only [List.map_cons, Vr, this, (hg x).2.2]
   split <;> simp [R.map]
theorem Xoa (lo hi : Int) : Z7 (Xx lo hi) := fun ts a r h => by
 cases ts with
 | nil => rw [Up] at h; cases h
 | cons x p =>
  rw [Vr] at h
  split at h
  ·cases h; simp
  ·cases h
theorem X7 (a b : Nat) : Good (Wz a b) := by
 by_cases h : a = b
 ·have : Wz a b = fail 2 := by funext ts; simp [Wz, h, fail]
  rw [this]; exact .fail 2
 ·have : Wz a b = pure () := by funext ts; simp [Wz, h]
  rw [this]; exact .pure ()
theorem Good.ifM {α : Type} {k : Int} {t : B} {a b : M α} (ha : Good a) (he : Z7 a) (hb : Good b) : Good (ifM (Xh k t) a b) := Good.ifN ha he hb
theorem Y1 {α : Type} {k : Int} {t : B} {read : M α} (hr : Good read) (he : Z7 read) : ∀ n, Good (Xs (Xh k t) read n)
 | 0 => by
  have : Xs (Xh k t) read 0 = fun ts => if Xh k t ts then .err ts 2 else .ok [] ts := rfl
  rw [this]
  have := Good.ifN (k := k) (t := t) (a := (fail 2 : M (List α))) (b := pure []) (.fail 2) (fun _ _ _ h => by cases h) (.pure [])
  exact this
 | n + 1 => by
  have : Xs (Xh k t) read (n + 1) = fun ts => if Xh k t ts then (read >>= fun a => Xs (Xh k t) read n >>= fun l => pure (a :: l) : M (List α)) ts else (pure [] : M (List α)) ts := rfl
  rw [this]
  exact Good.ifN (hr.bind fun a => (Y1 hr he n).bind fun l => .pure _) (he.bind fun a => (Y1 hr he n).bind fun l => .pure _) (.pure _)
theorem Ug : Good Xny := Xn.bind fun _ => (Xk _).bind fun _ => Xn.bind fun _ => .pure _
theorem Ve : Good Xae := Good.ifN ((Yv _ _).bind fun _ => .pure _) ((Xoa _ _).bind fun _ => .pure _) (Ug.bind fun _ => .pure _)
theorem Xhs : Good Xb0 := (Xy _).bind fun _ => Xn.bind fun _ => Xn.bind fun _ => (X2 _ _).bind fun _ => .ite (Ug.bind fun _ => (Xk _).bind fun _ => .pure _) ((Xk _).bind fun _ => .pure _)
theorem Xhp : Z7 Xb0 := (Yx _).bind fun _ => Xn.bind fun _ => Xn.bind fun _ => (X2 _ _).bind fun _ => .ite (Ug.bind fun _ => (Xk _).bind fun _ => .pure _) ((Xk _).bind fun _ => .pure _)
theorem Xvz : Good opM := (X2 _ _).bind fun _ => .ite (.pure _) ((X2 _ _).bind fun _ => .ite ((X2 _ _).bind fun _ => .pure _) ((Xk _).bind fun _ => (Xk _).bind fun _ => .pure _))
theorem Xdw : Good U5 := (Xy _).bind fun _ => Ve.bind fun _ => Xvz.bind fun _ => Ve.bind fun _ => (Xk _).bind fun _ => .pure _
theorem Xdy : Z7 U5 := (Yx _).bind fun _ => Ve.bind fun _ => Xvz.bind fun _ => Ve.bind fun _ => (Xk _).bind fun _ => .pure _
theorem Xpn : Good Xzo := (Xy _).bind fun _ => Xn.bind fun _ => (Xk _).bind fun _ => Ve.bind fun _ => (Xk _).bind fun _ => .pure _
theorem Xpe : Z7 Xzo := (Yx _).bind fun _ => Xn.bind fun _ => (Xk _).bind fun _ => Ve.bind fun _ => (Xk _).bind fun _ => .pure _
theorem Xeg : Good Xei := (X2 _ _).bind fun _ => .ite (Yv _ _) ((X2 _ _).bind fun _ => .ite ((Yv _ _).bind fun _ => .pure _) (.pure _))
theorem Xw5 : Good Xbd := Xn.bind fun _ => (Xk _).bind fun _ => Xn.bind fun _ => Xeg.bind fun _ => (Xk _).bind fun _ => .pure _
theorem Xuy : Z7 Xbd := Xvp.bind fun _ => (Xk _).bind fun _ => Xn.bind fun _ => Xeg.bind fun _ => (Xk _).bind fun _ => .pure _
theorem X0q : Good Xzr := (Xy _).bind fun _ => Ug.bind fun _ => (Xk _).bind fun _ => .pure _
theorem X1e : Z7 Xzr := (Yx _).bind fun _ => Ug.bind fun _ => (Xk _).bind fun _ => .pure _
theorem Xbn : ∀ n, Good (Xg4 n)
 | 0 => .pure _
 | n + 1 => (Yv _ _).bind fun _ => (Xbn n).bind fun _ => .pure _
theorem Qg (n : Nat) : Good (Vm n) := Xn.bind fun _ => (Y1 ((Xk _).bind fun _ => Xn) ((Xh2 _).bind fun _ => Xn) _).bind fun _ => .pure _
theorem Xif : Good Xdm := (X2 _ _).bind fun _ => .ite ((Yv _ _).bind fun _ => (Xy _).bind fun _ => (Yv _ _).bind fun _ => (X2 _ _).bind fun _ => .ite (Xn.bind fun _ => .pure _) (.pure _)) ((X2 _ _).bind fun _ => .ite (.pure _) ((X2 _ _).bind fun _ => .ite (.pure _) ((X2 _ _).bind fun _ => .ite ((Qg _).bind fun _ => .pure _) (.fail _))))
theorem Xqe : Good Jn := (Xy _).bind fun _ => Xn.bind fun _ => (Xk _).bind fun _ => Xif.bind fun _ => (Xbn 4).bind fun _ => (Xk _).bind fun _ => .pure _
theorem Xq0 : Z7 Jn := (Yx _).bind fun _ => Xn.bind fun _ => (Xk _).bind fun _ => Xif.bind fun _ => (Xbn 4).bind fun _ => (Xk _).bind fun _ => .pure _
theorem Xod : Good Xab := (Xy _).bind fun _ => (Qg _).bind fun _ => (Xy _).bind fun _ => Xn.bind fun _ => (Xk _).bind fun _ => .pure _
theorem Xmo : Z7 Xab := (Yx _).bind fun _ => (Qg _).bind fun _ => (Xy _).bind fun _ => Xn.bind fun _ => (Xk _).bind fun _ => .pure _
theorem Uj : ∀ n s, Good (Xbh n s)
 | 0, _ => .fail _
 | n + 1, s => (X2 _ _).bind fun _ => .ite (.pure _) (Good.ifM ((X7 _ _).bind fun _ => Xqe.bind fun _ => Uj n _) (Z7.bind2 (X7 _ _) fun _ => Xq0.bind fun _ => Uj n _)
  (Good.ifM ((X7 _ _).bind fun _ => Xod.bind fun _ => Uj n _) (Z7.bind2 (X7 _ _) fun _ => Xmo.bind fun _ => Uj n _) (.fail _)))
theorem Xyf (s : Src) : Good (Qf s) ∧ Z7 (Qf s) := ⟨(X7 _ _).bind fun _ => (Xy _).bind fun _ => Xn.bind fun _ => (Xk _).bind fun _ => .pure _, Z7.bind2 (X7 _ _) fun _ => (Yx _).bind fun _ => Xn.bind fun _ => (Xk _).bind fun _ => .pure _⟩
theorem Xdr (s : Src) : ∀ _ : Unit, Good (do let a ← X8; let b ← Xr 3 [61]; if b then do { let n ← Xx 2 1000; let o ← X8; X3 [59]; pure { s with units := s.units ++ [⟨a, some (n, o)⟩] } } else do { X3 [59]; pure { s with units := s.units ++ [⟨a, none⟩] } } : M Src) := fun _ => Xn.bind fun _ => (X2 _ _).bind fun _ => .ite ((Yv _ _).bind fun _ => Xn.bind fun _ => (Xk _).bind fun _ => .pure _) ((Xk _).bind fun _ => .pure _)
theorem X71 (s : Src) : Good (Xln s) ∧ Z7 (Xln s) := ⟨(X7 _ _).bind fun _ => (Xy _).bind (Xdr s), Z7.bind2 (X7 _ _) fun _ => (Yx _).bind (Xdr s)⟩
theorem Xas (s : Src) : ∀ _ : Unit, Good (do let a ← X8; Yp [98, 121]; let b ← X8; Yp [118, 101, 114, 115, 105, 111, 110]; let v ← Xx 1 255; Yp [115, 101, 108, 102]; let w ← Wl; X3 [123]; let x ← Xbh 21 ⟨a, b, v, [⟨[115, 101, 108, 102], .person, w⟩], []⟩; pure { s with schemas := s.schemas ++ [x] } : M Src) := fun _ => Xn.bind fun _ => (Xy _).bind fun _ => Xn.bind fun _ => (Xy _).bind fun _ => (Yv _ _).bind fun _ => (Xy _).bind fun _ => (Xbn 4).bind fun _ => (Xk _).bind fun _ => (Uj _ _).bind fun _ => .pure _
theorem Xtf (s : Src) : Good (Qq s) ∧ Z7 (Qq s) := ⟨(X7 _ _).bind fun _ => (Xy _).bind (Xas s), Z7.bind2 (X7 _ _) fun _ => (Yx _).bind (Xas s)⟩
theorem Xeo (s : Src) : ∀ _ : Unit, Good (do let a ← X8; X3 [123]; ifM (Xh 1 [102, 114, 111, 109]) (do { let f ← Xs (Xh 1 [102, 114, 111, 109]) Xb0 3; let w ← Xs (Xh 1 [119, 104, 101, 114, 101]) U5 8; let t ← Xs (Xh 1 [115, 101, 116]) Xzo 11; X3 [125]; pure { s with rules := s.rules ++ [⟨a, f, w, t⟩] } }) (fail 100) : M Src) := fun _ => Xn.bind fun _ => (Xk _).bind fun _ => by
 refine Good.ifM ?_ ?_ (.fail _)
 ·exact (Y1 Xhs Xhp _).bind fun _ => (Y1 Xdw Xdy _).bind fun _ => (Y1 Xpn Xpe _).bind fun _ => (Xk _).bind fun _ => .pure _
 ·exact Z7.bind2 (Y1 Xhs Xhp _) fun _ => Z7.bind2 (Y1 Xdw Xdy _) fun _ => Z7.bind2 (Y1 Xpn Xpe _) fun _ => (Xh2 _).bind fun _ => .pure _
theorem X6z (s : Src) : Good (Xjc s) ∧ Z7 (Xjc s) := ⟨(X7 _ _).bind fun _ => (Xy _).bind (Xeo s), Z7.bind2 (X7 _ _) fun _ => (Yx _).bind (Xeo s)⟩
theorem Jj (s : Src) : ∀ _ : Unit, Good (do let a ← X8; Yp [116, 111]; let b ← X8; X3 [123]; let l ← Xs (Xh 1 []) Xbd 11; X3 [125]; pure { s with converts := s.converts ++ [⟨a, b, l⟩] } : M Src) := fun _ => Xn.bind fun _ => (Xy _).bind fun _ => Xn.bind fun _ => (Xk _).bind fun _ => (Y1 Xw5 Xuy _).bind fun _ => (Xk _).bind fun _ => .pure _
theorem Xq2 (s : Src) : Good (Vw s) ∧ Z7 (Vw s) := ⟨(X7 _ _).bind fun _ => (Xy _).bind (Jj s), Z7.bind2 (X7 _ _) fun _ => (Yx _).bind (Jj s)⟩
theorem Q7 (s : Src) : ∀ _ : Unit, Good (do let a ← X8; X3 [123]; let l ← Xs (Xh 1 [109, 97, 121]) Xzr 32; Yp [109, 111, 115, 116]; let n ← Xx 0 32; X3 [59]; X3 [125]; pure { s with purposes := s.purposes ++ [⟨a, l, n⟩] } : M Src) := fun _ => Xn.bind fun _ => (Xk _).bind fun _ => (Y1 X0q X1e _).bind fun _ => (Xy _).bind fun _ => (Yv _ _).bind fun _ => (Xk _).bind fun _ => (Xk _).bind fun _ => .pure _
theorem Xrn (s : Src) : Good (Vp s) ∧ Z7 (Vp s) := ⟨(X7 _ _).bind fun _ => (Xy _).bind (Q7 s), Z7.bind2 (X7 _ _) fun _ => (Yx _).bind (Q7 s)⟩
def Xhn (t : B) (s : Src) : M Src :=
 if t = [105, 115, 115, 117, 101, 114] then Qf s
 else if t = [117, 110, 105, 116] then Xln s
 else if t = [115, 99, 104, 101, 109, 97] then Qq s
 else if t = [100, 101, 114, 105, 118, 101] then Xjc s
 else if t = [99, 111, 110, 118, 101, 114, 116] then Vw s
 else if t = [112, 117, 114, 112, 111, 115, 101] then Vp s
 else fail 100
theorem Xag (t : B) (s : Src) : Good (Xhn t s) ∧ Z7 (Xhn t s) := by
 unfold Xhn
 split
 ·exact Xyf s
 split
 ·exact X71 s
 split
 ·exact Xtf s
 split
 ·exact X6z s
 split
 ·exact Xq2 s
 split
 ·exact Xrn s
 ·exact ⟨.fail _, fun _ _ _ h => by cases h⟩
def U1 (s : Src) : M Src := fun ts => match ts with
 | [] => .err [] 100
 | x :: r => if x.kind = 1 then Xhn x.text s (x :: r) else .err (x :: r) 100
theorem Xbl (s : Src) : Z7 (U1 s) := fun ts a r h => by
 cases ts with
 | nil => cases h
 | cons x p =>
  simp only [U1] at h
  split at h
  ·exact (Xag _ _).2 _ _ _ h
  ·cases h
theorem X2z (s : Src) : Good (U1 s) := by
 refine ⟨fun ts => ?_, fun pre post => ?_, fun g hg ts => ?_⟩
 ·cases ts with
  | nil => exact List.suffix_rfl
  | cons x p =>
   simp only [U1]
   split
   ·exact (Xag _ _).1.sfx _
   ·exact List.suffix_rfl
 ·cases pre with
  | nil =>
   have hs : (U1 s post).rest <:+ post := by
    cases post with
    | nil => exact List.suffix_rfl
    | cons x p =>
     simp only [U1]
     split
     ·exact (Xag _ _).1.sfx _
     ·exact List.suffix_rfl
   simp only [Wn, List.nil_append]
   cases e : U1 s post with
   | ok a r => exact .inr ⟨Xbl s _ _ _ e, rfl⟩
   | err r x => rw [e] at hs; exact .inr ⟨hs.length_le, rfl⟩
  | cons x p =>
   by_cases hk : x.kind = 1
   ·have := (Xag x.text s).1.loc (x :: p) post
    simpa only [Wn, U1, List.cons_append, hk, if_true] using this
   ·simp only [Wn, U1, List.cons_append, hk, if_false]
    exact .inl ⟨x :: p, by simp, rfl, rfl⟩
 ·cases ts with
  | nil => rfl
  | cons x p =>
   simp only [U1, List.map_cons, (hg x).1, (hg x).2.1]
   split
   ·have := (Xag x.text s).1.mv g hg (x :: p)
    simpa using this
   ·rfl
def Ym : Nat → Src → M Src
 | 0, s => fun ts => match ts with
  | [] => .ok s []
  | x :: r => .err (x :: r) 0
 | n + 1, s => fun ts => match ts with
  | [] => .ok s []
  | x :: r => (U1 s >>= Ym n) (x :: r)
theorem Xep (n : Nat) (s : Src) : Ym n s [] = .ok s [] := by cases n <;> rfl
theorem Zh (n : Nat) (s : Src) (x : Tok) (r : List Tok) : Ym (n + 1) s (x :: r) = (U1 s >>= Ym n) (x :: r) := rfl
theorem Uu : ∀ n s, Good (Ym n s)
 | 0, s => by
  refine ⟨fun ts => ?_, fun pre post => ?_, fun g hg ts => ?_⟩
  ·cases ts <;> exact List.suffix_rfl
  ·cases pre with
   | nil =>
    cases post with
    | nil => exact .inl ⟨[], rfl, rfl⟩
    | cons x p => exact .inr ⟨Nat.le_refl _, rfl⟩
   | cons x p => exact .inl ⟨x :: p, by simp, rfl, rfl⟩
  ·cases ts <;> rfl
 | n + 1, s => by
  have hb : Good (U1 s >>= Ym n) := (X2z s).bind (Uu n)
  have he : Z7 (U1 s >>= Ym n) := (Xbl s).bind (Uu n)
  refine ⟨fun ts => ?_, fun pre post => ?_, fun g hg ts => ?_⟩
  ·cases ts with
   | nil => exact List.suffix_rfl
   | cons x p => exact hb.sfx (x :: p)
  ·cases pre with
   | nil =>
    cases post with
    | nil => exact .inl ⟨[], rfl, rfl⟩
    | cons x p =>
     simp only [Wn, List.nil_append, Zh]
     cases e : (U1 s >>= Ym n) (x :: p) with
     | ok a r => exact .inr ⟨he _ _ _ e, rfl⟩
     | err r y => exact .inr ⟨(hb.er e).length_le, rfl⟩
   | cons x p =>
    have := hb.loc (x :: p) post
    simpa only [Wn, List.cons_append, Zh] using this
  ·cases ts with
   | nil => rfl
   | cons x p =>
    have := hb.mv g hg (x :: p)
    simpa only [List.map_cons, Zh] using this
theorem Xck : ∀ (n : Nat) (s : Src) (ts : List Tok), ts.length ≤ n → Ym n s ts = Ym ts.length s ts := by
 have key : ∀ (n : Nat) (s : Src) (ts : List Tok), ts.length ≤ n → Ym n s ts = Ym (n + 1) s ts := by
  intro n
  induction n with
  | zero => intro s ts h; cases ts with
   | nil => rfl
   | cons x r => simp at h
  | succ n ih =>
   intro s ts h
   cases ts with
   | nil => rfl
   | cons x r =>
    rw [Zh, Zh, Xe, Xe]
    cases e : U1 s (x :: r) with
    | err a b => rfl
    | ok a r1 =>
     have := Xbl s _ _ _ e
     simp only [List.length_cons] at this h
     exact ih a r1 (by omega)
 intro n s ts h
 obtain ⟨d, rfl⟩ := Nat.exists_eq_add_of_le h
 clear h
 induction d with
 | zero => rfl
 | succ d ih => rw [← ih]; exact (key (ts.length + d) s ts (by omega)).symm
abbrev Yad : Src := ⟨[], [], [], [], [], []⟩
def U7 (ts : List Tok) : R Src := Ym ts.length Yad ts
end Go.Sx
/- Plain laws of the parser of sources: a definition is room for it, its text, and the addition of it. No program. -/
namespace Go.Sx
open Go Go.Ab Go.Lx
section
variable {α β : Type}
theorem Yrl {c : Prop} [Decidable c] (a b : M α) (f : α → M β) : ((if c then a else b) >>= f) = if c then a >>= f else b >>= f := by split <;> rfl
theorem Yub {c : List Tok → Bool} (a b : M α) (f : α → M β) : ((ifM c a b) >>= f) = ifM c (a >>= f) (b >>= f) := by
 funext ts; simp only [Xe, ifM]; cases c ts <;> rfl
theorem Yj1 (e : Int) (f : α → M β) : ((fail e : M α) >>= f) = fail e := rfl
def Xi8 (n m : Nat) (body : M α) (g : α → Src) : M Src := Wz n m >>= fun _ => body >>= fun a => pure (g a)
theorem Jx {n m : Nat} {body : M α} {g : α → Src} {ts r : List Tok} {s : Src} (h : Xi8 n m body g ts = .ok s r) : n ≠ m ∧ ∃ a, body ts = .ok a r ∧ s = g a := by
 simp only [Xi8, Xe, Wz] at h
 by_cases he : n = m
 ·simp [he] at h
 ·simp only [he, if_false] at h
  cases hb : body ts with
  | ok a t1 => simp only [hb, X9t, R.ok.injEq] at h; exact ⟨he, a, by rw [h.2], h.1.symm⟩
  | err a b => simp [hb] at h
end
def Xbz : M B := do
 Yp [105, 115, 115, 117, 101, 114]
 let a ← X8
 X3 [59]
 pure a
theorem Xh7 (s : Src) : Qf s = Xi8 s.issuers.length 8 Xbz fun a => { s with issuers := s.issuers ++ [a] } := by
 simp only [Qf, Xi8, Xbz, Xt, Yr]
def Xr5 : M UnitT := do
 Yp [117, 110, 105, 116]
 let a ← X8
 let b ← Xr 3 [61]
 if b then do
  let n ← Xx 2 1000
  let o ← X8
  X3 [59]
  pure ⟨a, some (n, o)⟩
 else do
  X3 [59]
  pure ⟨a, none⟩
theorem Xsx (s : Src) : Xln s = Xi8 s.units.length 16 Xr5 fun a => { s with units := s.units ++ [a] } := by
 simp only [Xln, Xi8, Xr5, Xt, Yr, Yrl]
def Xcf : M Schema := do
 Yp [115, 99, 104, 101, 109, 97]
 let a ← X8
 Yp [98, 121]
 let b ← X8
 Yp [118, 101, 114, 115, 105, 111, 110]
 let v ← Xx 1 255
 Yp [115, 101, 108, 102]
 let w ← Wl
 X3 [123]
 Xbh 21 ⟨a, b, v, [⟨[115, 101, 108, 102], .person, w⟩], []⟩
theorem Xik (s : Src) : Qq s = Xi8 s.schemas.length 16 Xcf fun a => { s with schemas := s.schemas ++ [a] } := by
 simp only [Qq, Xi8, Xcf, Xt, Yr]
def Xt1 : M Rule := do
 Yp [100, 101, 114, 105, 118, 101]
 let a ← X8
 X3 [123]
 ifM (Xh 1 [102, 114, 111, 109]) (do
  let f ← Xs (Xh 1 [102, 114, 111, 109]) Xb0 3
  let w ← Xs (Xh 1 [119, 104, 101, 114, 101]) U5 8
  let t ← Xs (Xh 1 [115, 101, 116]) Xzo 11
  X3 [125]
  pure ⟨a, f, w, t⟩) (fail 100)
theorem Xtb (s : Src) : Xjc s = Xi8 s.rules.length 16 Xt1 fun a => { s with rules := s.rules ++ [a] } := by
 simp only [Xjc, Xi8, Xt1, Xt, Yr, Yub, Yj1]
def Q1 : M Convert := do
 Yp [99, 111, 110, 118, 101, 114, 116]
 let a ← X8
 Yp [116, 111]
 let b ← X8
 X3 [123]
 let l ← Xs (Xh 1 []) Xbd 11
 X3 [125]
 pure ⟨a, b, l⟩
theorem Xeb (s : Src) : Vw s = Xi8 s.converts.length 16 Q1 fun a => { s with converts := s.converts ++ [a] } := by
 simp only [Vw, Xi8, Q1, Xt, Yr]
def Qu : M Purpose := do
 Yp [112, 117, 114, 112, 111, 115, 101]
 let a ← X8
 X3 [123]
 let l ← Xs (Xh 1 [109, 97, 121]) Xzr 32
 Yp [109, 111, 115, 116]
 let n ← Xx 0 32
 X3 [59]
 X3 [125]
 pure ⟨a, l, n⟩
theorem Xeq (s : Src) : Vp s = Xi8 s.purposes.length 8 Qu fun a => { s with purposes := s.purposes ++ [a] } := by
 simp only [Vp, Xi8, Qu, Xt, Yr]
theorem Xql {t : B} {s s' : Src} {ts r : List Tok} (h : Xhn t s ts = .ok s' r) :
  (s.issuers.length ≠ 8 ∧ ∃ a, s' = { s with issuers := s.issuers ++ [a] }) ∨ (s.units.length ≠ 16 ∧ ∃ a, s' = { s with units := s.units ++ [a] }) ∨ (s.schemas.length ≠ 16 ∧ ∃ a, s' = { s with schemas := s.schemas ++ [a] }) ∨
  (s.rules.length ≠ 16 ∧ ∃ a, s' = { s with rules := s.rules ++ [a] }) ∨ (s.converts.length ≠ 16 ∧ ∃ a, s' = { s with converts := s.converts ++ [a] }) ∨ (s.purposes.length ≠ 8 ∧ ∃ a, s' = { s with purposes := s.purposes ++ [a] }) := by
 unfold Xhn at h
 split at h
 ·rw [Xh7] at h; obtain ⟨h1, a, _, h2⟩ := Jx h; exact .inl ⟨h1, a, h2⟩
 split at h
 ·rw [Xsx] at h; obtain ⟨h1, a, _, h2⟩ := Jx h; exact .inr (.inl ⟨h1, a, h2⟩)
 split at h
 ·rw [Xik] at h; obtain ⟨h1, a, _, h2⟩ := Jx h; exact .inr (.inr (.inl ⟨h1, a, h2⟩))
 split at h
 ·rw [Xtb] at h; obtain ⟨h1, a, _, h2⟩ := Jx h; exact .inr (.inr (.inr (.inl ⟨h1, a, h2⟩)))
 split at h
 ·rw [Xeb] at h; obtain ⟨h1, a, _, h2⟩ := Jx h; exact .inr (.inr (.inr (.inr (.inl ⟨h1, a, h2⟩))))
 split at h
 ·rw [Xeq] at h; obtain ⟨h1, a, _, h2⟩ := Jx h; exact .inr (.inr (.inr (.inr (.inr ⟨h1, a, h2⟩))))
 ·cases h
theorem X2a {t : B} {s s' : Src} {ts r : List Tok} (hs : Few s) (h : Xhn t s ts = .ok s' r) : Few s' := by
 obtain ⟨f1, f2, f3, f4, f5, f6⟩ := hs
 rcases Xql h with ⟨h1, a, rfl⟩ | ⟨h1, a, rfl⟩ | ⟨h1, a, rfl⟩ | ⟨h1, a, rfl⟩ | ⟨h1, a, rfl⟩ | ⟨h1, a, rfl⟩ <;> refine ⟨?_, ?_, ?_, ?_, ?_, ?_⟩ <;> simp <;> omega
theorem Ysx : Few Yad := ⟨by simp, by simp, by simp, by simp, by simp, by simp⟩
end Go.Sx
/- Plain facts on runs of bytes. No program. -/
namespace Go.Lx
open Go Go.Ab
theorem Xhj {i n : Nat} (h : i < n) (hn : n ≤ 1000000) : IntKind.i64.wrap ((i : Int) + 1) = (i : Int) + 1 := IntWalk.i64_in _ (by omega)
end Go.Lx
