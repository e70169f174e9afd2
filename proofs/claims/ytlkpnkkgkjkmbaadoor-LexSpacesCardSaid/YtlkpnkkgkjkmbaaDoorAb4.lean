/- The operations that only read: what they do to abstract values, what of the program's text they stand for, and that they do it. Over any program; no condition. -/
import Derived.Test.YtlkpnkkgkjkmbaaDoorAb3
namespace Go.Ab
open Go

/-! What each operation does -/

/-- the tree at a path of an object -/
def atO (objs : Objs) (id : Nat) (p : List Nat) : Option V := match lookO objs id with
  | some (.box _ t) => t.at p
  | _ => none
def pickK (K : V → Prop) : V → V → V → Prop
  | .d (.bool t), .d (.bool x), .d (.bool y) => K (.d (.bool (if t then x else y)))
  | .d (.bool t), x, y => (t = true → K x) ∧ (t = false → K y)
  | _, _, _ => False
def notK (K : V → Prop) : V → Prop
  | .d (.bool b) => K (.d (.bool (!b)))
  | _ => False
def negK (K : V → Prop) : V → Prop
  | .d (.int k n) => K (.d (.int k (k.wrap (0 - n))))
  | _ => False
def bitsI (op : BinOp) (k : IntKind) (x y : Int) : Int :=
  match op with
  | .and => k.wrap (BitVec.ofInt k.bits x &&& BitVec.ofInt k.bits y).toNat
  | .or => k.wrap (BitVec.ofInt k.bits x ||| BitVec.ofInt k.bits y).toNat
  | .xor => k.wrap (BitVec.ofInt k.bits x ^^^ BitVec.ofInt k.bits y).toNat
  | _ => k.wrap (BitVec.ofInt k.bits x &&& ~~~ BitVec.ofInt k.bits y).toNat
def intK (op : BinOp) (k k' : IntKind) (a b : Int) (K : V → Prop) : Prop :=
  match op with
  | .add => k = k' ∧ K (.d (.int k (k.wrap (a + b))))
  | .sub => k = k' ∧ K (.d (.int k (k.wrap (a - b))))
  | .mul => k = k' ∧ K (.d (.int k (k.wrap (a * b))))
  | .quo => k = k' ∧ b ≠ 0 ∧ K (.d (.int k (k.wrap (a.tdiv b))))
  | .rem => k = k' ∧ b ≠ 0 ∧ K (.d (.int k (a.tmod b)))
  | .and | .or | .xor | .andNot => k = k' ∧ K (.d (.int k (bitsI op k a b)))
  | .shl => 0 ≤ b ∧ K (.d (.int k (k.wrap (a * 2 ^ (min b.toNat k.bits)))))
  | .shr => 0 ≤ b ∧ K (.d (.int k (a.fdiv (2 ^ (min b.toNat k.bits)))))
  | .eql => k = k' ∧ K (.d (.bool (a == b)))
  | .neq => k = k' ∧ K (.d (.bool (a != b)))
  | .lss => k = k' ∧ K (.d (.bool (decide (a < b))))
  | .leq => k = k' ∧ K (.d (.bool (decide (a ≤ b))))
  | .gtr => k = k' ∧ K (.d (.bool (decide (b < a))))
  | .geq => k = k' ∧ K (.d (.bool (decide (b ≤ a))))
def strK (op : BinOp) (x y : List UInt8) (K : V → Prop) : Prop :=
  match op with
  | .add => x.length + y.length ≤ 9223372036854775807 ∧ K (.d (.str (x ++ y)))
  | .eql => K (.d (.bool (x == y)))
  | .neq => K (.d (.bool (x != y)))
  | .lss => K (.d (.bool (Op.bytesLess x y)))
  | .leq => K (.d (.bool (Op.bytesLess x y || x == y)))
  | .gtr => K (.d (.bool (!(Op.bytesLess x y || x == y))))
  | .geq => K (.d (.bool (!Op.bytesLess x y)))
  | _ => False
def binK (op : BinOp) (K : V → Prop) : V → V → Prop
  | .d (.int k a), .d (.int k' b) => intK op k k' a b K
  | .d (.str x), .d (.str y) => strK op x y K
  | _, _ => False
def beqK (e : Bool) (K : V → Prop) : V → V → Prop
  | .d (.bool x), .d (.bool y) => K (.d (.bool ((x == y) == e)))
  | _, _ => False
def isnilK (e : Bool) (K : V → Prop) : V → Prop
  | .d .nili => K (.d (.bool e))
  | .iface _ _ => K (.d (.bool (!e)))
  | .d (.iface _ _) => K (.d (.bool (!e)))
  | _ => False
/-- a pointer or a function beside nil -/
def pnilK (e : Bool) (K : V → Prop) : V → Prop
  | .d .nilp => K (.d (.bool e))
  | .d (.ref _) => K (.d (.bool (!e)))
  | .ptr _ _ => K (.d (.bool (!e)))
  | _ => False
def fnilK (e : Bool) (K : V → Prop) : V → Prop
  | .d .nilf => K (.d (.bool e))
  | .d (.fn _ _ _) => K (.d (.bool (!e)))
  | .fn _ _ _ => K (.d (.bool (!e)))
  | _ => False
/-- two pointers to one place -/
def peqK (objs : Objs) (e : Bool) (K : V → Prop) : V → V → Prop
  | .ptr i p, .ptr j q => i = j ∧ p = q ∧ (∃ v, atO objs i p = some v) ∧ K (.d (.bool e))
  | _, _ => False
/-- the address of a slice's cells -/
def usdK (objs : Objs) (K : V → Prop) : V → Prop
  | .sl id n => (∃ E sz xs, lookO objs id = some (.arr E sz xs) ∧ sz ≠ 0 ∧ n = xs.length ∧ xs ≠ []) ∧ K (.sd id n)
  | .d .nils => K (.d .nilp)
  | _ => False
def mkiV (t : Nat) : V → V
  | .d x => .d (.iface t x)
  | v => .iface t v
def mkfO (f : Nat) (fi ca : List V) : Option (List D) → Option (List D) → V
  | some l, some m => .d (.fn f l m)
  | _, _ => .fn f fi ca
def mkfV (f : Nat) (fi ca : List V) : V := mkfO f fi ca (V.allD fi) (V.allD ca)
def cviK (k : IntKind) (K : V → Prop) : V → Prop
  | .d (.int _ n) => K (.d (.int k (k.wrap n)))
  | _ => False
def cvsK (K : V → Prop) : V → Prop
  | .d (.str s) => K (.d (.str s))
  | _ => False
def idxK (K : V → Prop) : V → V → Prop
  | .d (.str s), .d (.int _ n) => (0 ≤ n ∧ n < s.length) ∧ K (.d (.int .u8 (s.getD n.toNat 0).toNat))
  | _, _ => False
def idxAK (z : Nat) (K : V → Prop) : V → V → Prop
  | .d (.list sz xs), .d (.int _ n) => z = sz ∧ (0 ≤ n ∧ n < xs.length) ∧ K (.d (.ref (xs.getD n.toNat default)))
  | _, _ => False
def kidsO : Option V → Option (List V)
  | some v => v.kids
  | none => none
def idxPK (objs : Objs) (len z : Nat) (K : V → Prop) : V → V → Prop
  | .ptr id p, .d (.int _ n) => (0 ≤ n ∧ n < len) ∧ (∃ ks, kidsO (atO objs id p) = some ks ∧ ks.length = len ∧ ∀ k ∈ ks, k.size = z) ∧ K (.ptr id (p ++ [n.toNat]))
  | .d (.ref (.agg xs)), .d (.int _ n) => (0 ≤ n ∧ n < len) ∧ xs.length = len ∧ (∀ x ∈ xs, x.sz = z) ∧ K (.d (.ref (xs.getD n.toNat default)))
  | _, _ => False
def fldAKo (id : Nat) (p : List Nat) (f fo : Nat) (K : V → Prop) : Option (List V) → Prop
  | some ks => f < ks.length ∧ Sh.sizes ((ks.take f).map V.shape) = fo ∧ K (.ptr id (p ++ [f]))
  | none => False
def fldAK (objs : Objs) (f fo : Nat) (K : V → Prop) : V → Prop
  | .ptr id p => fldAKo id p f fo K (kidsO (atO objs id p))
  | .d (.ref (.agg xs)) => f < xs.length ∧ D.szs (xs.take f) = fo ∧ K (.d (.ref (xs.getD f default)))
  | _ => False
def fldK (f fo n : Nat) (ag : Bool) (K : V → Prop) : Option (List V) → Prop
  | some ks => f < ks.length ∧ Sh.sizes ((ks.take f).map V.shape) = fo ∧ (ks.getD f .any).size = n ∧ (ks.getD f .any).isAgg = ag ∧ K (ks.getD f .any)
  | none => False
def ldKo (n : Nat) (ag : Bool) (K : V → Prop) : Option V → Prop
  | some v => v.size = n ∧ v.isAgg = ag ∧ K v
  | none => False
def ldK (objs : Objs) (n : Nat) (ag : Bool) (K : V → Prop) : V → Prop
  | .ptr id p => ldKo n ag K (atO objs id p)
  | .d (.ref x) => x.sz = n ∧ (V.d x).isAgg = ag ∧ K (.d x)
  | _ => False
def nilcK (K : V → Prop) : V → Prop
  | .ptr id p => K (.ptr id p)
  | .d (.ref x) => K (.d (.ref x))
  | .fn f a b => K (.fn f a b)
  | .d (.fn f a b) => K (.d (.fn f a b))
  | _ => False
def lenSK (K : V → Prop) : V → Prop
  | .d (.str s) => K (.d (.int .i64 s.length))
  | _ => False
def lenLK (objs : Objs) (K : V → Prop) : V → Prop
  | .d (.list _ xs) => K (.d (.int .i64 xs.length))
  | .d .nils => K (.d (.int .i64 0))
  | .sl id n => (∃ E z xs, lookO objs id = some (.arr E z xs) ∧ n = xs.length) ∧ K (.d (.int .i64 n))
  | _ => False
/-- bounds of a slice expression -/
def bndK (len : Nat) (K : Nat → Nat → Prop) : Option V → Option V → Prop
  | none, none => K 0 len
  | some (.d (.int _ l)), none => (0 ≤ l ∧ l ≤ len) ∧ K l.toNat len
  | none, some (.d (.int _ h)) => (0 ≤ h ∧ h ≤ len) ∧ K 0 h.toNat
  | some (.d (.int _ l)), some (.d (.int _ h)) => (0 ≤ h ∧ h ≤ len) ∧ (0 ≤ l ∧ l ≤ h) ∧ K l.toNat h.toNat
  | _, _ => False
def slcSK (lo hi : Option V) (K : V → Prop) : V → Prop
  | .d (.str s) => bndK s.length (fun l h => K (.d (.str ((s.take h).drop l)))) lo hi
  | _ => False
def slcLK (z : Nat) (lo hi : Option V) (K : V → Prop) : V → Prop
  | .d (.list sz xs) => z = sz ∧ bndK xs.length (fun l h => K (.d (.list sz ((xs.take h).drop l)))) lo hi
  | _ => False
def extK (i : Nat) (K : V → Prop) : V → Prop
  | .tup xs => i < xs.length ∧ K (xs.getD i .any)
  | _ => False
/-- parts laid into the zero value's parts -/
def bldK : List V → List (Nat × V) → (List V → Prop) → Prop
  | ks, [], K => K ks
  | ks, (i, v) :: r, K => i < ks.length ∧ v.shape = (ks.getD i .any).shape ∧ v ≠ .any ∧ bldK (ks.set i v) r K
def tasK (t : Nat) (z : D) (K : V → Prop) : V → Prop
  | .iface t' v => (t' = t → K (.tup [v, .d (.bool true)])) ∧ (t' ≠ t → K (.tup [.d z, .d (.bool false)]))
  | .d (.iface t' x) => (t' = t → K (.tup [.d x, .d (.bool true)])) ∧ (t' ≠ t → K (.tup [.d z, .d (.bool false)]))
  | .d .nili => K (.tup [.d z, .d (.bool false)])
  | _ => False

inductive C where
  | mv (x : A)
  | pick (c a b : A)
  | not (x : A)
  | neg (x : A)
  | bin (op : BinOp) (x y : A)
  | beq (e : Bool) (x y : A)
  | isnil (e : Bool) (x : A)
  | pnil (e : Bool) (x : A)
  | fnil (e : Bool) (x : A)
  | peq (e : Bool) (x y : A)
  | usd (x : A)
  | cvi (k : IntKind) (x : A)
  | cvs (x : A)
  | idx (x i : A)
  | idxA (sz : Nat) (x i : A)
  | idxP (len sz : Nat) (x i : A)
  | fldA (f fo : Nat) (x : A)
  | fld (f fo n : Nat) (ag : Bool) (x : A)
  | ld (n : Nat) (ag : Bool) (x : A)
  | nilc (x : A)
  | lenS (x : A)
  | lenL (x : A)
  | lenA (n : Nat)
  | slcS (x : A) (lo hi : Option A)
  | slcL (sz : Nat) (x : A) (lo hi : Option A)
  | ext (x : A) (i : Nat)
  | bld (z : List D) (parts : List (Nat × A))
  | mkf (f : Nat) (first cap : List A)
  | mki (t : Nat) (x : A)
  | tas (t : Nat) (z : D) (x : A)

def C.wp (sl : Slots) (objs : Objs) (K : V → Prop) : C → Prop
  | .mv x => K (x.ev sl)
  | .pick c a b => pickK K (c.ev sl) (a.ev sl) (b.ev sl)
  | .not x => notK K (x.ev sl)
  | .neg x => negK K (x.ev sl)
  | .bin op x y => binK op K (x.ev sl) (y.ev sl)
  | .beq e x y => beqK e K (x.ev sl) (y.ev sl)
  | .isnil e x => isnilK e K (x.ev sl)
  | .pnil e x => pnilK e K (x.ev sl)
  | .fnil e x => fnilK e K (x.ev sl)
  | .peq e x y => peqK objs e K (x.ev sl) (y.ev sl)
  | .usd x => usdK objs K (x.ev sl)
  | .cvi k x => cviK k K (x.ev sl)
  | .cvs x => cvsK K (x.ev sl)
  | .idx x i => idxK K (x.ev sl) (i.ev sl)
  | .idxA z x i => idxAK z K (x.ev sl) (i.ev sl)
  | .idxP n z x i => idxPK objs n z K (x.ev sl) (i.ev sl)
  | .fldA f fo x => fldAK objs f fo K (x.ev sl)
  | .fld f fo n ag x => fldK f fo n ag K (x.ev sl).kids
  | .ld n ag x => ldK objs n ag K (x.ev sl)
  | .nilc x => nilcK K (x.ev sl)
  | .lenS x => lenSK K (x.ev sl)
  | .lenL x => lenLK objs K (x.ev sl)
  | .lenA n => K (.d (.int .i64 n))
  | .slcS x lo hi => slcSK (lo.map (A.ev sl)) (hi.map (A.ev sl)) K (x.ev sl)
  | .slcL z x lo hi => slcLK z (lo.map (A.ev sl)) (hi.map (A.ev sl)) K (x.ev sl)
  | .ext x i => extK i K (x.ev sl)
  | .bld z parts => bldK (z.map .d) (parts.map fun (i, x) => (i, x.ev sl)) fun ks => K (V.mk ks)
  | .mkf f first cap => K (mkfV f (first.map (A.ev sl)) (cap.map (A.ev sl)))
  | .mki t x => K (mkiV t (x.ev sl))
  | .tas t z x => tasK t z K (x.ev sl)

/-! What of the program's text they stand for -/

def chkAs : List Operand → List A → Bool
  | [], [] => true
  | x :: r, y :: s => A.chk x y && chkAs r s
  | _, _ => false
def chkO : Option Operand → Option A → Bool
  | none, none => true
  | some x, some y => A.chk x y
  | _, _ => false
def chkParts : List (Nat × Operand) → List (Nat × A) → Bool
  | [], [] => true
  | (i, x) :: r, (j, y) :: s => i == j && A.chk x y && chkParts r s
  | _, _ => false
mutual
/-- these very cells are what the datum is, whatever lies in memory -/
def D.isC : D → List Value → Bool
  | .int k n, [.int k' n'] => decide (k = k') && n == n'
  | .bool b, [.bool b'] => b == b'
  | .str s, [.string t] => t.data.toList == s
  | .nils, [.slice none n m] => n == 0 && m == 0
  | .nili, [.nilIface] => true
  | .nilp, [.pointer none] => true
  | .nilf, [.nilFunc] => true
  | .agg xs, cs => D.isCs xs cs
  | _, _ => false
def D.isCs : List D → List Value → Bool
  | [], [] => true
  | x :: r, cs => D.isC x (cs.take x.sz) && D.isCs r (cs.drop x.sz)
  | _, _ => false
end
def agT (P : Program) (t : TypeId) : Bool := match P.underlying t with
  | some (.struct _) | some (.array _ _) => true
  | _ => false
def fieldT (P : Program) (s : TypeId) (f : Nat) : Option Field := match P.underlying s with
  | some (.struct fs) => fs[f]?
  | _ => none
def sizeT (P : Program) (t : TypeId) : Option Nat := (P.info? t).map (·.size)
def zeroT (P : Program) (t : TypeId) : Option (List Value) := ((P.info? t).bind (·.zero)).map (·.cells.toList)

def C.chk (P : Program) (op : Op) : C → Bool
  | .mv y => match op with
    | .move x | .assign x => A.chk x y
    | _ => false
  | .pick c a b => match op with
    | .pick x y z => A.chk x c && A.chk y a && A.chk z b
    | _ => false
  | .not y => match op with
    | .unOp .not _ x => A.chk x y
    | _ => false
  | .neg y => match op with
    | .unOp .neg _ x => A.chk x y
    | _ => false
  | .bin o a b => match op with
    | .binOp o' _ x y _ => decide (o = o') && A.chk x a && A.chk y b
    | _ => false
  | .beq e a b => match op with
    | .binOp o t x y _ => decide (o = if e then .eql else .neq) && (P.underlying t matches some .bool) && A.chk x a && A.chk y b
    | _ => false
  | .isnil e a => match op with
    | .binOp o t x y _ => decide (o = if e then .eql else .neq) && (P.underlying t matches some (.interface _)) && A.chk x a && (y matches .const .nilIface)
    | _ => false
  | .pnil e a => match op with
    | .binOp o t x y _ => decide (o = if e then .eql else .neq) && (P.underlying t matches some (.pointer _)) && A.chk x a && (y matches .const (.pointer none))
    | _ => false
  | .fnil e a => match op with
    | .binOp o t x y _ => decide (o = if e then .eql else .neq) && (P.underlying t matches some (.func _ _ _)) && A.chk x a && (y matches .const .nilFunc)
    | _ => false
  | .peq e a b => match op with
    | .binOp o t x y _ => decide (o = if e then .eql else .neq) && (match P.underlying t with | some (.pointer el) => (match sizeT P el with | some n => n != 0 | none => false) | _ => false) && A.chk x a && A.chk y b
    | _ => false
  | .usd y => match op with
    | .call { callee := .builtin .unsafeSliceData, args := args, argTypes := _ } => match args.toList with
      | [x] => A.chk x y
      | _ => false
    | _ => false
  | .cvi k y => match op with
    | .convert s t x => (P.underlying s).isSome && (match P.underlying t with | some (.int k') => decide (k = k') | _ => false) && A.chk x y
    | _ => false
  | .cvs y => match op with
    | .convert s t x => (P.underlying s matches some .string) && (P.underlying t matches some .string) && A.chk x y
    | _ => false
  | .idx a i => match op with
    | .index t x j => (P.underlying t matches some .string) && A.chk x a && A.chk j i
    | _ => false
  | .idxA z a i => match op with
    | .indexAddr t x j => (match P.underlying t with | some (.slice e) => sizeT P e == some z | _ => false) && A.chk x a && A.chk j i
    | _ => false
  | .idxP n z a i => match op with
    | .indexAddr t x j => (match P.underlying t with | some (.array m e) => n == m && sizeT P e == some z | _ => false) && A.chk x a && A.chk j i
    | _ => false
  | .fldA f fo y => match op with
    | .fieldAddr s x g => f == g && (match fieldT P s f with | some fl => fl.offset == fo && (match sizeT P fl.type with | some n => n != 0 | none => false) | none => false) && A.chk x y
    | _ => false
  | .fld f fo n ag y => match op with
    | .field s x g => f == g && (match fieldT P s f with | some fl => fl.offset == fo && sizeT P fl.type == some n && (P.underlying fl.type).isSome && agT P fl.type == ag | none => false) && A.chk x y
    | _ => false
  | .ld n ag y => match op with
    | .load t x => sizeT P t == some n && (P.underlying t).isSome && agT P t == ag && A.chk x y
    | _ => false
  | .nilc y => match op with
    | .nilCheck x => A.chk x y
    | _ => false
  | .lenS y => match op with
    | .call { callee := .builtin .len, args := args, argTypes := ts } => match args.toList, ts.toList with
      | [x], [t] => (P.underlying t matches some .string) && A.chk x y
      | _, _ => false
    | _ => false
  | .lenL y => match op with
    | .call { callee := .builtin .len, args := args, argTypes := ts } => match args.toList, ts.toList with
      | [x], [t] => (P.underlying t matches some (.slice _)) && A.chk x y
      | _, _ => false
    | _ => false
  | .lenA n => match op with
    | .call { callee := .builtin .len, args := args, argTypes := ts } => match args.toList, ts.toList with
      | [_], [t] => (match P.underlying t with | some (.array m _) => n == m | _ => false)
      | _, _ => false
    | _ => false
  | .slcS y lo hi => match op with
    | .slice t x l h none => (P.underlying t matches some .string) && A.chk x y && chkO l lo && chkO h hi
    | _ => false
  | .slcL z y lo hi => match op with
    | .slice t x l h none => (match P.underlying t with | some (.slice e) => sizeT P e == some z | _ => false) && A.chk x y && chkO l lo && chkO h hi
    | _ => false
  | .ext y i => match op with
    | .extract x j => i == j && A.chk x y
    | _ => false
  | .bld z parts => match op with
    | .build t ps => chkParts ps.toList parts && (match zeroT P t with | some cs => D.isCs z cs | none => false) &&
      (match P.underlying t with
        | some (.struct fs) => fs.toList.all (fun fl => (sizeT P fl.type).isSome) && fs.toList.map (fun fl => (fl.offset, (sizeT P fl.type).getD 0)) == (List.range z.length).map (fun i => (D.szs (z.take i), (z.getD i default).sz))
        | some (.array _ e) => (match sizeT P e with | some n => z.all (fun x => x.sz == n) | none => false)
        | _ => false)
    | _ => false
  | .mkf f first cap => match op with
    | .makeFunc (.func g) fs cs => f == g && chkAs fs.toList first && chkAs cs.toList cap
    | _ => false
  | .mki t y => match op with
    | .makeInterface u x => t == u && (match P.underlying t with | some (.interface _) => false | some _ => true | none => false) && A.chk x y
    | _ => false
  | .tas t z y => match op with
    | .typeAssert x _ u true => t == u && (match P.underlying t with | some (.interface _) => false | some _ => true | none => false) && (match zeroT P t with | some cs => D.isC z cs && (((P.info? t).bind (·.zero)).map fun v => match v with | .agg _ => true | _ => false) == some (V.d z).isAgg | none => false) && A.chk x y
    | _ => false
end Go.Ab
