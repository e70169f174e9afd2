/- Expressions: what an operation that only reads yields, as a value. Over any program; no condition. -/
import Derived.Test.YtlkpnkkgkjkmbaaDoorAb15
namespace Go.Ab
open Go

def pickV : V → V → V → V
  | .d (.bool t), .d (.bool x), .d (.bool y) => .d (.bool (if t then x else y))
  | .d (.bool t), x, y => if t then x else y
  | _, _, _ => .any
def notV : V → V
  | .d (.bool b) => .d (.bool (!b))
  | _ => .any
def negV : V → V
  | .d (.int k n) => .d (.int k (k.wrap (0 - n)))
  | _ => .any
def intV (op : BinOp) (k : IntKind) (a b : Int) : V :=
  match op with
  | .add => .d (.int k (k.wrap (a + b)))
  | .sub => .d (.int k (k.wrap (a - b)))
  | .mul => .d (.int k (k.wrap (a * b)))
  | .quo => .d (.int k (k.wrap (a.tdiv b)))
  | .rem => .d (.int k (a.tmod b))
  | .and | .or | .xor | .andNot => .d (.int k (bitsI op k a b))
  | .shl => .d (.int k (k.wrap (a * 2 ^ (min b.toNat k.bits))))
  | .shr => .d (.int k (a.fdiv (2 ^ (min b.toNat k.bits))))
  | .eql => .d (.bool (a == b))
  | .neq => .d (.bool (a != b))
  | .lss => .d (.bool (decide (a < b)))
  | .leq => .d (.bool (decide (a ≤ b)))
  | .gtr => .d (.bool (decide (b < a)))
  | .geq => .d (.bool (decide (b ≤ a)))
def strV (op : BinOp) (x y : List UInt8) : V :=
  match op with
  | .add => .d (.str (x ++ y))
  | .eql => .d (.bool (x == y))
  | .neq => .d (.bool (x != y))
  | .lss => .d (.bool (Op.bytesLess x y))
  | .leq => .d (.bool (Op.bytesLess x y || x == y))
  | .gtr => .d (.bool (!(Op.bytesLess x y || x == y)))
  | .geq => .d (.bool (!Op.bytesLess x y))
  | _ => .any
def binV (op : BinOp) : V → V → V
  | .d (.int k a), .d (.int _ b) => intV op k a b
  | .d (.str x), .d (.str y) => strV op x y
  | _, _ => .any
def beqV (e : Bool) : V → V → V
  | .d (.bool x), .d (.bool y) => .d (.bool ((x == y) == e))
  | _, _ => .any
def isnilV (e : Bool) : V → V
  | .d .nili => .d (.bool e)
  | .iface _ _ => .d (.bool (!e))
  | .d (.iface _ _) => .d (.bool (!e))
  | _ => .any
def pnilV (e : Bool) : V → V
  | .d .nilp => .d (.bool e)
  | .d (.ref _) => .d (.bool (!e))
  | .ptr _ _ => .d (.bool (!e))
  | _ => .any
def fnilV (e : Bool) : V → V
  | .d .nilf => .d (.bool e)
  | .d (.fn _ _ _) => .d (.bool (!e))
  | .fn _ _ _ => .d (.bool (!e))
  | _ => .any
def usdV : V → V
  | .sl id n => .sd id n
  | .d .nils => .d .nilp
  | _ => .any
def cviV (k : IntKind) : V → V
  | .d (.int _ n) => .d (.int k (k.wrap n))
  | _ => .any
def cvsV : V → V
  | .d (.str s) => .d (.str s)
  | _ => .any
def idxV : V → V → V
  | .d (.str s), .d (.int _ n) => .d (.int .u8 (s.getD n.toNat 0).toNat)
  | _, _ => .any
def idxAV : V → V → V
  | .d (.list _ xs), .d (.int _ n) => .d (.ref (xs.getD n.toNat default))
  | _, _ => .any
def idxPV : V → V → V
  | .ptr id p, .d (.int _ n) => .ptr id (p ++ [n.toNat])
  | .d (.ref (.agg xs)), .d (.int _ n) => .d (.ref (xs.getD n.toNat default))
  | _, _ => .any
def fldAV (f : Nat) : V → V
  | .ptr id p => .ptr id (p ++ [f])
  | .d (.ref (.agg xs)) => .d (.ref (xs.getD f default))
  | _ => .any
def fldV (f : Nat) : Option (List V) → V
  | some ks => ks.getD f .any
  | none => .any
def ldVo : Option V → V
  | some v => v
  | none => .any
def ldV (ob : Objs) : V → V
  | .ptr id p => ldVo (atO ob id p)
  | .d (.ref x) => .d x
  | _ => .any
def lenSV : V → V
  | .d (.str s) => .d (.int .i64 s.length)
  | _ => .any
def lenLV : V → V
  | .d (.list _ xs) => .d (.int .i64 xs.length)
  | .d .nils => .d (.int .i64 0)
  | .sl _ n => .d (.int .i64 n)
  | _ => .any
def bndV (len : Nat) (K : Nat → Nat → V) : Option V → Option V → V
  | none, none => K 0 len
  | some (.d (.int _ l)), none => K l.toNat len
  | none, some (.d (.int _ h)) => K 0 h.toNat
  | some (.d (.int _ l)), some (.d (.int _ h)) => K l.toNat h.toNat
  | _, _ => .any
def slcSV (lo hi : Option V) : V → V
  | .d (.str s) => bndV s.length (fun l h => .d (.str ((s.take h).drop l))) lo hi
  | _ => .any
def slcLV (lo hi : Option V) : V → V
  | .d (.list sz xs) => bndV xs.length (fun l h => .d (.list sz ((xs.take h).drop l))) lo hi
  | _ => .any
def extV (i : Nat) : V → V
  | .tup xs => xs.getD i .any
  | _ => .any
def tasV (t : Nat) (z : D) : V → V
  | .iface t' v => if t' = t then .tup [v, .d (.bool true)] else .tup [.d z, .d (.bool false)]
  | .d (.iface t' x) => if t' = t then .tup [.d x, .d (.bool true)] else .tup [.d z, .d (.bool false)]
  | .d .nili => .tup [.d z, .d (.bool false)]
  | _ => .any

def C.val (sl : Slots) (ob : Objs) : C → V
  | .mv x => x.ev sl
  | .pick c a b => pickV (c.ev sl) (a.ev sl) (b.ev sl)
  | .not x => notV (x.ev sl)
  | .neg x => negV (x.ev sl)
  | .bin op x y => binV op (x.ev sl) (y.ev sl)
  | .beq e x y => beqV e (x.ev sl) (y.ev sl)
  | .isnil e x => isnilV e (x.ev sl)
  | .pnil e x => pnilV e (x.ev sl)
  | .fnil e x => fnilV e (x.ev sl)
  | .peq e _ _ => .d (.bool e)
  | .usd x => usdV (x.ev sl)
  | .cvi k x => cviV k (x.ev sl)
  | .cvs x => cvsV (x.ev sl)
  | .idx x i => idxV (x.ev sl) (i.ev sl)
  | .idxA _ x i => idxAV (x.ev sl) (i.ev sl)
  | .idxP _ _ x i => idxPV (x.ev sl) (i.ev sl)
  | .fldA f _ x => fldAV f (x.ev sl)
  | .fld f _ _ _ x => fldV f (x.ev sl).kids
  | .ld _ _ x => ldV ob (x.ev sl)
  | .nilc x => x.ev sl
  | .lenS x => lenSV (x.ev sl)
  | .lenL x => lenLV (x.ev sl)
  | .lenA n => .d (.int .i64 n)
  | .slcS x lo hi => slcSV (lo.map (A.ev sl)) (hi.map (A.ev sl)) (x.ev sl)
  | .slcL _ x lo hi => slcLV (lo.map (A.ev sl)) (hi.map (A.ev sl)) (x.ev sl)
  | .ext x i => extV i (x.ev sl)
  | .bld _ _ => .any
  | .mkf f first cap => mkfV f (first.map (A.ev sl)) (cap.map (A.ev sl))
  | .mki t x => mkiV t (x.ev sl)
  | .tas t z x => tasV t z (x.ev sl)

/-- it is safe, and yields that value -/
def C.ok (sl : Slots) (ob : Objs) (c : C) : Prop := c.wp sl ob fun v => v = c.val sl ob

theorem intK_mono {op : BinOp} {k k' : IntKind} {a b : Int} {K K' : V → Prop} (hk : ∀ v, K v → K' v) (h : intK op k k' a b K) : intK op k k' a b K' := by
  cases op <;> simp only [intK] at h ⊢ <;> first | exact ⟨h.1, hk _ h.2⟩ | exact ⟨h.1, h.2.1, hk _ h.2.2⟩
theorem strK_mono {op : BinOp} {a b : List UInt8} {K K' : V → Prop} (hk : ∀ v, K v → K' v) (h : strK op a b K) : strK op a b K' := by
  cases op <;> simp only [strK] at h ⊢ <;> first | exact hk _ h | exact ⟨h.1, hk _ h.2⟩ | exact h.elim
theorem bndK_mono {n : Nat} {K K' : Nat → Nat → Prop} (hk : ∀ l h, K l h → K' l h) {lo hi : Option V} (h : bndK n K lo hi) : bndK n K' lo hi := by
  unfold bndK at h ⊢
  split <;> simp_all
theorem bldK_mono {K K' : List V → Prop} (hk : ∀ l, K l → K' l) : ∀ (ps : List (Nat × V)) (ks : List V), bldK ks ps K → bldK ks ps K'
  | [], _, h => hk _ h
  | (_, _) :: r, _, h => ⟨h.1, h.2.1, h.2.2.1, bldK_mono hk r _ h.2.2.2⟩
theorem C.wp_mono {sl : Slots} {ob : Objs} {K K' : V → Prop} (hk : ∀ v, K v → K' v) (c : C) (h : c.wp sl ob K) : c.wp sl ob K' := by
  cases c <;> simp only [C.wp] at h ⊢
  case mv => exact hk _ h
  case lenA => exact hk _ h
  case mkf => exact hk _ h
  case mki => exact hk _ h
  case bld => exact bldK_mono (fun _ => hk _) _ _ h
  case bin x y =>
    generalize A.ev sl x = v at h ⊢; generalize A.ev sl y = u at h ⊢
    unfold binK at h; split at h
    · exact intK_mono hk h
    · exact strK_mono hk h
    · exact h.elim
  case slcS x lo hi =>
    generalize A.ev sl x = v at h ⊢
    unfold slcSK at h; split at h
    · exact bndK_mono (fun _ _ => hk _) h
    · exact h.elim
  case slcL x lo hi =>
    generalize A.ev sl x = v at h ⊢
    unfold slcLK at h; split at h
    · exact ⟨h.1, bndK_mono (fun _ _ => hk _) h.2⟩
    · exact h.elim
  case pick x y z =>
    generalize A.ev sl x = v at h ⊢; generalize A.ev sl y = u at h ⊢; generalize A.ev sl z = t at h ⊢
    unfold pickK at h; split at h
    · exact hk _ h
    · rename_i hn; simp only [pickK]; exact ⟨fun e => hk _ (h.1 e), fun e => hk _ (h.2 e)⟩
    · exact h.elim
  case fld x =>
    generalize (A.ev sl x).kids = v at h ⊢
    unfold fldK at h; split at h
    · exact ⟨h.1, h.2.1, h.2.2.1, h.2.2.2.1, hk _ h.2.2.2.2⟩
    · exact h.elim
  case fldA x =>
    generalize A.ev sl x = v at h ⊢
    unfold fldAK at h; split at h
    · simp only [fldAK]
      generalize kidsO _ = v at h ⊢
      unfold fldAKo at h; split at h
      · exact ⟨h.1, h.2.1, hk _ h.2.2⟩
      · exact h.elim
    · exact ⟨h.1, h.2.1, hk _ h.2.2⟩
    · exact h.elim
  case ld x =>
    generalize A.ev sl x = v at h ⊢
    unfold ldK at h; split at h
    · simp only [ldK]
      generalize atO _ _ _ = v at h ⊢
      unfold ldKo at h; split at h
      · exact ⟨h.1, h.2.1, hk _ h.2.2⟩
      · exact h.elim
    · exact ⟨h.1, h.2.1, hk _ h.2.2⟩
    · exact h.elim
  case tas x =>
    generalize A.ev sl x = v at h ⊢
    unfold tasK at h; split at h
    · exact ⟨fun e => hk _ (h.1 e), fun e => hk _ (h.2 e)⟩
    · exact ⟨fun e => hk _ (h.1 e), fun e => hk _ (h.2 e)⟩
    · exact hk _ h
    · exact h.elim
  case pnil x => generalize A.ev sl x = v at h ⊢; unfold pnilK at h; split at h <;> first | exact hk _ h | exact h.elim
  case fnil x => generalize A.ev sl x = v at h ⊢; unfold fnilK at h; split at h <;> first | exact hk _ h | exact h.elim
  case usd x => generalize A.ev sl x = v at h ⊢; unfold usdK at h; split at h <;> first | exact ⟨h.1, hk _ h.2⟩ | exact hk _ h | exact h.elim
  case peq x y => generalize A.ev sl x = v at h ⊢; generalize A.ev sl y = u at h ⊢; unfold peqK at h; split at h <;> first | exact ⟨h.1, h.2.1, h.2.2.1, hk _ h.2.2.2⟩ | exact h.elim
  case not x => generalize A.ev sl x = v at h ⊢; unfold notK at h; split at h <;> first | exact hk _ h | exact h.elim
  case neg x => generalize A.ev sl x = v at h ⊢; unfold negK at h; split at h <;> first | exact hk _ h | exact h.elim
  case isnil x => generalize A.ev sl x = v at h ⊢; unfold isnilK at h; split at h <;> first | exact hk _ h | exact h.elim
  case cvi x => generalize A.ev sl x = v at h ⊢; unfold cviK at h; split at h <;> first | exact hk _ h | exact h.elim
  case cvs x => generalize A.ev sl x = v at h ⊢; unfold cvsK at h; split at h <;> first | exact hk _ h | exact h.elim
  case nilc x => generalize A.ev sl x = v at h ⊢; unfold nilcK at h; split at h <;> first | exact hk _ h | exact h.elim
  case lenS x => generalize A.ev sl x = v at h ⊢; unfold lenSK at h; split at h <;> first | exact hk _ h | exact h.elim
  case lenL x => generalize A.ev sl x = v at h ⊢; unfold lenLK at h; split at h <;> first | exact hk _ h | exact ⟨h.1, hk _ h.2⟩ | exact h.elim
  case ext x _ => generalize A.ev sl x = v at h ⊢; unfold extK at h; split at h <;> first | exact ⟨h.1, hk _ h.2⟩ | exact h.elim
  case beq x y => generalize A.ev sl x = v at h ⊢; generalize A.ev sl y = u at h ⊢; unfold beqK at h; split at h <;> first | exact hk _ h | exact h.elim
  case idx x y => generalize A.ev sl x = v at h ⊢; generalize A.ev sl y = u at h ⊢; unfold idxK at h; split at h <;> first | exact ⟨h.1, hk _ h.2⟩ | exact h.elim
  case idxA x y => generalize A.ev sl x = v at h ⊢; generalize A.ev sl y = u at h ⊢; unfold idxAK at h; split at h <;> first | exact ⟨h.1, h.2.1, hk _ h.2.2⟩ | exact h.elim
  case idxP x y => generalize A.ev sl x = v at h ⊢; generalize A.ev sl y = u at h ⊢; unfold idxPK at h; split at h <;> first | exact ⟨h.1, h.2.1, hk _ h.2.2⟩ | exact ⟨h.1, h.2.1, h.2.2.1, hk _ h.2.2.2⟩ | exact h.elim
theorem C.wp_of {sl : Slots} {ob : Objs} {K : V → Prop} {c : C} (h : c.ok sl ob) (hK : K (c.val sl ob)) : c.wp sl ob K :=
  C.wp_mono (fun _ e => e ▸ hK) c h
end Go.Ab
