/- Texts of this claim joined by a program, part 9 of 15; the last is: What the evaluator of the questions' examples knows beside its table. No condition. -/
import Derived.Test.YtmapdjjigmkbfaaGreatDoorD5
import Derived.Test.YtmapdjjigmkbfaaGreatDoorD6
import Derived.Test.YtmapdjjigmkbfaaGreatDoorD7
import Derived.Test.YtmapdjjigmkbfaaGreatDoorD8
import Derived.KernelRfl
set_option linter.unusedSimpArgs false
set_option linter.unusedVariables false
set_option linter.unusedSectionVars false
set_option linter.defProp false
/- An evaluator of operations on abstract values, and that what it yields holds. Over any program; no condition. -/
namespace Go.Ab
open Go

mutual
def Sh.beq : Sh → Sh → Bool
 | .leaf, .leaf => true
 | .node xs, .node ys => Sh.beqs xs ys
 | _, _ => false
def Sh.beqs : List Sh → List Sh → Bool
 | [], [] => true
 | x :: r, y :: s => Sh.beq x y && Sh.beqs r s
 | _, _ => false
end
mutual
theorem Sh.beq_eq : ∀ (a b : Sh), Sh.beq a b = true → a = b
 | .leaf, .leaf, _ => rfl
 | .node xs, .node ys, h => by simp only [Sh.beq] at h; rw [Sh.beqs_eq xs ys h]
 | .leaf, .node _, h => by simp [Sh.beq] at h
 | .node _, .leaf, h => by simp [Sh.beq] at h
theorem Sh.beqs_eq : ∀ (a b : List Sh), Sh.beqs a b = true → a = b
 | [], [], _ => rfl
 | x :: r, y :: s, h => by
  simp only [Sh.beqs, Bool.and_eq_true] at h
  rw [Sh.beq_eq x y h.1, Sh.beqs_eq r s h.2]
 | [], _ :: _, h => by simp [Sh.beqs] at h
 | _ :: _, [], h => by simp [Sh.beqs] at h
end
def V.isAny : V → Bool
 | .any => true
 | _ => false
def nz (v : V) : Option V := bif v.isAny then none else some v
def gdR (b : Bool) (v : V) : Option V := bif b then some v else none
def X7h : V → V → V → Option V
 | .d (.bool t), .d (.bool x), .d (.bool y) => some (.d (.bool (bif t then x else y)))
 | .d (.bool t), x, y => some (bif t then x else y)
 | _, _, _ => none
def Ycp (op : BinOp) (k k' : IntKind) (a b : Int) : Option V :=
 match op with
 | .shl => gdR (decide (0 ≤ b)) (Wq op k a b)
 | .shr => gdR (decide (0 ≤ b)) (Wq op k a b)
 | .quo => gdR (decide (k = k') && decide (b ≠ 0)) (Wq op k a b)
 | .rem => gdR (decide (k = k') && decide (b ≠ 0)) (Wq op k a b)
 | _ => gdR (decide (k = k')) (Wq op k a b)
def Ygk (op : BinOp) (x y : List UInt8) : Option V :=
 match op with
 | .add => gdR (decide (x.length + y.length ≤ 9223372036854775807)) (Xx0 op x y)
 | .eql | .neq | .lss | .leq | .gtr | .geq => some (Xx0 op x y)
 | _ => none
def Yb8 (op : BinOp) : V → V → Option V
 | .d (.int k a), .d (.int k' b) => Ycp op k k' a b
 | .d (.str x), .d (.str y) => Ygk op x y
 | _, _ => none
def Yf8 (ob : Objs) (e : Bool) : V → V → Option V
 | .ptr i p, .ptr j q => gdR (decide (i = j) && decide (p = q) && (atO ob i p).isSome) (.d (.bool e))
 | _, _ => none
def X75 (id n : Nat) : Option Ob → Option V
 | some (.arr _ sz xs) => gdR (decide (sz ≠ 0) && decide (n = xs.length) && !xs.isEmpty) (.sd id n)
 | _ => none
def Ygq (ob : Objs) : V → Option V
 | .sl id n => X75 id n (lookO ob id)
 | .d .nils => some (.d .nilp)
 | _ => none
def Yco : V → V → Option V
 | .d (.str s), .d (.int _ n) => gdR (decide (0 ≤ n) && decide (n < s.length)) (.d (.int .u8 (s.getD n.toNat 0).toNat))
 | _, _ => none
def Xz1 (z : Nat) : Option V → Bool
 | some v => decide (v.size = z)
 | none => false
def Xz0 (z lo n : Nat) : Option (List V) → Bool
 | some ks => decide (lo + n ≤ ks.length) && ks.all (fun k => decide (k.size = z))
 | none => false
def X4t (ob : Objs) (z : Nat) : V → V → Option V
 | .d (.list sz xs), .d (.int _ n) => gdR (decide (z = sz) && decide (0 ≤ n) && decide (n < xs.length)) (.d (.ref (xs.getD n.toNat default)))
 | .sl id n, .d (.int _ m) => gdR (decide (0 ≤ m) && decide (m < n) && Xz1 z (Wk n m.toNat (lookO ob id))) (.ep id n z m.toNat 0 [])
 | .bs id p lo n, .d (.int _ m) => gdR (decide (0 ≤ m) && decide (m < n) && Xz0 z lo n (Yr (atO ob id p))) (.ptr id (p ++ [lo + m.toNat]))
 | _, _ => none
def Xfy (len z : Nat) (v : V) : Option (List V) → Option V
 | some ks => gdR (decide (ks.length = len) && ks.all (fun k => decide (k.size = z))) v
 | none => none
def Xt9 (ob : Objs) (len z : Nat) : V → V → Option V
 | .ptr id p, .d (.int _ n) => bif decide (0 ≤ n) && decide (n < len) then Xfy len z (.ptr id (p ++ [n.toNat])) (Yr (atO ob id p)) else none
 | .d (.ref (.agg xs)), .d (.int _ n) => gdR (decide (0 ≤ n) && decide (n < len) && decide (xs.length = len) && xs.all (fun x => decide (x.sz = z))) (.d (.ref (xs.getD n.toNat default)))
 | _, _ => none
def Xwh (id : Nat) (p : List Nat) (f fo : Nat) : Option (List V) → Option V
 | some ks => gdR (decide (f < ks.length) && decide (Sh.sizes ((ks.take f).map V.shape) = fo)) (.ptr id (p ++ [f]))
 | none => none
def X4n (ob : Objs) (f fo : Nat) : V → Option V
 | .ptr id p => Xwh id p f fo (Yr (atO ob id p))
 | .d (.ref (.agg xs)) => gdR (decide (f < xs.length) && decide (D.szs (xs.take f) = fo)) (.d (.ref (xs.getD f default)))
 | .ep id n z i g p => some (.ep id n z i (g + fo) (p ++ [f]))
 | _ => none
def Ycj (f fo n : Nat) (ag : Bool) : Option (List V) → Option V
 | some ks => gdR (decide (f < ks.length) && decide (Sh.sizes ((ks.take f).map V.shape) = fo) && decide ((ks.getD f .any).size = n) && ((ks.getD f .any).isAgg == ag)) (ks.getD f .any)
 | none => none
def X45 (n : Nat) (ag : Bool) : Option V → Option V
 | some v => gdR (decide (v.size = n) && (v.isAgg == ag)) v
 | none => none
def ldR (ob : Objs) (n : Nat) (ag : Bool) : V → Option V
 | .ptr id p => X45 n ag (atO ob id p)
 | .d (.ref x) => gdR (decide (x.sz = n) && ((V.d x).isAgg == ag)) (.d x)
 | .ep id m z i f p => X45 n ag (atE ob id m z i f p)
 | _ => none
def X6e : V → Option V
 | .ptr id p => some (.ptr id p)
 | .ep id n z i f p => some (.ep id n z i f p)
 | .d (.ref x) => some (.d (.ref x))
 | .fn f a b => some (.fn f a b)
 | .d (.fn f a b) => some (.d (.fn f a b))
 | _ => none
def Xwu (n : Nat) : Option Ob → Option V
 | some (.arr _ _ xs) => gdR (decide (n = xs.length)) (.d (.int .i64 n))
 | some (.vec _ _ xs) => gdR (decide (n = xs.length)) (.d (.int .i64 n))
 | _ => none
def Xwt (n : Nat) : Option Ob → Option V
 | some (.box _ _) => some (.d (.int .i64 n))
 | _ => none
def X5b (ob : Objs) : V → Option V
 | .d (.list _ xs) => some (.d (.int .i64 xs.length))
 | .d .nils => some (.d (.int .i64 0))
 | .sl id n => Xwu n (lookO ob id)
 | .bs id _ _ n => Xwt n (lookO ob id)
 | _ => none
def X32 (len : Nat) : Option V → Option V → Option (Nat × Nat)
 | none, none => some (0, len)
 | some (.d (.int _ l)), none => bif decide (0 ≤ l) && decide (l ≤ len) then some (l.toNat, len) else none
 | none, some (.d (.int _ h)) => bif decide (0 ≤ h) && decide (h ≤ len) then some (0, h.toNat) else none
 | some (.d (.int _ l)), some (.d (.int _ h)) => bif decide (0 ≤ h) && decide (h ≤ len) && decide (0 ≤ l) && decide (l ≤ h) then some (l.toNat, h.toNat) else none
 | _, _ => none
def X7p (lo hi : Option V) : V → Option V
 | .d (.str s) => (X32 s.length lo hi).map fun p => .d (.str ((s.take p.2).drop p.1))
 | _ => none
def X7o (z : Nat) (lo hi : Option V) : V → Option V
 | .d (.list sz xs) => bif decide (z = sz) then (X32 xs.length lo hi).map fun p => .d (.list sz ((xs.take p.2).drop p.1)) else none
 | _ => none
def Yci (i : Nat) : V → Option V
 | .tup xs => gdR (decide (i < xs.length)) (xs.getD i .any)
 | _ => none
def Xwd : List V → List (Nat × V) → Option (List V)
 | ks, [] => some ks
 | ks, (i, v) :: r => bif decide (i < ks.length) && Sh.beq v.shape (ks.getD i .any).shape && !v.isAny then Xwd (ks.set i v) r else none
def Ygp (t : Nat) (z : D) : V → Option V
 | .iface t' v => some (bif decide (t' = t) then .tup [v, .d (.bool true)] else .tup [.d z, .d (.bool false)])
 | .d (.iface t' x) => some (bif decide (t' = t) then .tup [.d x, .d (.bool true)] else .tup [.d z, .d (.bool false)])
 | .d .nili => some (.tup [.d z, .d (.bool false)])
 | _ => none

def Ych (ty : KT) (e : Bool) : V → V → Option V
 | .d x, .d y => gdR (ty.fits x && ty.fits y) (.d (.bool (D.eqb x y == e)))
 | _, _ => none
def X4v (len z : Nat) (ag : Bool) : V → V → Option V
 | .d (.agg xs), .d (.int _ n) => gdR (decide (0 ≤ n) && decide (n < len) && decide (xs.length = len) && xs.all (fun x => decide (x.sz = z) && (x.isAgg == ag))) (.d (xs.getD n.toNat default))
 | _, _ => none

def D.szIs (x : D) (z : Nat) : Bool := bif x.isAgg then decide (x.sz = z) else Nat.beq 1 z
theorem D.szIs_eq (x : D) (z : Nat) : x.szIs z = decide (x.sz = z) := by
 unfold D.szIs
 cases hx : x.isAgg with
 | true => rfl
 | false =>
  have h1 : x.sz = 1 := by cases x <;> first | rfl | simp [D.isAgg] at hx
  rw [h1]
  simp only [cond_false]
  by_cases e : 1 = z
  ·subst e; rfl
  ·rw [decide_eq_false e]
   cases hb : Nat.beq 1 z with
   | false => rfl
   | true => exact (e (Nat.eq_of_beq_eq_true hb)).elim
def V.szIs (v : V) (z : Nat) : Bool := bif v.isAgg then decide (v.size = z) else Nat.beq 1 z
theorem V.szIs_eq (v : V) (z : Nat) : v.szIs z = decide (v.size = z) := by
 unfold V.szIs
 cases hx : v.isAgg with
 | true => rfl
 | false =>
  have h1 : v.size = 1 := by
   cases v with
   | d x => cases x <;> first | rfl | simp [V.isAgg] at hx
   | agg xs => simp [V.isAgg] at hx
   | _ => rfl
  rw [h1]
  simp only [cond_false]
  by_cases e : 1 = z
  ·subst e; rfl
  ·rw [decide_eq_false e]
   cases hb : Nat.beq 1 z with
   | false => rfl
   | true => exact (e (Nat.eq_of_beq_eq_true hb)).elim
def V.atF : V → List Nat → Option V
 | v, [] => some v
 | .d (.agg xs), i :: p => match xs[i]? with
  | some x => V.atF (.d x) p
  | none => none
 | v, i :: p => match v.kids with
  | some ks => match ks[i]? with
   | some k => V.atF k p
   | none => none
  | none => none
theorem V.atF_eq : ∀ (p : List Nat) (v : V), v.atF p = v.at p
 | [], v => by cases v <;> first | rfl | (rename_i x; cases x <;> rfl)
 | i :: p, v => by
  cases v with
  | d x =>
   cases x with
   | agg xs =>
    simp only [V.atF, V.at, V.kids, List.getElem?_map]
    cases xs[i]? with
    | none => rfl
    | some y => simp only [Option.map_some]; exact V.atF_eq p (.d y)
   | _ => simp [V.atF, V.at, V.kids]
  | agg xs =>
   simp only [V.atF, V.at, V.kids]
   cases xs[i]? with
   | none => rfl
   | some y => exact V.atF_eq p y
  | _ => simp [V.atF, V.at, V.kids]
def X8e (objs : Objs) (id : Nat) (p : List Nat) : Option V := match lookO objs id with
 | some (.box _ t) => t.atF p
 | _ => none
theorem Xn6 (objs : Objs) (id : Nat) (p : List Nat) : X8e objs id p = atO objs id p := by
 unfold X8e atO
 cases lookO objs id with
 | none => rfl
 | some o => cases o <;> simp [V.atF_eq]
def Xh3 (len z : Nat) (w : V) : Option V → Option V
 | some (.d (.agg xs)) => gdR (Nat.beq xs.length len && xs.all (fun x => x.szIs z)) w
 | o => Xfy len z w (Yr o)
theorem Xyq (a b : Nat) : Nat.beq a b = decide (a = b) := by
 by_cases e : a = b
 ·subst e; simp
 ·rw [decide_eq_false e]
  cases hb : Nat.beq a b with
  | false => rfl
  | true => exact (e (Nat.eq_of_beq_eq_true hb)).elim
theorem Xl6 (len z : Nat) (w : V) (o : Option V) : Xh3 len z w o = Xfy len z w (Yr o) := by
 unfold Xh3
 split
 ·rename_i xs
  simp only [Yr, V.kids, Xfy, List.length_map, List.all_map, Xyq, D.szIs_eq]
  congr 2
  congr 1
  funext x
  simp [V.size, V.shape, D.size_shape]
 ·rfl
def Xo6 (ob : Objs) (len z : Nat) : V → V → Option V
 | .ptr id p, .d (.int _ n) => bif decide (0 ≤ n) && decide (n < len) then Xh3 len z (.ptr id (p ++ [n.toNat])) (X8e ob id p) else none
 | u, v => Xt9 ob len z u v
theorem Xo7 (ob : Objs) (len z : Nat) (u v : V) : Xo6 ob len z u v = Xt9 ob len z u v := by
 unfold Xo6; split
 ·simp only [Xt9, Xl6, Xn6]
 ·rfl
def X46 (n : Nat) (ag : Bool) : Option V → Option V
 | some v => gdR (v.szIs n && (v.isAgg == ag)) v
 | none => none
def Yao (ob : Objs) (n : Nat) (ag : Bool) : V → Option V
 | .ptr id p => X46 n ag (X8e ob id p)
 | .d (.ref x) => gdR (x.szIs n && ((V.d x).isAgg == ag)) (.d x)
 | v => ldR ob n ag v
theorem Xpf (ob : Objs) (n : Nat) (ag : Bool) (v : V) : Yao ob n ag v = ldR ob n ag v := by
 unfold Yao; split
 ·simp only [ldR, Xn6]
  cases atO ob _ _ <;> simp [X46, X45, V.szIs_eq]
 ·simp only [ldR, D.szIs_eq]
 ·rfl
def Xo0 {α : Type} (n : Int) (f : Int → α) : α := match n with
 | .ofNat 0 => f (.ofNat 0)
 | .ofNat (m + 1) => f (.ofNat (m + 1))
 | .negSucc 0 => f (.negSucc 0)
 | .negSucc (m + 1) => f (.negSucc (m + 1))
theorem Xo1 {α : Type} (n : Int) (f : Int → α) : Xo0 n f = f n := by
 unfold Xo0; split <;> rfl
def X3i : Option V → Option V
 | some (.d (.int k n)) => Xo0 n fun n => some (.d (.int k n))
 | o => o
theorem Xo4 (o : Option V) : X3i o = o := by
 unfold X3i; split
 ·rw [Xo1]
 ·rfl
def C.run (sl : Xb) (ob : Objs) : C → Option V
 | .mv x => some (x.ev sl)
 | .pick c a b => X7h (c.ev sl) (a.ev sl) (b.ev sl)
 | .not x => nz (X2w (x.ev sl))
 | .neg x => X3i (nz (Ybr (x.ev sl)))
 | .cpl x => X3i (nz (Xzf (x.ev sl)))
 | .mx x y => nz (mxV (x.ev sl) (y.ev sl))
 | .bin op x y => X3i (Yb8 op (x.ev sl) (y.ev sl))
 | .beq e x y => nz (X9f e (x.ev sl) (y.ev sl))
 | .isnil e x => nz (Uz e (x.ev sl))
 | .pnil e x => nz (X23 e (x.ev sl))
 | .fnil e x => nz (Xzv e (x.ev sl))
 | .peq e x y => Yf8 ob e (x.ev sl) (y.ev sl)
 | .usd x => Ygq ob (x.ev sl)
 | .cvi k x => X3i (nz (Xzh k (x.ev sl)))
 | .cvs x => nz (X9k (x.ev sl))
 | .idx x i => Yco (x.ev sl) (i.ev sl)
 | .idxA z x i => X4t ob z (x.ev sl) (i.ev sl)
 | .idxP n z x i => Xo6 ob n z (x.ev sl) (i.ev sl)
 | .fldA f fo x => X4n ob f fo (x.ev sl)
 | .fld f fo n ag x => Ycj f fo n ag (x.ev sl).kids
 | .ld n ag x => Yao ob n ag (x.ev sl)
 | .nilc x => X6e (x.ev sl)
 | .lenS x => nz (Xh7 (x.ev sl))
 | .lenL x => X5b ob (x.ev sl)
 | .lenA n => some (.d (.int .i64 n))
 | .slcS x lo hi => X7p (lo.map (A.ev sl)) (hi.map (A.ev sl)) (x.ev sl)
 | .slcL z x lo hi => X7o z (lo.map (A.ev sl)) (hi.map (A.ev sl)) (x.ev sl)
 | .ext x i => Yci i (x.ev sl)
 | .bld z Xc => (Xwd (z.map .d) (Xc.map fun (i, x) => (i, x.ev sl))).map V.mk
 | .mkf f first cap => some (Xww f (first.map (A.ev sl)) (cap.map (A.ev sl)))
 | .mki t x => some (Xvk t (x.ev sl))
 | .tas t z x => Ygp t z (x.ev sl)
 | .eqD ty e x y => Ych ty e (x.ev sl) (y.ev sl)
 | .aix n z ag x i => X4v n z ag (x.ev sl) (i.ev sl)

theorem Xs {b : Bool} {v u : V} (h : gdR b v = some u) : b = true ∧ v = u := by
 cases b <;> simp [gdR] at h ⊢; exact h
theorem Z2 {v u : V} (h : nz v = some u) : v = u ∧ v ≠ .any := by
 cases v <;> simp [nz, V.isAny] at h <;> exact ⟨h, by simp⟩
theorem Qg {len : Nat} {lo hi : Option V} {p : Nat × Nat} {K : Nat → Nat → Prop} (h : X32 len lo hi = some p) (hK : K p.1 p.2) : V9 len K lo hi := by
 unfold X32 at h
 split at h <;> simp only [V9]
 ·cases h; exact hK
 ·rw [Bool.cond_eq_ite] at h; split at h
  ·rename_i hc; cases h; simp at hc; exact ⟨hc, hK⟩
  ·cases h
 ·rw [Bool.cond_eq_ite] at h; split at h
  ·rename_i hc; cases h; simp at hc; exact ⟨hc, hK⟩
  ·cases h
 ·rw [Bool.cond_eq_ite] at h; split at h
  ·rename_i hc; cases h; simp at hc; exact ⟨⟨hc.1.1.1, hc.1.1.2⟩, ⟨hc.1.2, hc.2⟩, hK⟩
  ·cases h
 ·cases h
theorem Wi {K : List V → Prop} : ∀ (ps : List (Nat × V)) (ks : List V) {l : List V}, Xwd ks ps = some l → K l → Um ks ps K
 | [], ks, l, h, hK => by simp only [Xwd, Option.some.injEq] at h; subst h; exact hK
 | (i, v) :: r, ks, l, h, hK => by
  simp only [Xwd] at h
  rw [Bool.cond_eq_ite] at h
  split at h
  ·rename_i hc
   simp only [Bool.and_eq_true, decide_eq_true_eq, Bool.not_eq_true'] at hc
   refine ⟨hc.1.1, Sh.beq_eq _ _ hc.1.2, fun e => ?_, Wi r _ h hK⟩
   subst e; simp [V.isAny] at hc
  ·cases h
theorem C.run_sound {sl : Xb} {ob : Objs} {c : C} {v : V} {K : V → Prop} (h : c.run sl ob = some v) (hK : K v) : c.wp sl ob K := by
 cases c <;> simp only [C.run, Xpf, Xo7, Xo4] at h <;> simp only [C.wp]
 case mv => cases h; exact hK
 case lenA => cases h; exact hK
 case mkf => cases h; exact hK
 case mki => cases h; exact hK
 case bld z Xc =>
  rw [Option.map_eq_some_iff] at h
  obtain ⟨l, h1, rfl⟩ := h
  exact Wi _ _ h1 hK
 case pick x y z =>
  generalize A.ev sl x = a at h ⊢; generalize A.ev sl y = b at h ⊢; generalize A.ev sl z = c at h ⊢
  unfold X7h at h
  split at h
  ·cases h; rename_i t _ _; cases t <;> exact hK
  ·cases h; rename_i t hn
   cases t
   ·simp only [cond_false] at hK
    unfold Q1
    split <;> simp_all
   ·simp only [cond_true] at hK
    unfold Q1
    split <;> simp_all
  ·cases h
 case bin op x y =>
  generalize A.ev sl x = a at h ⊢; generalize A.ev sl y = b at h ⊢
  unfold Yb8 at h; split at h
  ·simp only [Xj2]
   cases op <;> simp only [Ycp] at h <;> obtain ⟨h1, rfl⟩ := Xs h <;> simp only [Bool.and_eq_true, decide_eq_true_eq] at h1 <;> simp only [Xki] <;> first | exact ⟨h1, hK⟩ | exact ⟨h1.1, h1.2, hK⟩
  ·simp only [Xj2]
   cases op <;> simp only [Ygk] at h <;> first | (obtain ⟨h1, rfl⟩ := Xs h; exact ⟨of_decide_eq_true h1, hK⟩) | (cases h; exact hK) | cases h
  ·cases h
 case not x => obtain ⟨rfl, h1⟩ := Z2 h; generalize A.ev sl x = a at h1 hK ⊢; unfold X2w at h1 hK; unfold Xql; split <;> simp_all
 case cpl x => obtain ⟨rfl, h1⟩ := Z2 h; generalize A.ev sl x = a at h1 hK ⊢; unfold Xzf at h1 hK; unfold Xse; split <;> simp_all
 case mx x y => obtain ⟨rfl, h1⟩ := Z2 h; generalize A.ev sl x = a at h1 hK ⊢; generalize A.ev sl y = b at h1 hK ⊢; unfold mxV at h1 hK; unfold mxK; split <;> simp_all
 case neg x => obtain ⟨rfl, h1⟩ := Z2 h; generalize A.ev sl x = a at h1 hK ⊢; unfold Ybr at h1 hK; unfold X2v; split <;> simp_all
 case isnil x => obtain ⟨rfl, h1⟩ := Z2 h; generalize A.ev sl x = a at h1 hK ⊢; unfold Uz at h1 hK; unfold Wm; split <;> simp_all
 case pnil x => obtain ⟨rfl, h1⟩ := Z2 h; generalize A.ev sl x = a at h1 hK ⊢; unfold X23 at h1 hK; unfold Xjf; split <;> simp_all
 case fnil x => obtain ⟨rfl, h1⟩ := Z2 h; generalize A.ev sl x = a at h1 hK ⊢; unfold Xzv at h1 hK; unfold Xhz; split <;> simp_all
 case cvi x => obtain ⟨rfl, h1⟩ := Z2 h; generalize A.ev sl x = a at h1 hK ⊢; unfold Xzh at h1 hK; unfold Xok; split <;> simp_all
 case cvs x => obtain ⟨rfl, h1⟩ := Z2 h; generalize A.ev sl x = a at h1 hK ⊢; unfold X9k at h1 hK; unfold Xzi; split <;> simp_all
 case lenS x => obtain ⟨rfl, h1⟩ := Z2 h; generalize A.ev sl x = a at h1 hK ⊢; unfold Xh7 at h1 hK; unfold Xay; split <;> simp_all
 case beq x y => obtain ⟨rfl, h1⟩ := Z2 h; generalize A.ev sl x = a at h1 hK ⊢; generalize A.ev sl y = b at h1 hK ⊢; unfold X9f at h1 hK; unfold Xyp; split <;> simp_all
 case peq x y =>
  generalize A.ev sl x = a at h ⊢; generalize A.ev sl y = b at h ⊢
  unfold Yf8 at h; split at h
  ·obtain ⟨h1, rfl⟩ := Xs h
   simp only [Bool.and_eq_true, decide_eq_true_eq, Option.isSome_iff_exists] at h1
   exact ⟨h1.1.1, h1.1.2, h1.2, hK⟩
  ·cases h
 case usd x =>
  generalize A.ev sl x = a at h ⊢
  unfold Ygq at h; split at h
  ·unfold X75 at h
   simp only [Xmz]
   split at h
   ·rename_i E sz xs hl
    obtain ⟨h1, rfl⟩ := Xs h
    simp at h1
    exact ⟨⟨_, _, _, hl, h1.1.1, h1.1.2, h1.2⟩, hK⟩
   ·cases h
  ·cases h; exact hK
  ·cases h
 case idx x y =>
  generalize A.ev sl x = a at h ⊢; generalize A.ev sl y = b at h ⊢
  unfold Yco at h; split at h
  ·obtain ⟨h1, rfl⟩ := Xs h
   simp only [Bool.and_eq_true, decide_eq_true_eq] at h1
   exact ⟨h1, hK⟩
  ·cases h
 case idxA x y =>
  generalize A.ev sl x = a at h ⊢; generalize A.ev sl y = b at h ⊢
  unfold X4t at h; split at h
  ·obtain ⟨h1, rfl⟩ := Xs h
   simp only [Bool.and_eq_true, decide_eq_true_eq] at h1
   exact ⟨h1.1.1, ⟨h1.1.2, h1.2⟩, hK⟩
  ·obtain ⟨h1, rfl⟩ := Xs h
   simp only [Bool.and_eq_true, decide_eq_true_eq] at h1
   refine ⟨h1.1, ?_, hK⟩
   have h2 := h1.2
   generalize Wk _ _ _ = o at h2 ⊢
   cases o with
   | none => simp [Xz1] at h2
   | some v =>
    simp only [Xz1] at h2
    simp only [Xh2]
    exact of_decide_eq_true h2
  ·obtain ⟨h1, rfl⟩ := Xs h
   simp only [Bool.and_eq_true, decide_eq_true_eq] at h1
   refine ⟨h1.1, ?_, hK⟩
   have h2 := h1.2
   generalize Yr _ = o at h2 ⊢
   cases o with
   | none => simp [Xz0] at h2
   | some ks =>
    simp only [Xz0, Bool.and_eq_true, decide_eq_true_eq, List.all_eq_true] at h2
    exact ⟨ks, rfl, h2⟩
  ·cases h
 case eqD x y =>
  generalize A.ev sl x = a at h ⊢; generalize A.ev sl y = b at h ⊢
  unfold Ych at h; split at h
  ·obtain ⟨h1, rfl⟩ := Xs h
   simp only [Bool.and_eq_true] at h1
   exact ⟨h1.1, h1.2, hK⟩
  ·cases h
 case aix x y =>
  generalize A.ev sl x = a at h ⊢; generalize A.ev sl y = b at h ⊢
  unfold X4v at h; split at h
  ·obtain ⟨h1, rfl⟩ := Xs h
   simp only [Bool.and_eq_true, decide_eq_true_eq, List.all_eq_true, beq_iff_eq] at h1
   exact ⟨⟨h1.1.1.1, h1.1.1.2⟩, h1.1.2, h1.2, hK⟩
  ·cases h
 case idxP x y =>
  generalize A.ev sl x = a at h ⊢; generalize A.ev sl y = b at h ⊢
  unfold Xt9 at h; split at h
  ·rw [Bool.cond_eq_ite] at h; split at h
   ·rename_i hc
    unfold Xfy at h; split at h
    ·rename_i ks hk
     obtain ⟨h1, rfl⟩ := Xs h
     simp only [Bool.and_eq_true, decide_eq_true_eq, List.all_eq_true] at h1 hc
     exact ⟨hc, ⟨ks, hk, h1.1, h1.2⟩, hK⟩
    ·cases h
   ·cases h
  ·obtain ⟨h1, rfl⟩ := Xs h
   simp only [Bool.and_eq_true, decide_eq_true_eq, List.all_eq_true] at h1
   exact ⟨⟨h1.1.1.1, h1.1.1.2⟩, h1.1.2, h1.2, hK⟩
  ·cases h
 case fldA x =>
  generalize A.ev sl x = a at h ⊢
  unfold X4n at h; split at h
  ·unfold Xwh at h; split at h
   ·rename_i ks hk
    obtain ⟨h1, rfl⟩ := Xs h
    simp only [Bool.and_eq_true, decide_eq_true_eq] at h1
    simp only [Qp, hk]
    exact ⟨h1.1, h1.2, hK⟩
   ·cases h
  ·obtain ⟨h1, rfl⟩ := Xs h
   simp only [Bool.and_eq_true, decide_eq_true_eq] at h1
   exact ⟨h1.1, h1.2, hK⟩
  ·cases h; exact hK
  ·cases h
 case fld x =>
  generalize (A.ev sl x).kids = a at h ⊢
  unfold Ycj at h; split at h
  ·obtain ⟨h1, rfl⟩ := Xs h
   simp only [Bool.and_eq_true, decide_eq_true_eq, beq_iff_eq] at h1
   exact ⟨h1.1.1.1, h1.1.1.2, h1.1.2, h1.2, hK⟩
  ·cases h
 case ld x =>
  generalize A.ev sl x = a at h ⊢
  unfold ldR at h; split at h
  ·unfold X45 at h; split at h
   ·rename_i v hk
    obtain ⟨h1, rfl⟩ := Xs h
    simp only [Bool.and_eq_true, decide_eq_true_eq, beq_iff_eq] at h1
    simp only [ldK, hk]
    exact ⟨h1.1, h1.2, hK⟩
   ·cases h
  ·obtain ⟨h1, rfl⟩ := Xs h
   simp only [Bool.and_eq_true, decide_eq_true_eq, beq_iff_eq] at h1
   exact ⟨h1.1, h1.2, hK⟩
  ·unfold X45 at h; split at h
   ·rename_i v hk
    obtain ⟨h1, rfl⟩ := Xs h
    simp only [Bool.and_eq_true, decide_eq_true_eq, beq_iff_eq] at h1
    simp only [ldK, hk]
    exact ⟨h1.1, h1.2, hK⟩
   ·cases h
  ·cases h
 case nilc x =>
  generalize A.ev sl x = a at h ⊢
  unfold X6e at h; split at h <;> cases h <;> exact hK
 case lenL x =>
  generalize A.ev sl x = a at h ⊢
  unfold X5b at h; split at h
  ·cases h; exact hK
  ·cases h; exact hK
  ·unfold Xwu at h; split at h
   ·rename_i E z xs hl
    obtain ⟨h1, rfl⟩ := Xs h
    exact ⟨.inl ⟨_, _, _, hl, of_decide_eq_true h1⟩, hK⟩
   ·rename_i E z xs hl
    obtain ⟨h1, rfl⟩ := Xs h
    exact ⟨.inr ⟨_, _, _, hl, of_decide_eq_true h1⟩, hK⟩
   ·cases h
  ·unfold Xwt at h; split at h
   ·rename_i E t hl
    cases h
    exact ⟨⟨_, _, hl⟩, hK⟩
   ·cases h
  ·cases h
 case slcS x lo hi =>
  generalize A.ev sl x = a at h ⊢
  unfold X7p at h; split at h
  ·rw [Option.map_eq_some_iff] at h
   obtain ⟨p, h1, rfl⟩ := h
   exact Qg (K := fun l h => K (.d (.str ((List.take h _).drop l)))) h1 hK
  ·cases h
 case slcL x lo hi =>
  generalize A.ev sl x = a at h ⊢
  unfold X7o at h; split at h
  ·rw [Bool.cond_eq_ite] at h; split at h
   ·rename_i hc
    rw [Option.map_eq_some_iff] at h
    obtain ⟨p, h1, rfl⟩ := h
    exact ⟨of_decide_eq_true hc, Qg (K := fun l h => K (.d (.list _ ((List.take h _).drop l)))) h1 hK⟩
   ·cases h
  ·cases h
 case ext x i =>
  generalize A.ev sl x = a at h ⊢
  unfold Yci at h; split at h
  ·obtain ⟨h1, rfl⟩ := Xs h
   exact ⟨of_decide_eq_true h1, hK⟩
  ·cases h
 case tas t z x =>
  generalize A.ev sl x = a at h ⊢
  unfold Ygp at h; split at h
  ·cases h
   refine ⟨fun e => ?_, fun e => ?_⟩ <;> simp [e] at hK <;> exact hK
  ·cases h
   refine ⟨fun e => ?_, fun e => ?_⟩ <;> simp [e] at hK <;> exact hK
  ·cases h; exact hK
  ·cases h
end Go.Ab
/- An evaluator of statements and functions, and that what it yields holds. Over any program; no condition. -/
namespace Go.Ab
open Go

inductive Rr where
 | ok (v : V) (ob : Objs)
 | pn (v : V) (ob : Objs)
 | no

def Qi : List D → Option (List UInt8)
 | [] => some []
 | .int .u8 n :: r => bif decide (0 ≤ n) && decide (n < 256) then (Qi r).map fun s => UInt8.ofNat n.toNat :: s else none
 | _ => none
theorem Qj : ∀ {l : List D} {s : List UInt8}, Qi l = some s → l = bytesD s
 | [], s, h => by simp only [Qi, Option.some.injEq] at h; subst h; rfl
 | x :: r, s, h => by
  unfold Qi at h
  split at h
  ·rename_i e; cases e
  ·rename_i n r' e
   cases e
   rw [Bool.cond_eq_ite] at h
   split at h
   ·rename_i hc
    simp only [Bool.and_eq_true, decide_eq_true_eq] at hc
    rw [Option.map_eq_some_iff] at h
    obtain ⟨t, h1, rfl⟩ := h
    rw [Qj h1]
    have : ((UInt8.ofNat n.toNat).toNat : Int) = n := by rw [UInt8.toNat_ofNat']; omega
    simp only [bytesD, this]
   ·cases h
  ·cases h

def Ygj (ob : Objs) (id : Nat) (p : List Nat) (n E : Nat) (v t : V) : Option V → Rr
 | some old => bif Sh.beq v.shape old.shape && decide (old.size = n) && v.sto then (match t.set p v with | some t' => .ok .undef (setO ob id (.box E t')) | none => .no) else .no
 | none => .no
def Ygi (ob : Objs) (id : Nat) (p : List Nat) (n : Nat) (v : V) : Option Ob → Rr
 | some (.box E t) => Ygj ob id p n E v t (t.at p)
 | _ => .no
def X7v (ob : Objs) (id i n : Nat) (o : Ob) (v v0 : V) (p : List Nat) : Option V → Rr
 | some old => bif Sh.beq v.shape old.shape && decide (old.size = n) && v.sto then (match v0.set p v with | some t' => .ok .undef (setO ob id (Xjj o i t')) | none => .no) else .no
 | none => .no
def X7w (ob : Objs) (id i n : Nat) (o : Ob) (v : V) (z f : Nat) (p : List Nat) : Option V → Rr
 | some v0 => bif decide (z = v0.size) && decide (f = v0.shape.off p) then X7v ob id i n o v v0 p (v0.at p) else .no
 | none => .no
def X7u (ob : Objs) (id m z i f : Nat) (p : List Nat) (n : Nat) (v : V) : Option Ob → Rr
 | some o => X7w ob id i n o v z f p (Wk m i (some o))
 | none => .no
def stR (ob : Objs) (n : Nat) (v : V) : V → Rr
 | .ptr id p => Ygi ob id p n v (lookO ob id)
 | .ep id m z i f p => X7u ob id m z i f p n v (lookO ob id)
 | _ => .no
def V.isLf (v : V) : Bool := !v.isAgg
theorem V.lf_shape {v : V} (h : v.isLf = true) : v.shape = .leaf := by
 cases v with
 | d x => cases x <;> first | rfl | simp [V.isLf, V.isAgg] at h
 | agg xs => simp [V.isLf, V.isAgg] at h
 | _ => rfl
def Xq5 (a b : V) : Bool := bif a.isLf && b.isLf then true else Sh.beq a.shape b.shape
theorem Xq6 {a b : V} (h : Xq5 a b = true) : a.shape = b.shape := by
 unfold Xq5 at h
 cases hc : (a.isLf && b.isLf) with
 | true =>
  simp only [Bool.and_eq_true] at hc
  rw [V.lf_shape hc.1, V.lf_shape hc.2]
 | false => rw [hc] at h; exact Sh.beq_eq _ _ h
def V.setF : V → List Nat → V → Option V
 | _, [], x => some x
 | .d (.agg xs), i :: p, x => match xs[i]? with
  | some y => match V.setF (.d y) p x with
   | some (.d z) => some (.d (.agg (xs.set i z)))
   | some k => some (V.mk ((xs.map .d).set i k))
   | none => none
  | none => none
 | v, i :: p, x => match v.kids with
  | some ks => match ks[i]? with
   | some k => match V.setF k p x with
    | some k' => some (V.mk (ks.set i k'))
    | none => none
   | none => none
  | none => none
theorem Xn0 : ∀ (l : List D), V.allD (l.map .d) = some l
 | [] => rfl
 | x :: r => by simp only [List.map_cons, V.allD, Xn0 r]
theorem V.setF_eq : ∀ (p : List Nat) (v x : V), v.setF p x = v.set p x
 | [], v, x => by cases v <;> first | rfl | (rename_i y; cases y <;> rfl)
 | i :: p, v, x => by
  cases v with
  | d y =>
   cases y with
   | agg xs =>
    simp only [V.setF, V.set, V.kids, List.getElem?_map]
    cases xs[i]? with
    | none => rfl
    | some y =>
     simp only [Option.map_some, V.setF_eq p (.d y) x]
     cases V.set (.d y) p x with
     | none => rfl
     | some k =>
      cases k with
      | d z => simp only [← List.map_set, V.mk, Xn0]
      | _ => rfl
   | _ => simp [V.setF, V.set, V.kids]
  | agg xs =>
   simp only [V.setF, V.set, V.kids]
   cases xs[i]? with
   | none => rfl
   | some y => simp only [V.setF_eq p y x]; cases V.set y p x <;> rfl
  | _ => simp [V.setF, V.set, V.kids]
def X70 (ob : Objs) (id : Nat) (p : List Nat) (n E : Nat) (v t : V) : Option V → Rr
 | some old => bif Xq5 v old && old.szIs n && v.sto then (match t.setF p v with | some t' => .ok .undef (setO ob id (.box E t')) | none => .no) else .no
 | none => .no
def X7z (ob : Objs) (id : Nat) (p : List Nat) (n : Nat) (v : V) : Option Ob → Rr
 | some (.box E t) => X70 ob id p n E v t (t.atF p)
 | _ => .no
def Ygh (ob : Objs) (n : Nat) (v : V) : V → Rr
 | .ptr id p => X7z ob id p n v (lookO ob id)
 | u => stR ob n v u
def Ygg (sz : Nat) : V → Option (List D)
 | .d (.list z ys) => bif decide (z = sz) then some ys else none
 | .d .nils => some []
 | _ => none
def Xym (id E sz B n : Nat) (ob : Objs) (ys : List D) : Option Ob → Rr
 | some (.arr E' sz' xs) => bif decide (E' = E) && decide (sz' = sz) && decide (n = xs.length) && decide ((2 * (xs.length + ys.length) + 192) * B ≤ 281474976710656) then .ok (.sl id (xs.length + ys.length)) (setO ob id (.arr E sz (xs ++ ys))) else .no
 | _ => .no
def X8d (E sz B : Nat) (ob : Objs) (ys : List D) : V → Rr
 | .sl id n => Xym id E sz B n ob ys (lookO ob id)
 | .d .nils => bif decide ((2 * ys.length + 192) * B ≤ 281474976710656) then .ok (.sl (fresh ob) ys.length) ((fresh ob, .arr E sz ys) :: ob) else .no
 | _ => .no
def Xxz (sz n : Nat) : Option Ob → Option (List V)
 | some (.vec _ z ys) => bif decide (z = sz) && decide (n = ys.length) && V.stos ys then some ys else none
 | some (.arr _ z ys) => bif decide (z = sz) && decide (n = ys.length) then some (ys.map .d) else none
 | _ => none
def X7t (sz : Nat) (ob : Objs) : V → Option (List V)
 | .d (.list z ys) => bif decide (z = sz) then some (ys.map .d) else none
 | .d .nils => some []
 | .sl id n => Xxz sz n (lookO ob id)
 | _ => none
def X30 (id E sz B n : Nat) (ob : Objs) (ys : List V) : Option Ob → Rr
 | some (.vec E' sz' xs) => bif decide (E' = E) && decide (sz' = sz) && decide (n = xs.length) && decide ((2 * (xs.length + ys.length) + 192) * B ≤ 281474976710656) then .ok (.sl id (xs.length + ys.length)) (setO ob id (.vec E sz (xs ++ ys))) else .no
 | some (.arr E' sz' xs) => bif decide (E' = E) && decide (sz' = sz) && decide (n = xs.length) && decide ((2 * (xs.length + ys.length) + 192) * B ≤ 281474976710656) then .ok (.sl id (xs.length + ys.length)) (setO ob id (.vec E sz (xs.map .d ++ ys))) else .no
 | _ => .no
def Yb6 (E sz B : Nat) (ob : Objs) (ys : List V) : V → Rr
 | .sl id n => X30 id E sz B n ob ys (lookO ob id)
 | .d .nils => bif decide ((2 * ys.length + 192) * B ≤ 281474976710656) then .ok (.sl (fresh ob) ys.length) ((fresh ob, .vec E sz ys) :: ob) else .no
 | _ => .no
def Xvo (o : Option V) (ob : Objs) : Rr := match o with
 | some v => .ok v ob
 | none => .no
def Yb7 : V → Option V
 | .d (.list sz xs) => bif decide (sz = 1) then (Qi xs).map fun s => .d (.str s) else none
 | .d .nils => some (.d (.str []))
 | _ => none
def Ygc : V → Option V
 | .d (.str s) => some (.d (.list 1 (bytesD s)))
 | _ => none
def X7r : V → Option (List D)
 | .d (.str s) => some (bytesD s)
 | _ => none
def X4r : Option (D × Objs) → Rr
 | some (d, ob) => .ok (.d d) ob
 | none => .no
def X47 (n : Nat) (ag : Bool) (ob : Objs) : Option V → Rr
 | some v => bif decide (v.size = n) && (v.isAgg == ag) then X4r (V.giv ob v) else .no
 | none => .no
def Ydk (n : Nat) (ag : Bool) (ob : Objs) : V → Rr
 | .ptr id p => X47 n ag ob (atO ob id p)
 | _ => .no
def X48 (ob : Objs) (id : Nat) (p : List Nat) (x : D) : Option Ob → Rr
 | some (.box E t) => match t.set p (.d x) with
  | some t' => .ok (.d x) (setO ob id (.box E t'))
  | none => .no
 | _ => .no
def X49 (v : V) (id : Nat) (p : List Nat) : Option (D × Objs) → Rr
 | some (x, ob) => bif Sh.beq x.shape v.shape then X48 ob id p x (lookO ob id) else .no
 | none => .no
def X5a (n : Nat) (ag : Bool) (ob : Objs) (id : Nat) (p : List Nat) : Option V → Rr
 | some v => bif decide (v.size = n) && (v.isAgg == ag) then X49 v id p (V.gvF 64 ob v) else .no
 | none => .no
def Ydl (n : Nat) (ag : Bool) (ob : Objs) : V → Rr
 | .ptr id p => X5a n ag ob id p (atO ob id p)
 | _ => .no
def X7n (id : Nat) (p : List Nat) (n z : Nat) (lo hi : Option V) : Option (List V) → Option V
 | some ks => bif decide (ks.length = n) && ks.all (fun k => decide (k.size = z)) then (X32 n lo hi).map fun q => .bs id p q.1 (q.2 - q.1) else none
 | none => none
def Ygd (ob : Objs) (n z : Nat) (lo hi : Option V) : V → Option V
 | .ptr id p => X7n id p n z lo hi (Yr (atO ob id p))
 | _ => none
def Yb9 (ob : Objs) (id E : Nat) (t : V) (p : List Nat) (lo n z : Nat) (ys : List D) (r : V) : Option V → Rr
 | some (.d (.agg xs)) => bif decide (lo + n ≤ xs.length) && xs.all (fun x => decide (x.sz = z)) && Sh.beq (D.agg (Xhe lo xs ys)).shape (D.agg xs).shape then (match t.set p (.d (.agg (Xhe lo xs ys))) with | some t' => .ok r (setO ob id (.box E t')) | none => .no) else .no
 | _ => .no
def X8f (ob : Objs) (id : Nat) (p : List Nat) (lo n z : Nat) (ys : List D) (r : V) : Option Ob → Rr
 | some (.box E t) => Yb9 ob id E t p lo n z ys r (t.at p)
 | _ => .no
def Ycd (z : Nat) (ob : Objs) : V → V → Rr
 | .bs id p lo n, .d (.list z' ys) => bif decide (z' = z) then X8f ob id p lo n z (ys.take n) (.d (.int .i64 (min ys.length n : Nat))) (lookO ob id) else .no
 | _, _ => .no
def X41 : Option Ob → Bool
 | some (.box _ _) => true
 | _ => false
def Ycb (z0 : D) (z : Nat) (ob : Objs) : V → Rr
 | .bs id p lo n => bif Nat.beq n 0 then (bif X41 (lookO ob id) then .ok (.tup []) ob else .no) else bif decide (z0.sz = z) && decide (z = 1) then X8f ob id p lo n z (List.replicate n z0) (.tup []) (lookO ob id) else .no
 | _ => .no
def Yck (n z : Nat) : D → V → Option V
 | .agg xs, .d (.int _ m) => gdR (decide (0 ≤ m) && decide (m < n) && decide (xs.length = n) && xs.all (fun x => decide (x.sz = z))) (.d (.ref (xs.getD m.toNat default)))
 | _, _ => none
def V.isNils : V → Bool
 | .d .nils => true
 | _ => false
def X31 : Option V → Bool
 | some v => v.isNils
 | none => false
def X59 (ob : Objs) (id : Nat) (p : List Nat) (E sz : Nat) (y : V) : Option Ob → Rr
 | some (.box E0 t) => bif X31 (t.at p) then (match t.set p (.sl (fresh ob) 0) with | some t' => .ok y ((fresh ob, .arr E sz []) :: setO ob id (.box E0 t')) | none => .no) else .no
 | _ => .no
def X8k (ob : Objs) (E sz : Nat) (p : List Nat) (y : V) : V → Rr
 | .ptr id q => X59 ob id (q ++ p) E sz y (lookO ob id)
 | _ => .no
def X8l (y x : V) : List (Nat × Nat × List Nat) → Objs → Rr
 | [], ob => .ok y ob
 | e :: l, ob => match X8k ob e.1 e.2.1 e.2.2 y x with
  | .ok _ ob' => X8l y x l ob'
  | _ => .no
def X4c (id n : Nat) (ob : Objs) : Option Ob → Rr
 | some (.arr _ sz xs) => bif decide (sz ≠ 0) && decide (n = xs.length) && !xs.isEmpty then .ok (.d (.list sz xs)) (setO ob id .gone) else .no
 | _ => .no
def Yce (ob : Objs) : V → Rr
 | .sl id n => X4c id n ob (lookO ob id)
 | _ => .no
def Xx3 (id n : Nat) (m : Int) (E : Nat) (ob : Objs) : Option Ob → Rr
 | some (.arr E' sz xs) => bif decide (E' = E) && decide (sz = 1) && decide (n = xs.length) && decide (m = n) && decide (n ≤ 9223372036854775807) && !xs.isEmpty then (match Qi xs with | some s => .ok (.d (.str s)) (setO ob id .gone) | none => .no) else .no
 | _ => .no
def X77 (E : Nat) (ob : Objs) : V → V → Rr
 | .sd id n, .d (.int .i64 m) => Xx3 id n m E ob (lookO ob id)
 | .d .nilp, .d (.int .i64 m) => bif decide (m = 0) then .ok (.d (.str [])) ob else .no
 | _, _ => .no
def Xxw (ob : Objs) : V → Rr
 | .iface t v => .pn (.iface t v) ob
 | .d (.iface t v) => .pn (.d (.iface t v)) ob
 | _ => .no

structure Fns where
 call : Nat → List V → Objs → Option (Out × Objs)
 pc : Nat → List V → Objs → Option V
 ca : Nat → Bool
 gl : Nat → Option D
structure Fns.ok (P : Prg) (R : Fns) : Prop where
 call : ∀ f vs ob o b, R.call f vs ob = some (o, b) → ACall P f vs ob fun o' b' => o' = o ∧ b' = b
 pc : ∀ f vs ob v, R.pc f vs ob = some v → PCall P f vs ob fun v' => v' = v
 ca : ∀ f, R.ca f = true → Xi P.p f = true
 gl : ∀ g x, R.gl g = some x → Zl P g x

def X7e : Option (Out × Objs) → Rr
 | some (.ret v, ob) => .ok v ob
 | some (.panic v, ob) => .pn v ob
 | none => .no
def Xwg (R : Fns) (args : List V) (ob : Objs) : V → Rr
 | .fn f fi ca => bif R.ca f then X7e (R.call f (fi ++ args ++ ca) ob) else .no
 | .d (.fn f fi ca) => bif R.ca f then X7e (R.call f (fi.map .d ++ args ++ ca.map .d) ob) else .no
 | _ => .no
def Xsu (l : Option (List V)) : Option (List D) := match l with
 | some ks => V.allD ks
 | none => none

def Xu8 (kd k : D) (es : List (D × V)) : Bool := D.alike kd k && es.all fun e => D.alike k e.1
theorem Xko {kd k : D} {es : List (D × V)} (h : Xu8 kd k es = true) : Xcp kd k es := by
 simp only [Xu8, Bool.and_eq_true, List.all_eq_true] at h
 exact h
def X5d (kd z : D) (ok : Bool) (k : D) : Option Ob → Option V
 | some (.map es) => gdR (Xu8 kd k es) (Xvh z ok (Jq k es))
 | _ => none
def Ydn (ob : Objs) (kd z : D) (ok : Bool) : V → V → Option V
 | .mp id, .d k => X5d kd z ok k (lookO ob id)
 | .d .nilm, .d k => gdR (D.alike kd k) (Xvh z ok none)
 | _, _ => none
def Xwy (ob : Objs) (id : Nat) (kd k : D) (v : V) : Option Ob → Rr
 | some (.map es) => bif Xu8 kd k es && v.sto then .ok .undef (setO ob id (.map (Xm9 k v es))) else .no
 | _ => .no
def X58 (ob : Objs) (kd : D) (v : V) : V → V → Rr
 | .mp id, .d k => Xwy ob id kd k v (lookO ob id)
 | _, _ => .no
def X7q (ob : Objs) (id n z : Nat) : Option V → Rr
 | some (.d (.agg xs)) => bif decide (xs.length = n) && xs.all (fun x => decide (x.sz = z)) then .ok (.d (.list z xs)) (setO ob id .gone) else .no
 | _ => .no
def Yge (ob : Objs) (n z : Nat) : V → Rr
 | .ptr id p => X7q ob id n z (atO ob id p)
 | _ => .no
def Xwn : V → Bool
 | .d (.int _ _) => true
 | _ => false
def Yev (sl : Xb) : Option A → Bool
 | none => true
 | some x => Xwn (x.ev sl)

def I.run (R : Fns) (sl : Xb) (ob : Objs) : I → Rr
 | .c x => Xvo (x.run sl ob) ob
 | .box E x => bif (x.ev sl).sto then .ok (.ptr (fresh ob) []) ((fresh ob, .box E (x.ev sl)) :: ob) else .no
 | .alloc E z => bif (V.d z).sto then .ok (.ptr (fresh ob) []) ((fresh ob, .box E (.d z)) :: ob) else .no
 | .bls sz z Xc => match Xsu (Xwd (z.map .d) (Xc.map fun (i, x) => (i, x.ev sl))) with
  | some l => .ok (.d (.list sz l)) ob
  | none => .no
 | .blo E sz z Xc => match Xsu (Xwd (z.map .d) (Xc.map fun (i, x) => (i, x.ev sl))) with
  | some l => .ok (.sl (fresh ob) l.length) ((fresh ob, .arr E sz l) :: ob)
  | none => .no
 | .st n x v => Ygh ob n (v.ev sl) (x.ev sl)
 | .app E sz B x y => match Ygg sz (y.ev sl) with
  | some ys => X8d E sz B ob ys (x.ev sl)
  | none => .no
 | .appS E B x y => match X7r (y.ev sl) with
  | some ys => X8d E 1 B ob ys (x.ev sl)
  | none => .no
 | .call f args => X7e (R.call f (args.map (A.ev sl)) ob)
 | .pcall f args => Xvo (R.pc f (args.map (A.ev sl)) ob) ob
 | .callv x args => Xwg R (args.map (A.ev sl)) ob (x.ev sl)
 | .panic x => Xxw ob (x.ev sl)
 | .b2s x => Xvo (Yb7 (x.ev sl)) ob
 | .s2b x => Xvo (Ygc (x.ev sl)) ob
 | .nilo E sz x => bif (x.ev sl).isNils then .ok (.sl (fresh ob) 0) ((fresh ob, .arr E sz []) :: ob) else .no
 | .mvf x => X4r (V.giv ob (x.ev sl))
 | .ldf n ag x => Ydk n ag ob (x.ev sl)
 | .mvg E sz y x p => X8k ob E sz p (y.ev sl) (x.ev sl)
 | .mvn y x l => X8l (y.ev sl) (x.ev sl) l ob
 | .cvb x => Yce ob (x.ev sl)
 | .ustr E x y => X77 E ob (x.ev sl) (y.ev sl)
 | .mkm r => bif Yev sl r then .ok (.mp (fresh ob)) ((fresh ob, .map []) :: ob) else .no
 | .lkp kd z ok m k => Xvo (Ydn ob kd z ok (m.ev sl) (k.ev sl)) ob
 | .mset kd m k v => X58 ob kd (v.ev sl) (m.ev sl) (k.ev sl)
 | .gld g n ag x => match R.gl g with
  | some y => bif decide (y.sz = n) && ((V.d y).isAgg == ag) && D.eqb x y then .ok (.d x) ob else .no
  | none => .no
 | .slg n z x => Yge ob n z (x.ev sl)
 | .blv E sz z Xc => match Xwd (z.map .d) (Xc.map fun (i, x) => (i, x.ev sl)) with
  | some ks => .ok (.sl (fresh ob) ks.length) ((fresh ob, .vec E sz ks) :: ob)
  | none => .no
 | .apv E sz B x y => match X7t sz ob (y.ev sl) with
  | some ys => Yb6 E sz B ob ys (x.ev sl)
  | none => .no
 | .gv x => X4r (V.gvF 64 ob (x.ev sl))
 | .ldg n ag x => Ydl n ag ob (x.ev sl)
 | .slb n z x lo hi => Xvo (Ygd ob n z (lo.map (A.ev sl)) (hi.map (A.ev sl)) (x.ev sl)) ob
 | .cpy z x y => Ycd z ob (x.ev sl) (y.ev sl)
 | .clr z0 z x => Ycb z0 z ob (x.ev sl)
 | .gix g n z x i => match R.gl g with
  | some y => bif D.eqb x y then Xvo (Yck n z x (i.ev sl)) ob else .no
  | none => .no

def Rr.to (K Pn : V → Objs → Prop) : Rr → Prop
 | .ok v ob => K v ob
 | .pn v ob => Pn v ob
 | .no => False

section
variable {P : Prg} {R : Fns} {sl : Xb} {ob : Objs} {K Pn : V → Objs → Prop}
theorem Uk {o : Option V} (h : (Xvo o ob).to K Pn) : ∃ v, o = some v ∧ K v ob := by
 unfold Xvo at h; split at h
 ·exact ⟨_, rfl, h⟩
 ·exact h.elim
theorem Xf0 {v : V} (h : v.isNils = true) : v = .d .nils := by
 unfold V.isNils at h; split at h
 ·rfl
 ·cases h
theorem Xja (hR : R.ok P) {f : Nat} {vs : List V} (h : (X7e (R.call f vs ob)).to K Pn) : ACall P f vs ob (Xhd K Pn) := by
 unfold X7e at h
 split at h
 ·rename_i v b hc
  exact (hR.call f vs ob _ _ hc).mono fun o b ⟨e1, e2⟩ => by subst e1; subst e2; exact h
 ·rename_i v b hc
  exact (hR.call f vs ob _ _ hc).mono fun o b ⟨e1, e2⟩ => by subst e1; subst e2; exact h
 ·exact h.elim
theorem Xh1 {o : Option (D × Objs)} (h : (X4r o).to K Pn) : Xft K o := by
 unfold X4r at h; split at h
 ·exact h
 ·exact h.elim
theorem Xp {b : Bool} {x : Rr} (h : (bif b then x else .no).to K Pn) : b = true ∧ x.to K Pn := by
 cases b
 ·exact h.elim
 ·exact ⟨rfl, h⟩
theorem Xn8 {id lo n z : Nat} {p : List Nat} {ys : List D} {r : V} {o : Option Ob} (h : (X8f ob id p lo n z ys r o).to K Pn) : Xj3 ob id p lo n z ys r K o := by
 unfold X8f at h; split at h
 ·unfold Yb9 at h; split at h
  ·rename_i xs hat
   obtain ⟨h1, h2⟩ := Xp h
   simp only [Bool.and_eq_true, decide_eq_true_eq, List.all_eq_true] at h1
   split at h2
   ·rename_i t' ht
    simp only [Xj3, hat, Xyu]
    exact ⟨h1.1.1, h1.1.2, Sh.beq_eq _ _ h1.2, t', ht, h2⟩
   ·exact h2.elim
  ·exact h.elim
 ·exact h.elim
theorem Xp3 {E sz : Nat} {y a : V} {p : List Nat} (h : (X8k ob E sz p y a).to K Pn) : Xhc ob E sz p y K a := by
 unfold X8k at h; split at h
 ·unfold X59 at h; split at h
  ·rename_i E0 t hl
   obtain ⟨h1, h2⟩ := Xp h
   split at h2
   ·rename_i t' ht
    unfold X31 at h1
    split at h1
    ·rename_i v hv
     simp only [Xhc, hl, Xbx, ht, Xgb]
     exact .inl ⟨by rw [hv, Xf0 h1], h2⟩
    ·cases h1
   ·exact h2.elim
  ·exact h.elim
 ·exact h.elim
theorem Xp4 {y a : V} : ∀ {l : List (Nat × Nat × List Nat)} {ob : Objs}, (X8l y a l ob).to K Pn → Xwz y K a l ob
 | [], _, h => h
 | e :: l, ob, h => by
  unfold X8l at h
  split at h
  ·rename_i v' ob' he
   exact Xp3 (Pn := fun _ _ => False) (by rw [he]; exact Xp4 h)
  ·exact h.elim

theorem I.run_sound (hR : R.ok P) {i : I} (h : (i.run R sl ob).to K Pn) : i.wp P sl ob K Pn := by
 cases i <;> simp only [I.run] at h <;> simp only [I.wp]
 case c x =>
  obtain ⟨v, h1, h2⟩ := Uk h
  exact C.run_sound (K := fun v => K v ob) h1 h2
 case box E x => obtain ⟨h1, h2⟩ := Xp h; exact ⟨h1, h2⟩
 case alloc E z => obtain ⟨h1, h2⟩ := Xp h; exact ⟨h1, h2⟩
 case bls sz z Xc =>
  split at h
  ·rename_i l hl
   unfold Xsu at hl
   split at hl
   ·rename_i ks hk
    refine Wi _ _ hk ?_
    rw [hl]; exact h
   ·cases hl
  ·exact h.elim
 case blo E sz z Xc =>
  split at h
  ·rename_i l hl
   unfold Xsu at hl
   split at hl
   ·rename_i ks hk
    refine Wi _ _ hk ?_
    rw [hl]; exact h
   ·cases hl
  ·exact h.elim
 case st n x v =>
  generalize A.ev sl x = a at h ⊢
  unfold Ygh at h; split at h
  ·unfold X7z at h; split at h
   ·rename_i E t hl
    rw [V.atF_eq] at h
    unfold X70 at h; split at h
    ·rename_i old ho
     obtain ⟨h1, h2⟩ := Xp h
     simp only [Bool.and_eq_true, V.szIs_eq, decide_eq_true_eq] at h1
     rw [V.setF_eq] at h2
     split at h2
     ·rename_i t' ht
      simp only [stK, hl, Xrx, ho, Xry]
      exact ⟨Xq6 h1.1.1, h1.1.2, h1.2, t', ht, h2⟩
     ·exact h2.elim
    ·exact h.elim
   ·exact h.elim
  unfold stR at h; split at h
  ·unfold Ygi at h; split at h
   ·rename_i E t hl
    unfold Ygj at h; split at h
    ·rename_i old ho
     obtain ⟨h1, h2⟩ := Xp h
     simp only [Bool.and_eq_true, decide_eq_true_eq] at h1
     split at h2
     ·rename_i t' ht
      simp only [stK, hl, Xrx, ho, Xry]
      exact ⟨Sh.beq_eq _ _ h1.1.1, h1.1.2, h1.2, t', ht, h2⟩
     ·exact h2.elim
    ·exact h.elim
   ·exact h.elim
  ·unfold X7u at h; split at h
   ·rename_i o hl
    unfold X7w at h; split at h
    ·rename_i v0 he
     obtain ⟨h0, h⟩ := Xp h
     simp only [Bool.and_eq_true, decide_eq_true_eq] at h0
     unfold X7v at h; split at h
     ·rename_i old ho
      obtain ⟨h1, h2⟩ := Xp h
      simp only [Bool.and_eq_true, decide_eq_true_eq] at h1
      split at h2
      ·rename_i t' ht
       simp only [stK, hl, X7x, he, X8o, ho, X7y]
       exact ⟨h0, Sh.beq_eq _ _ h1.1.1, h1.1.2, h1.2, t', ht, h2⟩
      ·exact h2.elim
     ·exact h.elim
    ·exact h.elim
   ·exact h.elim
  ·exact h.elim
 case blv E sz z Xc =>
  split at h
  ·rename_i ks hk
   exact Wi _ _ hk h
  ·exact h.elim
 case gv x => exact Xh1 h
 case slb n z x lo hi =>
  obtain ⟨v, h1, h2⟩ := Uk h
  generalize A.ev sl x = a at h1 ⊢
  unfold Ygd at h1; split at h1
  ·rename_i id p
   unfold X7n at h1; split at h1
   ·rename_i ks hk
    rw [Bool.cond_eq_ite] at h1; split at h1
    ·rename_i hc
     simp only [Bool.and_eq_true, decide_eq_true_eq, List.all_eq_true] at hc
     rw [Option.map_eq_some_iff] at h1
     obtain ⟨q, hq, rfl⟩ := h1
     simp only [Xv1, hk, Xeq]
     exact ⟨hc.1, hc.2, Qg (K := fun l h => K (.bs id p l (h - l)) ob) hq h2⟩
    ·cases h1
   ·cases h1
  ·cases h1
 case cpy z x y =>
  generalize A.ev sl x = a at h ⊢; generalize A.ev sl y = b at h ⊢
  unfold Ycd at h; split at h
  ·obtain ⟨h1, h2⟩ := Xp h
   exact ⟨of_decide_eq_true h1, Xn8 h2⟩
  ·exact h.elim
 case clr z0 z x =>
  generalize A.ev sl x = a at h ⊢
  unfold Ycb at h; split at h
  ·rename_i id p lo n
   rw [Bool.cond_eq_ite] at h
   split at h
   ·rename_i hn
    have hn : n = 0 := Nat.eq_of_beq_eq_true hn
    obtain ⟨h1, h2⟩ := Xp h
    refine ⟨fun _ => ⟨?_, h2⟩, fun e => (e hn).elim⟩
    generalize lookO ob id = o at h1 ⊢
    unfold X41 at h1; split at h1
    ·exact ⟨_, _, rfl⟩
    ·cases h1
   ·rename_i hn
    have hn : n ≠ 0 := fun e => hn (by rw [e]; rfl)
    obtain ⟨h1, h2⟩ := Xp h
    simp only [Bool.and_eq_true, decide_eq_true_eq] at h1
    exact ⟨fun e => (hn e).elim, fun _ => ⟨h1, Xn8 h2⟩⟩
  ·exact h.elim
 case gix g n z x i =>
  split at h
  ·rename_i y hy
   obtain ⟨h1, h9⟩ := Xp h
   clear h
   have e := D.eqb_eq _ _ h1
   subst e
   refine ⟨hR.gl g _ hy, ?_⟩
   obtain ⟨v, h2, h3⟩ := Uk h9
   generalize A.ev sl i = b at h2 ⊢
   unfold Yck at h2; split at h2
   ·obtain ⟨h4, rfl⟩ := Xs h2
    simp only [Bool.and_eq_true, decide_eq_true_eq, List.all_eq_true] at h4
    exact ⟨h4.1.1, h4.1.2, h4.2, h3⟩
   ·cases h2
  ·exact h.elim
 case ldg n ag x =>
  generalize A.ev sl x = a at h ⊢
  unfold Ydl at h; split at h
  ·unfold X5a at h; split at h
   ·rename_i v hv
    obtain ⟨h1, h⟩ := Xp h
    simp only [Bool.and_eq_true, decide_eq_true_eq, beq_iff_eq] at h1
    unfold X49 at h; split at h
    ·rename_i x1 ob1 hg
     obtain ⟨h2, h⟩ := Xp h
     unfold X48 at h; split at h
     ·rename_i E t hl
      split at h
      ·rename_i t' ht
       simp only [X3m, hv, Xph, hg, Xpg, hl, Xvc]
       exact ⟨h1.1, h1.2, Sh.beq_eq _ _ h2, t', ht, h⟩
      ·exact h.elim
     ·exact h.elim
    ·exact h.elim
   ·exact h.elim
  ·exact h.elim
 case apv E sz B x y =>
  split at h
  ·rename_i ys hy
   have hx : Xn3 E sz B ob ys K (A.ev sl x) := by
    generalize A.ev sl x = a at h ⊢
    unfold Yb6 at h; split at h
    ·unfold X30 at h; split at h
     ·rename_i E' sz' xs hl
      obtain ⟨h1, h2⟩ := Xp h
      simp only [Bool.and_eq_true, decide_eq_true_eq] at h1
      simp only [Xn3, hl, Xn4]
      exact ⟨h1.1.1.1, h1.1.1.2, h1.1.2, h1.2, h2⟩
     ·rename_i E' sz' xs hl
      obtain ⟨h1, h2⟩ := Xp h
      simp only [Bool.and_eq_true, decide_eq_true_eq] at h1
      simp only [Xn3, hl, Xn4]
      exact ⟨h1.1.1.1, h1.1.1.2, h1.1.2, h1.2, h2⟩
     ·exact h.elim
    ·obtain ⟨h1, h2⟩ := Xp h
     exact ⟨of_decide_eq_true h1, h2⟩
    ·exact h.elim
   generalize A.ev sl y = b at hy ⊢
   unfold X7t at hy; split at hy
   ·rw [Bool.cond_eq_ite] at hy; split at hy
    ·rename_i hc; cases hy; exact ⟨of_decide_eq_true hc, hx⟩
    ·cases hy
   ·cases hy; exact hx
   ·rename_i id n
    unfold Xxz at hy; split at hy
    ·rename_i E1 z ys1 hl
     rw [Bool.cond_eq_ite] at hy; split at hy
     ·rename_i hc; cases hy
      simp only [Bool.and_eq_true, decide_eq_true_eq] at hc
      obtain ⟨⟨rfl, h2⟩, h3⟩ := hc
      exact .inl ⟨E1, _, hl, h2, h3, hx⟩
     ·cases hy
    ·rename_i E1 z ys1 hl
     rw [Bool.cond_eq_ite] at hy; split at hy
     ·rename_i hc; cases hy
      simp only [Bool.and_eq_true, decide_eq_true_eq] at hc
      obtain ⟨rfl, h2⟩ := hc
      exact .inr ⟨E1, ys1, hl, h2, hx⟩
     ·cases hy
    ·cases hy
   ·cases hy
  ·exact h.elim
 case app E sz B x y =>
  split at h
  ·rename_i ys hy
   have hx : Xbo E sz B ob ys K (A.ev sl x) := by
    generalize A.ev sl x = a at h ⊢
    unfold X8d at h; split at h
    ·unfold Xym at h; split at h
     ·rename_i E' sz' xs hl
      obtain ⟨h1, h2⟩ := Xp h
      simp only [Bool.and_eq_true, decide_eq_true_eq] at h1
      simp only [Xbo, hl, Xbq]
      exact ⟨h1.1.1.1, h1.1.1.2, h1.1.2, h1.2, h2⟩
     ·exact h.elim
    ·obtain ⟨h1, h2⟩ := Xp h
     exact ⟨of_decide_eq_true h1, h2⟩
    ·exact h.elim
   generalize A.ev sl y = b at hy ⊢
   unfold Ygg at hy; split at hy
   ·rw [Bool.cond_eq_ite] at hy; split at hy
    ·rename_i hc; cases hy; exact ⟨of_decide_eq_true hc, hx⟩
    ·cases hy
   ·cases hy; exact hx
   ·cases hy
  ·exact h.elim
 case appS E B x y =>
  split at h
  ·rename_i ys hy
   have hx : Xbo E 1 B ob ys K (A.ev sl x) := by
    generalize A.ev sl x = a at h ⊢
    unfold X8d at h; split at h
    ·unfold Xym at h; split at h
     ·rename_i E' sz' xs hl
      obtain ⟨h1, h2⟩ := Xp h
      simp only [Bool.and_eq_true, decide_eq_true_eq] at h1
      simp only [Xbo, hl, Xbq]
      exact ⟨h1.1.1.1, h1.1.1.2, h1.1.2, h1.2, h2⟩
     ·exact h.elim
    ·obtain ⟨h1, h2⟩ := Xp h
     exact ⟨of_decide_eq_true h1, h2⟩
    ·exact h.elim
   generalize A.ev sl y = b at hy ⊢
   unfold X7r at hy; split at hy
   ·cases hy; exact hx
   ·cases hy
  ·exact h.elim
 case call f args => exact Xja hR h
 case pcall f args =>
  obtain ⟨v, h1, h2⟩ := Uk h
  exact (hR.pc _ _ _ _ h1).mono fun v' e => by subst e; exact h2
 case callv x args =>
  generalize A.ev sl x = a at h ⊢
  unfold Xwg at h; split at h
  ·obtain ⟨h1, h2⟩ := Xp h
   exact ⟨hR.ca _ h1, Xja hR h2⟩
  ·obtain ⟨h1, h2⟩ := Xp h
   exact ⟨hR.ca _ h1, Xja hR h2⟩
  ·exact h.elim
 case panic x =>
  generalize A.ev sl x = a at h ⊢
  unfold Xxw at h; split at h
  ·exact h
  ·exact h
  ·exact h.elim
 case b2s x =>
  obtain ⟨v, h1, h2⟩ := Uk h
  generalize A.ev sl x = a at h1 ⊢
  unfold Yb7 at h1; split at h1
  ·rw [Bool.cond_eq_ite] at h1; split at h1
   ·rename_i hc
    rw [Option.map_eq_some_iff] at h1
    obtain ⟨s, h3, rfl⟩ := h1
    exact ⟨of_decide_eq_true hc, s, Qj h3, h2⟩
   ·cases h1
  ·cases h1; exact h2
  ·cases h1
 case s2b x =>
  obtain ⟨v, h1, h2⟩ := Uk h
  generalize A.ev sl x = a at h1 ⊢
  unfold Ygc at h1; split at h1
  ·cases h1; exact h2
  ·cases h1
 case nilo E sz x => obtain ⟨h1, h2⟩ := Xp h; rw [Xf0 h1]; exact h2
 case mvf x => exact Xh1 h
 case ldf n ag x =>
  generalize A.ev sl x = a at h ⊢
  unfold Ydk at h; split at h
  ·unfold X47 at h; split at h
   ·rename_i v hv
    obtain ⟨h1, h2⟩ := Xp h
    simp only [Bool.and_eq_true, decide_eq_true_eq, beq_iff_eq] at h1
    simp only [Xvb, hv, Xh6]
    exact ⟨h1.1, h1.2, Xh1 h2⟩
   ·exact h.elim
  ·exact h.elim
 case mvg => exact Xp3 h
 case mvn => exact Xp4 h
 case cvb x =>
  generalize A.ev sl x = a at h ⊢
  unfold Yce at h; split at h
  ·unfold X4c at h; split at h
   ·rename_i E' sz xs hl
    obtain ⟨h1, h2⟩ := Xp h
    simp at h1
    simp only [Xoj, hl, Xdj]
    exact ⟨h1.1.1, h1.1.2, h1.2, h2⟩
   ·exact h.elim
  ·exact h.elim
 case ustr E x y =>
  generalize A.ev sl x = a at h ⊢; generalize A.ev sl y = b at h ⊢
  unfold X77 at h; split at h
  ·unfold Xx3 at h; split at h
   ·rename_i E' sz xs hl
    obtain ⟨h1, h2⟩ := Xp h
    split at h2
    ·rename_i s hs
     simp at h1
     simp only [Q4, hl, Qd]
     exact ⟨h1.1.1.1.1.1, h1.1.1.1.1.2, h1.1.1.1.2, h1.1.1.2, h1.1.2, h1.2, s, Qj hs, h2⟩
    ·exact h2.elim
   ·exact h.elim
  ·obtain ⟨h1, h2⟩ := Xp h
   exact ⟨of_decide_eq_true h1, h2⟩
  ·exact h.elim
 case mkm r =>
  obtain ⟨h1, h2⟩ := Xp h
  refine ⟨?_, h2⟩
  cases r with
  | none => trivial
  | some x =>
   simp only [Yev] at h1
   simp only [Xwx]
   generalize A.ev sl x = a at h1 ⊢
   unfold Xwn at h1; split at h1
   ·trivial
   ·cases h1
 case lkp kd z ok m k =>
  obtain ⟨v, h1, h2⟩ := Uk h
  generalize A.ev sl m = a at h1 ⊢; generalize A.ev sl k = b at h1 ⊢
  unfold Ydn at h1; split at h1
  ·unfold X5d at h1; split at h1
   ·rename_i es hl
    obtain ⟨h3, rfl⟩ := Xs h1
    simp only [Xpl, hl, Xdw]
    exact ⟨Xko h3, h2⟩
   ·cases h1
  ·obtain ⟨h3, rfl⟩ := Xs h1
   exact ⟨h3, h2⟩
  ·cases h1
 case mset kd m k v =>
  generalize A.ev sl m = a at h ⊢; generalize A.ev sl k = b at h ⊢
  unfold X58 at h; split at h
  ·unfold Xwy at h; split at h
   ·rename_i es hl
    obtain ⟨h1, h2⟩ := Xp h
    simp only [Bool.and_eq_true] at h1
    simp only [Xa1, hl, U3]
    exact ⟨Xko h1.1, h1.2, h2⟩
   ·exact h.elim
  ·exact h.elim
 case slg n z x =>
  generalize A.ev sl x = a at h ⊢
  unfold Yge at h; split at h
  ·rename_i id p
   unfold X7q at h; split at h
   ·rename_i xs hat
    obtain ⟨h1, h2⟩ := Xp h
    simp only [Bool.and_eq_true, decide_eq_true_eq, List.all_eq_true] at h1
    simp only [Xrd, hat, Xer]
    exact ⟨h1.1, h1.2, h2⟩
   ·exact h.elim
  ·exact h.elim
 case gld g n ag x =>
  split at h
  ·rename_i y hy
   obtain ⟨h1, h2⟩ := Xp h
   simp only [Bool.and_eq_true, decide_eq_true_eq, beq_iff_eq] at h1
   have e := D.eqb_eq _ _ h1.2
   subst e
   exact ⟨hR.gl g _ hy, h1.1.1, h1.1.2, h2⟩
  ·exact h.elim
end

inductive Rq where
 | ok (sl : Xb) (ob : Objs)
 | pn (v : V) (sl : Xb) (ob : Objs)
 | no
def Rq.to (K : Xb → Objs → Prop) (Pn : V → Xb → Objs → Prop) : Rq → Prop
 | .ok sl ob => K sl ob
 | .pn v sl ob => Pn v sl ob
 | .no => False

mutual
def V.ids : V → List Nat
 | .ptr id _ => [id]
 | .sl id _ => [id]
 | .sd id _ => [id]
 | .mp id => [id]
 | .ep id _ _ _ _ _ => [id]
 | .bs id _ _ _ => [id]
 | .fn _ a b => V.idss a ++ V.idss b
 | .agg xs => V.idss xs
 | .iface _ v => V.ids v
 | .tup xs => V.idss xs
 | _ => []
def V.idss : List V → List Nat
 | [] => []
 | x :: r => V.ids x ++ V.idss r
end
def Ycn : Xb → List Nat
 | [] => []
 | (_, v) :: r => V.ids v ++ Ycn r
def X3j : Objs → List Nat
 | [] => []
 | (_, .box _ t) :: r => V.ids t ++ X3j r
 | (_, .vec _ _ xs) :: r => V.idss xs ++ X3j r
 | (_, .map es) :: r => V.idss (es.map (·.2)) ++ X3j r
 | _ :: r => X3j r

def Xmw (R : Fns) (sl : Xb) (ob : Objs) (d : Option Nat) (i : I) (k : Xb → Objs → Rq) : Rq := match i.run R sl ob with
 | .ok v ob' => k (put sl d v) ob'
 | .pn v ob' => .pn v sl ob'
 | .no => .no
def Xvw (R : Fns) : List It → Xb → Objs → Rq
 | [], sl, ob => .ok sl ob
 | .op d i :: r, sl, ob => Xmw R sl ob d i (Xvw R r)
 | .gop s want d i :: r, sl, ob => match look sl s with
  | .d (.bool b) => bif b == want then Xmw R ((s, .d (.bool want)) :: sl) ob d i (Xvw R r) else Xvw R r (put ((s, .d (.bool (!want))) :: sl) d .undef) ob
  | .undef => Xvw R r (put sl d .undef) ob
  | _ => .no

theorem W6 {P : Prg} {R : Fns} (hR : R.ok P) {sl : Xb} {ob : Objs} {d : Option Nat} {i : I} {k : Xb → Objs → Rq} {k' K : Xb → Objs → Prop} {Pn : V → Xb → Objs → Prop} (hk : ∀ sl ob, (k sl ob).to K Pn → k' sl ob) (h : (Xmw R sl ob d i k).to K Pn) :
  i.wp P sl ob (fun v ob' => k' (put sl d v) ob') (fun v ob' => Pn v sl ob') := by
 refine I.run_sound hR ?_
 unfold Xmw at h
 split at h
 ·rename_i e; rw [e]; exact hk _ _ h
 ·rename_i e; rw [e]; exact h
 ·exact h.elim
theorem Zf {P : Prg} {R : Fns} (hR : R.ok P) {K : Xb → Objs → Prop} {Pn : V → Xb → Objs → Prop} : ∀ (l : List It) (sl : Xb) (ob : Objs), (Xvw R l sl ob).to K Pn → rwp P K Pn l sl ob
 | [], sl, ob, h => h
 | .op d i :: r, sl, ob, h => W6 hR (fun sl ob h => Zf hR r sl ob h) h
 | .gop s want d i :: r, sl, ob, h => by
  simp only [Xvw] at h
  simp only [rwp]
  split at h
  ·rename_i b hb
   rw [hb]
   simp only [gdK]
   rw [Bool.cond_eq_ite] at h
   split at h
   ·rename_i e
    have e : b = want := by simpa using e
    refine ⟨fun _ => W6 hR (fun sl ob h => Zf hR r sl ob h) h, fun e2 => ?_⟩
    rw [e] at e2; cases want <;> cases e2
   ·rename_i e
    have e : ¬ b = want := by simpa using e
    exact ⟨fun e2 => (e e2).elim, fun _ => Zf hR r _ ob h⟩
  ·rename_i hb
   rw [hb]
   exact Zf hR r _ ob h
  ·exact h.elim

mutual
def V.eqb : V → V → Bool
 | .d x, .d y => D.eqb x y
 | .ptr i p, .ptr j q => Nat.beq i j && decide (p = q)
 | .sl i n, .sl j m => Nat.beq i j && Nat.beq n m
 | .sd i n, .sd j m => Nat.beq i j && Nat.beq n m
 | .mp i, .mp j => Nat.beq i j
 | .ep i n s k f p, .ep j m t l g q => Nat.beq i j && Nat.beq n m && Nat.beq s t && Nat.beq k l && Nat.beq f g && decide (p = q)
 | .bs i p k n, .bs j q l m => Nat.beq i j && Nat.beq k l && Nat.beq n m && decide (p = q)
 | .fn f a b, .fn g a2 b2 => Nat.beq f g && V.eqbs a a2 && V.eqbs b b2
 | .agg a, .agg b => V.eqbs a b
 | .iface t a, .iface u b => Nat.beq t u && V.eqb a b
 | .tup a, .tup b => V.eqbs a b
 | .undef, .undef => true
 | .any, .any => true
 | _, _ => false
def V.eqbs : List V → List V → Bool
 | [], [] => true
 | x :: r, y :: s => V.eqb x y && V.eqbs r s
 | _, _ => false
end
mutual
theorem V.eqb_eq : ∀ (x y : V), V.eqb x y = true → x = y
 | .d a, y, h => by cases y <;> simp only [V.eqb, Bool.false_eq_true] at h; rw [D.eqb_eq _ _ h]
 | .ptr i p, y, h => by cases y <;> simp only [V.eqb, Bool.false_eq_true, Bool.and_eq_true, decide_eq_true_eq] at h; rw [Nat.eq_of_beq_eq_true h.1, h.2]
 | .sl i n, y, h => by cases y <;> simp only [V.eqb, Bool.false_eq_true, Bool.and_eq_true] at h; rw [Nat.eq_of_beq_eq_true h.1, Nat.eq_of_beq_eq_true h.2]
 | .sd i n, y, h => by cases y <;> simp only [V.eqb, Bool.false_eq_true, Bool.and_eq_true] at h; rw [Nat.eq_of_beq_eq_true h.1, Nat.eq_of_beq_eq_true h.2]
 | .mp i, y, h => by cases y <;> simp only [V.eqb, Bool.false_eq_true] at h; rw [Nat.eq_of_beq_eq_true h]
 | .ep i n s k f p, y, h => by
  cases y <;> simp only [V.eqb, Bool.false_eq_true, Bool.and_eq_true, decide_eq_true_eq] at h
  rw [Nat.eq_of_beq_eq_true h.1.1.1.1.1, Nat.eq_of_beq_eq_true h.1.1.1.1.2, Nat.eq_of_beq_eq_true h.1.1.1.2, Nat.eq_of_beq_eq_true h.1.1.2, Nat.eq_of_beq_eq_true h.1.2, h.2]
 | .bs i p k n, y, h => by
  cases y <;> simp only [V.eqb, Bool.false_eq_true, Bool.and_eq_true, decide_eq_true_eq] at h
  rw [Nat.eq_of_beq_eq_true h.1.1.1, Nat.eq_of_beq_eq_true h.1.1.2, Nat.eq_of_beq_eq_true h.1.2, h.2]
 | .fn f a b, y, h => by
  cases y <;> simp only [V.eqb, Bool.false_eq_true, Bool.and_eq_true] at h
  rw [Nat.eq_of_beq_eq_true h.1.1, V.eqbs_eq _ _ h.1.2, V.eqbs_eq _ _ h.2]
 | .agg a, y, h => by cases y <;> simp only [V.eqb, Bool.false_eq_true] at h; rw [V.eqbs_eq _ _ h]
 | .iface t a, y, h => by cases y <;> simp only [V.eqb, Bool.false_eq_true, Bool.and_eq_true] at h; rw [Nat.eq_of_beq_eq_true h.1, V.eqb_eq _ _ h.2]
 | .tup a, y, h => by cases y <;> simp only [V.eqb, Bool.false_eq_true] at h; rw [V.eqbs_eq _ _ h]
 | .undef, y, h => by cases y <;> simp [V.eqb] at h; rfl
 | .any, y, h => by cases y <;> simp [V.eqb] at h; rfl
theorem V.eqbs_eq : ∀ (x y : List V), V.eqbs x y = true → x = y
 | [], y, h => by cases y <;> simp [V.eqbs] at h; rfl
 | x :: r, y, h => by
  cases y <;> simp only [V.eqbs, Bool.false_eq_true, Bool.and_eq_true] at h
  rw [V.eqb_eq _ _ h.1, V.eqbs_eq _ _ h.2]
end
def X4k : List (D × V) → List (D × V) → Bool
 | [], [] => true
 | (k, x) :: r, (j, y) :: s => D.eqb k j && V.eqb x y && X4k r s
 | _, _ => false
theorem Xot : ∀ (x y : List (D × V)), X4k x y = true → x = y
 | [], y, h => by cases y <;> simp [X4k] at h; rfl
 | (k, x) :: r, y, h => by
  cases y <;> simp only [X4k, Bool.false_eq_true, Bool.and_eq_true] at h
  rw [D.eqb_eq _ _ h.1.1, V.eqb_eq _ _ h.1.2, Xot _ _ h.2]
def Ob.eqb : Ob → Ob → Bool
 | .box E t, .box F u => Nat.beq E F && V.eqb t u
 | .arr E z a, .arr F y b => Nat.beq E F && Nat.beq z y && D.eqbs a b
 | .vec E z a, .vec F y b => Nat.beq E F && Nat.beq z y && V.eqbs a b
 | .map a, .map b => X4k a b
 | .gone, .gone => true
 | _, _ => false
theorem Ob.eqb_eq (x y : Ob) (h : Ob.eqb x y = true) : x = y := by
 cases x <;> cases y <;> simp only [Ob.eqb, Bool.false_eq_true, Bool.and_eq_true] at h
 ·rw [Nat.eq_of_beq_eq_true h.1, V.eqb_eq _ _ h.2]
 ·rw [Nat.eq_of_beq_eq_true h.1.1, Nat.eq_of_beq_eq_true h.1.2, D.eqbs_eq _ _ h.2]
 ·rw [Nat.eq_of_beq_eq_true h.1.1, Nat.eq_of_beq_eq_true h.1.2, V.eqbs_eq _ _ h.2]
 ·rw [Xot _ _ h]
 ·rfl
def X3g : Xb → Xb → Bool
 | [], [] => true
 | (k, x) :: r, (j, y) :: s => Nat.beq k j && V.eqb x y && X3g r s
 | _, _ => false
theorem Xhu : ∀ (x y : Xb), X3g x y = true → x = y
 | [], y, h => by cases y <;> simp [X3g] at h; rfl
 | (k, x) :: r, y, h => by
  cases y <;> simp only [X3g, Bool.false_eq_true, Bool.and_eq_true] at h
  rw [Nat.eq_of_beq_eq_true h.1.1, V.eqb_eq _ _ h.1.2, Xhu _ _ h.2]
def Xtw : Objs → Objs → Bool
 | [], [] => true
 | (k, x) :: r, (j, y) :: s => Nat.beq k j && Ob.eqb x y && Xtw r s
 | _, _ => false
theorem Qo : ∀ (x y : Objs), Xtw x y = true → x = y
 | [], y, h => by cases y <;> simp [Xtw] at h; rfl
 | (k, x) :: r, y, h => by
  cases y <;> simp only [Xtw, Bool.false_eq_true, Bool.and_eq_true] at h
  rw [Nat.eq_of_beq_eq_true h.1.1, Ob.eqb_eq _ _ h.1.2, Qo _ _ h.2]
def Rq.eqb : Rq → Rq → Bool
 | .ok a b, .ok c d => X3g a c && Xtw b d
 | .pn v a b, .pn u c d => V.eqb v u && X3g a c && Xtw b d
 | _, _ => false
theorem Rq.eqb_eq (x y : Rq) (h : Rq.eqb x y = true) : x = y := by
 cases x <;> cases y <;> simp only [Rq.eqb, Bool.false_eq_true, Bool.and_eq_true] at h
 ·rw [Xhu _ _ h.1, Qo _ _ h.2]
 ·rw [V.eqb_eq _ _ h.1.1, Xhu _ _ h.1.2, Qo _ _ h.2]
def Xyt (x y : Rq) : Rq := bif Rq.eqb x y then x else .no
theorem Xsy {K : Xb → Objs → Prop} {Pn : V → Xb → Objs → Prop} {x y : Rq} (h : (Xyt x y).to K Pn) : x.to K Pn ∧ y.to K Pn := by
 unfold Xyt at h
 cases hb : Rq.eqb x y with
 | false => rw [hb] at h; exact h.elim
 | true =>
  rw [hb] at h
  have := Rq.eqb_eq x y hb
  subst this
  exact ⟨h, h⟩
def itR (R : Fns) (k : Xb → Objs → Rq) : It → Xb → Objs → Rq
 | .op d i, sl, ob => Xmw R sl ob d i k
 | .gop s want d i, sl, ob => match look sl s with
  | .d (.bool b) => bif b == want then Xmw R ((s, .d (.bool want)) :: sl) ob d i k else k (put ((s, .d (.bool (!want))) :: sl) d .undef) ob
  | .undef => k (put sl d .undef) ob
  | _ => .no
def Xpc (keep pk : List Nat) : Rq → Rq
 | .ok sl ob => .ok (Xd sl keep) ob
 | .pn v sl ob => .pn v (Xd sl pk) ob
 | .no => .no
mutual
def Xxu (R : Fns) (keep pk : List Nat) : Ot → Xb → Objs → Rq
 | .done, sl, ob => .ok sl ob
 | .one _ x r, sl, ob => itR R (Xxu R keep pk r) x sl ob
 | .br l, sl, ob => Xqp R keep pk l sl ob
def Xqp (R : Fns) (keep pk : List Nat) : Ots → Xb → Objs → Rq
 | .nil, _, _ => .no
 | .cons _ x r .nil, sl, ob => Xpc keep pk (itR R (Xxu R keep pk r) x sl ob)
 | .cons _ x r l, sl, ob => Xyt (Xpc keep pk (itR R (Xxu R keep pk r) x sl ob)) (Xqp R keep pk l sl ob)
end

abbrev Rs := Option (AExit × Xb × Objs)
def Rs.to (Q : Z5) : Rs → Prop
 | some (e, sl, ob) => Q e sl ob
 | none => False
def Ygl (keep : List Nat) (n : Nat) (sl : Xb) (ob : Objs) : Option (Xb × Objs) :=
 let kp := Ycn (Xd sl keep) ++ X3j ob
 bif U4 (young n kp) (Xd sl keep) && noMenO (young n kp) (Yt (young n kp) ob) then some (Xd sl keep, Yt (young n kp) ob) else none
def Xvi (keep : List Nat) (body : Xb → Objs → Rs) : Nat → Xb → Objs → Rs
 | 0, _, _ => none
 | n + 1, sl, ob => match body sl ob with
  | some (.normal, sl', ob') => match Ygl keep (fresh ob) sl' ob' with
   | some (sl2, ob2) => Xvi keep body n sl2 ob2
   | none => none
  | r => r
theorem Xct {sl : Xb} : ∀ (l : List Nat) (k : Nat), k ∈ l → look (Xd sl l) k = look sl k
 | j :: r, k, h => by
  simp only [Xd, look]
  split
  ·rename_i e; rw [e]
  ·rename_i e
   exact Xct r k ((List.mem_cons.1 h).resolve_left (fun e2 => e e2.symm))
theorem Xf1 {sl : Xb} {l : List Nat} : ∀ (m : List Nat), (∀ k ∈ m, k ∈ l) → Xd (Xd sl l) m = Xd sl m
 | [], _ => rfl
 | k :: r, h => by
  simp only [Xd, Xct l k (h k (by simp)), Xf1 r (fun j hj => h j (by simp [hj]))]
theorem Xco (sl : Xb) (l : List Nat) : Xd (Xd sl l) l = Xd sl l := Xf1 l fun _ h => h
theorem Xkm {Q : Z5} {keep pk : List Nat} {r : Rq} (h : (Xpc keep pk r).to (fun sl ob => Q .normal (Xd sl keep) ob) (fun v sl ob => Q (.panic v) (Xd sl pk) ob)) : r.to (fun sl ob => Q .normal (Xd sl keep) ob) (fun v sl ob => Q (.panic v) (Xd sl pk) ob) := by
 cases r with
 | ok sl ob => simp only [Xpc, Rq.to, Xco] at h ⊢; exact h
 | pn v sl ob => simp only [Xpc, Rq.to, Xco] at h ⊢; exact h
 | no => exact h.elim
theorem Xax {P : Prg} {R : Fns} (hR : R.ok P) {k : Xb → Objs → Rq} {k' K : Xb → Objs → Prop} {Pn : V → Xb → Objs → Prop} (hk : ∀ sl ob, (k sl ob).to K Pn → k' sl ob) : ∀ (x : It) (sl : Xb) (ob : Objs), (itR R k x sl ob).to K Pn → itK P k' Pn x sl ob
 | .op d i, sl, ob, h => W6 hR hk h
 | .gop s want d i, sl, ob, h => by
  simp only [itR] at h
  simp only [itK]
  split at h
  ·rename_i b hb
   rw [hb]
   simp only [gdK]
   rw [Bool.cond_eq_ite] at h
   split at h
   ·rename_i e
    have e : b = want := by simpa using e
    refine ⟨fun _ => W6 hR hk h, fun e2 => ?_⟩
    rw [e] at e2; cases want <;> cases e2
   ·rename_i e
    have e : ¬ b = want := by simpa using e
    exact ⟨fun e2 => (e e2).elim, fun _ => hk _ _ h⟩
  ·rename_i hb
   rw [hb]
   exact hk _ _ h
  ·exact h.elim
mutual
theorem Vw {P : Prg} {R : Fns} (hR : R.ok P) {Q : Z5} {keep pk : List Nat} : ∀ (t : Ot) (sl : Xb) (ob : Objs), (Xxu R keep pk t sl ob).to (fun sl ob => Q .normal (Xd sl keep) ob) (fun v sl ob => Q (.panic v) (Xd sl pk) ob) → owp P (fun sl ob => Q .normal (Xd sl keep) ob) (fun v sl ob => Q (.panic v) (Xd sl pk) ob) t sl ob
 | .done, sl, ob, h => by simp only [Xxu] at h; simp only [owp]; exact h
 | .one _ x r, sl, ob, h => by
  simp only [Xxu] at h
  simp only [owp]
  exact Xax hR (fun sl ob h => Vw hR r sl ob h) x sl ob h
 | .br l, sl, ob, h => by simp only [Xxu] at h; simp only [owp]; exact Xa6 hR l sl ob h
theorem Xa6 {P : Prg} {R : Fns} (hR : R.ok P) {Q : Z5} {keep pk : List Nat} : ∀ (l : Ots) (sl : Xb) (ob : Objs), (Xqp R keep pk l sl ob).to (fun sl ob => Q .normal (Xd sl keep) ob) (fun v sl ob => Q (.panic v) (Xd sl pk) ob) → Xe4 P (fun sl ob => Q .normal (Xd sl keep) ob) (fun v sl ob => Q (.panic v) (Xd sl pk) ob) l sl ob
 | .nil, sl, ob, h => by simp only [Xe4]
 | .cons _ x r .nil, sl, ob, h => by
  simp only [Xqp] at h
  simp only [Xe4, and_true]
  exact Xax hR (fun sl ob h => Vw hR r sl ob h) x sl ob (Xkm h)
 | .cons _ x r (.cons i y s l), sl, ob, h => by
  simp only [Xqp] at h
  rw [Xe4]
  obtain ⟨h1, h2⟩ := Xsy h
  exact ⟨Xax hR (fun sl ob h => Vw hR r sl ob h) x sl ob (Xkm h1), Xa6 hR (.cons i y s l) sl ob h2⟩
end
def S.run (R : Fns) (L : Nat) : S → Xb → Objs → Rs
 | .rg _ l keep pk, sl, ob => match Xvw R l sl ob with
  | .ok sl' ob' => some (.normal, Xd sl' keep, ob')
  | .pn v sl' ob' => some (.panic v, Xd sl' pk, ob')
  | .no => none
 | .rgT _ t keep pk, sl, ob => match Xxu R keep pk t sl ob with
  | .ok sl' ob' => some (.normal, Xd sl' keep, ob')
  | .pn v sl' ob' => some (.panic v, Xd sl' pk, ob')
  | .no => none
 | .seq a b, sl, ob => match S.run R L a sl ob with
  | some (.normal, sl', ob') => S.run R L b sl' ob'
  | r => r
 | .skip, sl, ob => some (.normal, sl, ob)
 | .cond c a b, sl, ob => match c.ev sl with
  | .d (.bool t) => bif t then S.run R L a sl ob else S.run R L b sl ob
  | _ => none
 | .block n a, sl, ob => match S.run R L a sl ob with
  | some (.exit m, sl', ob') => bif decide (m = n) then some (.normal, sl', ob') else some (.exit m, sl', ob')
  | r => r
 | .loop keep a, sl, ob => Xvi keep (S.run R L a) L (Xd sl keep) ob
 | .exit n, sl, ob => some (.exit n, sl, ob)
 | .ret, sl, ob => some (.ret, sl, ob)

theorem S.run_sound {P : Prg} {R : Fns} (hR : R.ok P) {L : Nat} : ∀ (s : S) (Q : Z5) (sl : Xb) (ob : Objs), (s.run R L sl ob).to Q → cwp P s Q sl ob
 | .rg _ l keep pk, Q, sl, ob, h => by
  simp only [S.run] at h
  simp only [cwp]
  refine Zf hR _ _ _ ?_
  split at h
  ·rename_i e; rw [e]; exact h
  ·rename_i e; rw [e]; exact h
  ·exact h.elim
 | .rgT _ t keep pk, Q, sl, ob, h => by
  simp only [S.run] at h
  simp only [cwp]
  refine Vw hR _ _ _ ?_
  split at h
  ·rename_i e; rw [e]; exact h
  ·rename_i e; rw [e]; exact h
  ·exact h.elim
 | .seq a b, Q, sl, ob, h => by
  simp only [S.run] at h
  simp only [cwp]
  refine S.run_sound (L := L) hR a _ sl ob ?_
  split at h
  ·rename_i e; rw [e]; exact S.run_sound (L := L) hR b Q _ _ h
  ·rename_i hne
   revert h hne
   generalize S.run R L a sl ob = r
   intro hne h
   cases r with
   | none => exact h.elim
   | some x =>
    obtain ⟨e, sl', ob'⟩ := x
    cases e with
    | normal => exact (hne _ _ rfl).elim
    | exit n => exact h
    | ret => exact h
    | panic v => exact h
 | .skip, Q, sl, ob, h => h
 | .cond c a b, Q, sl, ob, h => by
  simp only [S.run] at h
  simp only [cwp]
  split at h
  ·rename_i t ht
   rw [ht]
   cases t
   ·exact ⟨fun e => (by cases e), fun _ => S.run_sound (L := L) hR b Q sl ob h⟩
   ·exact ⟨fun _ => S.run_sound (L := L) hR a Q sl ob h, fun e => (by cases e)⟩
  ·exact h.elim
 | .block n a, Q, sl, ob, h => by
  simp only [S.run] at h
  simp only [cwp]
  refine S.run_sound (L := L) hR a _ sl ob ?_
  split at h
  ·rename_i m sl' ob' e
   rw [e]
   rw [Bool.cond_eq_ite] at h
   simp only [Rs.to, Y5]
   by_cases hm : m = n
   ·simp only [hm, decide_true, if_true] at h ⊢; exact h
   ·simp only [hm, decide_false, Bool.false_eq_true, if_false] at h ⊢; exact h
  ·rename_i hne
   revert h hne
   generalize S.run R L a sl ob = r
   intro hne h
   cases r with
   | none => exact h.elim
   | some x =>
    obtain ⟨e, sl', ob'⟩ := x
    cases e with
    | normal => exact h
    | exit n => exact (hne _ _ _ rfl).elim
    | ret => exact h
    | panic v => exact h
 | .loop keep a, Q, sl, ob, h => by
  simp only [S.run] at h
  simp only [cwp]
  refine ALoop.of (ι := Nat × Xb × Objs) (fun x => x.2.1) (fun x => x.2.2) (fun x => (Xvi keep (S.run R L a) x.1 x.2.1 x.2.2).to Q) (fun x => x.1) (L, Xd sl keep, ob) h rfl rfl ?_
  rintro ⟨n, sl1, ob1⟩ h1
  refine S.run_sound (L := L) hR a _ _ _ ?_
  simp only at h1 ⊢
  cases n with
  | zero => exact h1.elim
  | succ n =>
   simp only [Xvi] at h1
   split at h1
   ·rename_i sl' ob' e
    rw [e]
    split at h1
    ·rename_i sl2 ob2 e2
     unfold Ygl at e2
     rw [Bool.cond_eq_ite] at e2
     split at e2
     ·rename_i hc
      simp only [Bool.and_eq_true] at hc
      cases e2
      exact ⟨_, hc.1, hc.2, (n, _, _), h1, Nat.lt_succ_self n, rfl, rfl⟩
     ·cases e2
    ·exact h1.elim
   ·rename_i hne
    revert h1 hne
    generalize S.run R L a sl1 ob1 = r
    intro hne h1
    cases r with
    | none => exact h1.elim
    | some x =>
     obtain ⟨e, sl', ob'⟩ := x
     cases e with
     | normal => exact (hne _ _ rfl).elim
     | exit n => exact h1
     | ret => exact h1
     | panic v => exact h1
 | .exit n, Q, sl, ob, h => h
 | .ret, Q, sl, ob, h => h
end Go.Ab
/- An evaluator of calls, and that what it yields holds. Over any program; no condition. -/
namespace Go.Ab
open Go

inductive FI where
 | pl (s : S) (rs : List RV) (n : Nat)
 | df (s : FSt) (rs : List RV) (n : Nat)
 | rc (its : List It) (keep : List Nat) (k : Nat) (s : S) (n : Nat)
  | kp (s : S) (rs : List RV) (n : Nat)
def FI.ok (p : Program) (f : Nat) : FI → Bool
 | .pl s rs n => Xx p f n s rs
 | .kp s rs n => Xx p f n s rs
 | .df s rs n => Xl5 p f n s rs
 | .rc its _ k s n => Xlv p f n k its s
abbrev FT := List (Nat × FI)
def Xf6 : FT → Nat → Option FI
 | [], _ => none
 | (j, x) :: r, k => bif Nat.beq j k then some x else Xf6 r k
def FT.ok (p : Program) (F : FT) : Prop := ∀ f x, Xf6 F f = some x → FI.ok p f x = true ∧ Xi p f = true
theorem FT.ok_nil {p : Program} : FT.ok p [] := fun f x h => by cases h
theorem FT.ok_cons {p : Program} {f : Nat} {x : FI} {F : FT} (h : FI.ok p f x = true) (hc : Xi p f = true) (hF : FT.ok p F) : FT.ok p ((f, x) :: F) := fun g y hg => by
 simp only [Xf6] at hg
 rw [Bool.cond_eq_ite] at hg
 split at hg
 ·rename_i e
  cases hg
  have e : f = g := Nat.eq_of_beq_eq_true e
  subst e
  exact ⟨h, hc⟩
 ·exact hF g y hg

def RV.run (sl : Xb) (ob : Objs) : RV → Option V
 | .t k => some (look sl k)
 | .c k n ag => ldR ob n ag (look sl k)
def X3o (sl : Xb) (ob : Objs) : List RV → Option (List V)
 | [] => some []
 | x :: r => match x.run sl ob with
  | some v => (X3o sl ob r).map (v :: ·)
  | none => none
def Xwj : List V → Objs → List V × Objs
 | [], ob => ([], ob)
 | v :: r, ob => match V.giv ob v with
  | some (d, ob') => let p := Xwj r ob'; (.d d :: p.1, p.2)
  | none => let p := Xwj r ob; (v :: p.1, p.2)
def Jh (n : Nat) (vs : List V) (ob : Objs) : Option Objs :=
 let kp := V.idss vs ++ X3j ob
 bif !V.mens (young n kp) vs && noMenO (young n kp) (Yt (young n kp) ob) then some (Yt (young n kp) ob) else none
def X8n (n : Nat) (rs : List RV) (sl : Xb) (ob : Objs) : Option (Out × Objs) := match X3o sl ob rs with
 | some vs => (Jh n (Xwj vs ob).1 (Xwj vs ob).2).map fun b => (.ret (W5 (Xwj vs ob).1), b)
 | none => none
def Xzc (n : Nat) (rs : List RV) : Rs → Option (Out × Objs)
 | some (.normal, sl, ob) => X8n n rs sl ob
 | some (.ret, sl, ob) => X8n n rs sl ob
 | some (.panic v, _, ob) => (Jh n [v] ob).map fun b => (.panic v, b)
 | _ => none
def Xvv (n : Nat) (rs : List RV) (sl : Xb) (ob : Objs) : Option (Out × Objs) := match X3o sl ob rs with
 | some vs => (Jh n vs ob).map fun b => (.ret (W5 vs), b)
 | none => none
def Xoe (n : Nat) (rs : List RV) : Rs → Option (Out × Objs)
 | some (.normal, sl, ob) => Xvv n rs sl ob
 | some (.ret, sl, ob) => Xvv n rs sl ob
 | some (.panic v, _, ob) => (Jh n [v] ob).map fun b => (.panic v, b)
 | _ => none
def Xfu (rs : List RV) (sl : Xb) (ob : Objs) : Option V := match X3o sl ob rs with
 | some vs => (V.givs ob vs).map fun p => W5 (p.1.map .d)
 | none => none
def Xqy (rs : List RV) : Rs → Option V
 | some (.normal, sl, ob) => Xfu rs sl ob
 | some (.ret, sl, ob) => Xfu rs sl ob
 | _ => none

def X4d (R : Fns) (L : Nat) (F : FT) (g : Nat) (vs : List V) (ob : Objs) (rv : Option V) : Option Objs := match Xf6 F g with
 | some (.rc its keep k s n) => bif Nat.beq n vs.length then
   (match Xvw R its ((k, rv.getD (.d .nili)) :: Qe 0 vs) ob with
    | .ok sl ob' => (match s.run R L (Xd sl keep) ob' with
     | some (.normal, _, ob2) => Jh (fresh ob) [] ob2
     | some (.ret, _, ob2) => Jh (fresh ob) [] ob2
     | _ => none)
    | _ => none)
  else none
 | _ => none
def V.isIfc : V → Bool
 | .iface _ _ => true
 | .d (.iface _ _) => true
 | _ => false
def Xzl (R : Fns) (L : Nat) (F : FT) (g : Nat) (cl : List V) (rs : List RV) : Rs → Option V
 | some (.normal, sl, ob) => (X4d R L F g cl ob none).bind fun ob' => Xfu rs sl ob'
 | some (.ret, sl, ob) => (X4d R L F g cl ob none).bind fun ob' => Xfu rs sl ob'
 | some (.panic v, sl, ob) => bif v.isIfc then (X4d R L F g cl ob (some v)).bind fun ob' => Xfu rs sl ob' else none
 | _ => none
def X4l (R : Fns) (L : Nat) (F : FT) (rs : List RV) : FSt → Xb → Objs → Option V
 | .pre s r, sl, ob => match s.run R L sl ob with
  | some (.normal, sl', ob') => X4l R L F rs r sl' ob'
  | some (.ret, sl', ob') => Xfu rs sl' ob'
  | _ => none
 | .dfr its keep k s, sl, ob => match Xvw R its sl ob with
  | .ok sl' ob' => (match look (Xd sl' keep) k with
   | .fn g fi ca => bif R.ca g then Xzl R L F g (fi ++ ca) rs (s.run R L (Xd sl' keep) ob') else none
   | _ => none)
  | _ => none

def pcD (R : Fns) (L : Nat) (F : FT) (f : Nat) (ds : List D) : Option V := match Xf6 F f with
 | some (.pl s rs n) => bif Nat.beq n ds.length then Xqy rs (s.run R L (Qe 0 (ds.map .d)) []) else none
 | some (.df s rs n) => bif Nat.beq n ds.length then X4l R L F rs s (Qe 0 (ds.map .d)) [] else none
 | _ => none
def X4m (o : Option V) : Option V := match o with
 | some v => bif v.flatR then some v else none
 | none => none
def pcX (X R : Fns) (L : Nat) (F : FT) (f : Nat) (ds : List D) (ob : Objs) : Option V := match X.pc f (ds.map .d) ob with
 | some v => some v
 | none => pcD R L F f ds
def pcR (X R : Fns) (L : Nat) (F : FT) (f : Nat) (vs : List V) (ob : Objs) : Option V := match V.allD vs with
 | some ds => pcX X R L F f ds ob
 | none => match V.toDs ob 12 vs with
  | some ds => X4m (pcX X R L F f ds [])
  | none => none
def acR (R : Fns) (L : Nat) (F : FT) (f : Nat) (vs : List V) (ob : Objs) : Option (Out × Objs) := match Xf6 F f with
 | some (.pl s rs n) => bif Nat.beq n vs.length then Xzc (fresh ob) rs (s.run R L (Qe 0 vs) ob) else none
 | some (.kp s rs n) => bif Nat.beq n vs.length then Xoe (fresh ob) rs (s.run R L (Qe 0 vs) ob) else none
 | some (.df _ _ _) => match V.allD vs with
  | some ds => (pcD R L F f ds).map fun v => (.ret v, ob)
  | none => none
 | _ => none
def fns (L : Nat) (F : FT) (X : Fns) : Nat → Fns
 | 0 => X
 | n + 1 => ⟨fun f vs ob => match X.call f vs ob with
   | some r => some r
   | none => acR (fns L F X n) L F f vs ob,
  fun f vs ob => pcR X (fns L F X n) L F f vs ob,
  fun f => (Xf6 F f).isSome || X.ca f, X.gl⟩

section
variable {P : Prg} {R : Fns} {L : Nat} {F : FT}
theorem Vy {sl : Xb} {ob : Objs} : ∀ (rs : List RV) (K : List V → Prop) (vs : List V), X3o sl ob rs = some vs → K vs → Wg sl ob rs K
 | [], K, vs, h, hK => by cases h; exact hK
 | x :: r, K, vs, h, hK => by
  simp only [X3o] at h
  split at h
  ·rename_i v hv
   rw [Option.map_eq_some_iff] at h
   obtain ⟨l, hl, rfl⟩ := h
   simp only [Wg]
   have hr := Vy r (fun vs => K (v :: vs)) l hl hK
   cases x with
   | t k => simp only [RV.run, Option.some.injEq] at hv; subst hv; exact hr
   | c k n ag =>
    simp only [RV.run] at hv
    simp only [RV.wp]
    have h0 : (C.ld n ag (.t 0)).run [(0, look sl k)] ob = some v := by simpa [C.run, Xpf, Xo4, A.ev, look] using hv
    have h1 := C.run_sound (K := fun v => Wg sl ob r fun vs => K (v :: vs)) h0 hr
    simpa [C.wp, A.ev, look] using h1
  ·cases h
theorem Qr : ∀ (vs : List V) (ob : Objs) (K : List V → Objs → Prop), K (Xwj vs ob).1 (Xwj vs ob).2 → Xds vs ob K
 | [], ob, K, h => h
 | v :: r, ob, K, h => by
  simp only [Xwj] at h
  simp only [Xds]
  split at h
  ·rename_i d ob' e
   rw [e]
   exact Qr r ob' _ h
  ·rename_i e
   rw [e]
   exact Qr r ob _ h
theorem Yz {n : Nat} {vs : List V} {ob b : Objs} {K : Objs → Prop} (h : Jh n vs ob = some b) (hK : K b) : X0 n K vs ob := by
 unfold Jh at h
 rw [Bool.cond_eq_ite] at h
 split at h
 ·rename_i hc
  simp only [Bool.and_eq_true, Bool.not_eq_true'] at hc
  cases h
  exact ⟨_, hc.1, hc.2, hK⟩
 ·cases h
theorem Xc0 {n : Nat} {rs : List RV} {sl : Xb} {ob b : Objs} {o : Out} {K : Out → Objs → Prop} (h : X8n n rs sl ob = some (o, b)) (hK : K o b) : Wg sl ob rs fun vs => Xds vs ob fun vs ob => X0 n (K (.ret (W5 vs))) vs ob := by
 unfold X8n at h
 split at h
 ·rename_i vs hv
  rw [Option.map_eq_some_iff] at h
  obtain ⟨b', hb, e⟩ := h
  cases e
  exact Vy rs _ vs hv (Qr vs ob _ (Yz hb hK))
 ·cases h
theorem Xhp {n : Nat} {rs : List RV} {r : Rs} {o : Out} {b : Objs} {K : Out → Objs → Prop} (h : Xzc n rs r = some (o, b)) (hK : K o b) : r.to (Zy n rs K) := by
 unfold Xzc at h
 split at h
 ·exact Xc0 h hK
 ·exact Xc0 h hK
 ·rw [Option.map_eq_some_iff] at h
  obtain ⟨b', hb, e⟩ := h
  cases e
  exact Yz hb hK
 ·cases h
theorem Xbe {n : Nat} {rs : List RV} {sl : Xb} {ob b : Objs} {o : Out} {K : Out → Objs → Prop} (h : Xvv n rs sl ob = some (o, b)) (hK : K o b) : Wg sl ob rs fun vs => X0 n (K (.ret (W5 vs))) vs ob := by
 unfold Xvv at h
 split at h
 ·rename_i vs hv
  rw [Option.map_eq_some_iff] at h
  obtain ⟨b', hb, e⟩ := h
  cases e
  exact Vy rs _ vs hv (Yz hb hK)
 ·cases h
theorem Xfe {n : Nat} {rs : List RV} {r : Rs} {o : Out} {b : Objs} {K : Out → Objs → Prop} (h : Xoe n rs r = some (o, b)) (hK : K o b) : r.to (X4b n rs K) := by
 unfold Xoe at h
 split at h
 ·exact Xbe h hK
 ·exact Xbe h hK
 ·rw [Option.map_eq_some_iff] at h
  obtain ⟨b', hb, e⟩ := h
  cases e
  exact Yz hb hK
 ·cases h
theorem Y8 {rs : List RV} {sl : Xb} {ob : Objs} {v : V} {K : V → Prop} (h : Xfu rs sl ob = some v) (hK : K v) : Wg sl ob rs fun vs => Z6 (fun l _ => K (W5 (l.map .d))) (V.givs ob vs) := by
 unfold Xfu at h
 split at h
 ·rename_i vs hv
  rw [Option.map_eq_some_iff] at h
  obtain ⟨p, hp, rfl⟩ := h
  refine Vy rs _ vs hv ?_
  rw [hp]; exact hK
 ·cases h
theorem Xjg {rs : List RV} {r : Rs} {v : V} {K : V → Prop} (h : Xqy rs r = some v) (hK : K v) : r.to (Xa9 rs K) := by
 unfold Xqy at h
 split at h
 ·exact Y8 h hK
 ·exact Y8 h hK
 ·cases h
variable (hm : P.p.follows .mixedOrders = true) (hF : FT.ok P.p F) (hR : R.ok P)
include hm hF hR
theorem Ql {g : Nat} {vs : List V} {ob b : Objs} {rv : Option V} {K : Objs → Prop} (h : X4d R L F g vs ob rv = some b) (hK : K b) : DCall P g vs ob rv K := by
 unfold X4d at h
 split at h
 ·rename_i its keep k s n hl
  rw [Bool.cond_eq_ite] at h
  split at h
  ·rename_i e
   have e : n = vs.length := Nat.eq_of_beq_eq_true e
   subst e
   have hok := (hF g _ hl).1
   simp only [FI.ok] at hok
   refine Xcb (keep := keep) hm hok (Zf hR _ _ _ ?_)
   split at h
   ·rename_i sl ob' e1
    rw [e1]
    refine S.run_sound (L := L) hR s _ _ _ ?_
    split at h
    ·rename_i e2; rw [e2]; exact Yz h hK
    ·rename_i e2; rw [e2]; exact Yz h hK
    ·cases h
   ·cases h
  ·cases h
 ·cases h
theorem Xhs {g : Nat} {cl : List V} {rs : List RV} {r : Rs} {v : V} {K : V → Prop} (h : Xzl R L F g cl rs r = some v) (hK : K v) : r.to (Xdl P g cl rs K) := by
 unfold Xzl at h
 split at h
 ·rw [Option.bind_eq_some_iff] at h
  obtain ⟨b, h1, h2⟩ := h
  exact Ql hm hF hR h1 (Y8 h2 hK)
 ·rw [Option.bind_eq_some_iff] at h
  obtain ⟨b, h1, h2⟩ := h
  exact Ql hm hF hR h1 (Y8 h2 hK)
 ·rw [Bool.cond_eq_ite] at h
  split at h
  ·rename_i hi
   rw [Option.bind_eq_some_iff] at h
   obtain ⟨b, h1, h2⟩ := h
   refine ⟨?_, Ql hm hF hR h1 (Y8 h2 hK)⟩
   unfold V.isIfc at hi
   split at hi
   ·exact ⟨_, _, .inl rfl⟩
   ·exact ⟨_, .any, .inr ⟨_, rfl⟩⟩
   ·cases hi
  ·cases h
 ·cases h
theorem Xcj {rs : List RV} {K : V → Prop} : ∀ (s : FSt) (sl : Xb) (ob : Objs) (v : V), X4l R L F rs s sl ob = some v → K v → fwp P rs K s sl ob
 | .pre s r, sl, ob, v, h, hK => by
  simp only [X4l] at h
  simp only [fwp]
  refine S.run_sound (L := L) hR s _ _ _ ?_
  split at h
  ·rename_i e; rw [e]; exact Xcj r _ _ v h hK
  ·rename_i e; rw [e]; exact Y8 h hK
  ·cases h
 | .dfr its keep k s, sl, ob, v, h, hK => by
  simp only [X4l] at h
  simp only [fwp]
  refine Zf hR _ _ _ ?_
  split at h
  ·rename_i sl' ob' e
   rw [e]
   simp only [Rq.to]
   split at h
   ·rename_i g fi ca e2
    rw [e2]
    rw [Bool.cond_eq_ite] at h
    split at h
    ·rename_i hc
     exact ⟨hR.ca _ hc, S.run_sound (L := L) hR s _ _ _ (Xhs hm hF hR h hK)⟩
    ·cases h
   ·cases h
  ·cases h
theorem Xgl {f : Nat} {ds : List D} {v : V} {ob : Objs} {K : V → Prop} (h : pcD R L F f ds = some v) (hK : K v) : PCall P f (ds.map .d) ob K := by
 unfold pcD at h
 split at h
 ·rename_i s rs n hl
  rw [Bool.cond_eq_ite] at h
  split at h
  ·rename_i e
   have e : n = ds.length := Nat.eq_of_beq_eq_true e
   subst e
   exact Xcy hm (hF f _ hl).1 (S.run_sound (L := L) hR s _ _ _ (Xjg h hK))
  ·cases h
 ·rename_i s rs n hl
  rw [Bool.cond_eq_ite] at h
  split at h
  ·rename_i e
   have e : n = ds.length := Nat.eq_of_beq_eq_true e
   subst e
   exact Xa7 hm (hF f _ hl).1 (Xcj hm hF hR s _ _ v h hK)
  ·cases h
 ·cases h
theorem Xgm {X : Fns} (hX : X.ok P) {f : Nat} {ds : List D} {v : V} {ob : Objs} {K : V → Prop} (h : pcX X R L F f ds ob = some v) (hK : K v) : PCall P f (ds.map .d) ob K := by
 unfold pcX at h
 split at h
 ·rename_i r hr; cases h; exact (hX.pc _ _ _ _ hr).mono fun v' e => by subst e; exact hK
 ·exact Xgl hm hF hR h hK
theorem Xqs {X : Fns} (hX : X.ok P) {f : Nat} {vs : List V} {v : V} {ob : Objs} (h : pcR X R L F f vs ob = some v) : PCall P f vs ob fun v' => v' = v := by
 unfold pcR at h
 split at h
 ·rename_i ds hd
  rw [V.allD_map hd]
  exact Xgm hm hF hR hX h rfl
 ·split at h
  ·rename_i ds hd
   unfold X4m at h
   split at h
   ·rename_i v' hv
    rw [Bool.cond_eq_ite] at h
    split at h
    ·rename_i hfl
     cases h
     exact PCall.borrow hd (Xgm hm hF hR hX hv ⟨hfl, rfl⟩)
    ·cases h
   ·cases h
  ·cases h
theorem Xnz {f : Nat} {vs : List V} {o : Out} {ob b : Objs} (h : acR R L F f vs ob = some (o, b)) : ACall P f vs ob fun o' b' => o' = o ∧ b' = b := by
 unfold acR at h
 split at h
 ·rename_i s rs n hl
  rw [Bool.cond_eq_ite] at h
  split at h
  ·rename_i e
   have e : n = vs.length := Nat.eq_of_beq_eq_true e
   subst e
   exact Xb5 hm (hF f _ hl).1 (S.run_sound (L := L) hR s _ _ _ (Xhp h ⟨rfl, rfl⟩))
  ·cases h
 ·rename_i s rs n hl
  rw [Bool.cond_eq_ite] at h
  split at h
  ·rename_i e
   have e : n = vs.length := Nat.eq_of_beq_eq_true e
   subst e
   exact Xhk hm (hF f _ hl).1 (S.run_sound (L := L) hR s _ _ _ (Xfe h ⟨rfl, rfl⟩))
  ·cases h
 ·split at h
  ·rename_i ds hd
   rw [Option.map_eq_some_iff] at h
   obtain ⟨v, hv, e⟩ := h
   cases e
   rw [V.allD_map hd]
   exact PCall.acall (Xgl hm hF hR hv ⟨rfl, rfl⟩)
  ·cases h
 ·cases h
end
theorem X4p {p : Program} {F : FT} (hF : FT.ok p F) (f : Nat) (h : (Xf6 F f).isSome = true) : Xi p f = true := by
 obtain ⟨x, hx⟩ := Option.isSome_iff_exists.1 h
 exact (hF f x hx).2
theorem Xck {P : Prg} {L : Nat} {F : FT} {X : Fns} (hm : P.p.follows .mixedOrders = true) (hF : FT.ok P.p F) (hX : X.ok P) : ∀ n, (fns L F X n).ok P
 | 0 => hX
 | n + 1 => by
  refine ⟨fun f vs ob o b h => ?_, fun f vs ob v h => ?_, fun f h => ?_, fun g x h => hX.gl g x h⟩
  ·simp only [fns] at h
   split at h
   ·rename_i r hr; cases h; exact hX.call _ _ _ _ _ hr
   ·exact Xnz hm hF (Xck hm hF hX n) h
  ·simp only [fns] at h
   exact Xqs hm hF (Xck hm hF hX n) hX h
  ·simp only [fns, Bool.or_eq_true] at h
   rcases h with h | h
   ·exact X4p hF f h
   ·exact hX.ca f h
end Go.Ab
/- The table of the functions' texts for the evaluator, written by a program; that it is right is checked by the kernel. No condition. -/
namespace Go.Proofs.YtmapdjjigmkbfaaGreatDoor
open Go Go.Ab
set_option maxRecDepth 100000
def Xm8 : FT := [(39, .pl X9v [.t 2] 1),
 (43, .rc Xo9 Xwm 6 X9z 3),
 (44, .pl X90 [.c 0 256 true] 0),
 (45, .pl X91 [] 1),
 (46, .pl X92 [] 1),
 (47, .pl X93 [] 1),
 (48, .pl X94 [] 1),
 (49, .pl X95 [] 1),
 (50, .pl X96 [.t 2] 1),
 (51, .pl X97 [.t 4] 2),
 (52, .pl X98 [.t 4, .t 5] 2),
 (54, .pl X99 [.t 2] 1),
 (96, .pl Yaj [.t 4] 2),
 (97, .pl Yak [.t 3] 2),
 (98, .pl Yal [] 3),
 (99, .pl Yam [.t 3] 2),
 (100, .pl Xz3 [.t 4] 2),
 (101, .pl Xz4 [.t 2] 1),
 (129, .pl X0k [.t 4] 2),
 (10, .df Ycr [.c 4 17 true, .c 5 1 false, .c 6 1 false] 2),
 (14, .pl X9p [.t 4, .t 5] 2),
 (23, .pl Ycx [.c 0 7 true] 0),
 (25, .rc Xwl X40 7 Ycz 3),
 (26, .pl Yc0 [.t 2] 1),
 (27, .kp Yc1 [.c 2 18 true] 1),
 (28, .pl Yc2 [.c 4 17 true] 2),
 (38, .pl X9u [] 2),
 (59, .pl Yc6 [.c 1 14 true] 1),
 (60, .pl Yc7 [.t 2] 1),
 (61, .pl Yc8 [.c 1 14 true] 1),
 (62, .pl Yc9 [.c 1 14 true] 1),
 (63, .pl Yda [.c 6 4 true] 3),
 (64, .pl Ydb [.c 1 14 true] 1),
 (65, .pl Ydc [.t 2] 1),
 (66, .pl Ydd [.t 8] 4),
 (67, .pl Yde [.t 6] 3),
 (68, .pl Ydf [.c 2 14 true] 1),
 (69, .pl Ydg [] 1),
 (70, .pl Ydh [.t 4] 2),
 (72, .pl Ydi [] 2),
 (91, .pl Yae [] 2),
 (111, .pl X4w [.c 2 5 true] 1),
 (112, .pl X4x [.t 2] 1),
 (115, .pl X4y [.t 4] 2),
 (116, .pl X4z [] 2),
 (8, .pl ir8 [.t 0] 0),
 (21, .pl X9s [.c 4 32 true, .t 5] 2),
 (22, .pl X9t [.c 4 32 true] 2),
 (58, .pl Yac [.c 2 32 true] 1),
 (109, .pl Xz9 [] 2),
 (110, .pl X0d [] 2),
 (134, .pl X0m [.t 4] 2),
 (20, .pl X9r [.t 6] 3),
 (40, .pl X9w [.t 4, .t 5] 2),
 (56, .pl Yaa [.c 4 6 true, .t 5] 2),
 (57, .pl Yab [.t 6] 3),
 (71, .pl Yad [.t 4, .t 5] 2),
 (92, .pl Yaf [.t 6, .t 7] 3),
 (94, .pl Yah [.t 4] 2),
 (105, .pl Xz5 [.c 6 6 true, .t 7] 3),
 (106, .pl Xz6 [.t 4] 2),
 (107, .pl Xz7 [.t 4] 2),
 (108, .pl Xz8 [.t 4] 2),
 (113, .pl X0e [.t 6, .t 7] 3),
 (125, .pl X0g [.t 4] 2),
 (126, .pl X0h [.t 4] 3),
 (127, .pl X0i [.c 4 4 true, .t 5] 2),
 (128, .pl X0j [.t 2] 1),
 (135, .pl X0n [.t 4] 2),
 (136, .pl X0o [.t 4] 3),
 (137, .pl X0p [.t 6, .t 7] 3),
 (147, .pl X0q [.t 4] 2),
 (148, .pl X0r [.t 4] 2),
 (149, .pl X0s [.t 4] 2),
 (150, .pl X0z [.t 4] 2),
 (151, .pl X00 [.t 2] 1),
 (152, .pl X01 [.t 6, .t 7] 3),
 (166, .pl X03 [.t 4] 2),
 (167, .pl X04 [.t 4] 3),
 (93, .pl Yag [.t 2] 1),
 (114, .pl X0f [.t 2] 1),
 (153, .pl X02 [.t 2] 1),
 (133, .pl X0l [.c 0 5 true] 0),
 (15, .pl X9q [.t 4] 2),
 (41, .pl X9x [.t 2] 1),
 (42, .pl X9y [.t 6] 3),
 (95, .pl Yai [.t 4] 2),
 (18, .pl Ycw [.c 2 1 false] 1),
 (55, .pl Yc5 [] 3)]
theorem Xet : FT.ok Tryz.prog Xm8 :=
 FT.ok_cons Yfl (by kernel_rfl)
 (FT.ok_cons Ybw (by kernel_rfl)
 (FT.ok_cons Yfp (by kernel_rfl)
 (FT.ok_cons Yfq (by kernel_rfl)
 (FT.ok_cons Yfr (by kernel_rfl)
 (FT.ok_cons Yfs (by kernel_rfl)
 (FT.ok_cons Yft (by kernel_rfl)
 (FT.ok_cons Yfu (by kernel_rfl)
 (FT.ok_cons ok50 (by kernel_rfl)
 (FT.ok_cons ok51 (by kernel_rfl)
 (FT.ok_cons ok52 (by kernel_rfl)
 (FT.ok_cons ok54 (by kernel_rfl)
 (FT.ok_cons Yf4 (by kernel_rfl)
 (FT.ok_cons Yf5 (by kernel_rfl)
 (FT.ok_cons Yf6 (by kernel_rfl)
 (FT.ok_cons Yf7 (by kernel_rfl)
 (FT.ok_cons X6h (by kernel_rfl)
 (FT.ok_cons X6i (by kernel_rfl)
 (FT.ok_cons X6v (by kernel_rfl)
 (FT.ok_cons Yir (by kernel_rfl)
 (FT.ok_cons Yff (by kernel_rfl)
 (FT.ok_cons Yix (by kernel_rfl)
 (FT.ok_cons Yiz (by kernel_rfl)
 (FT.ok_cons Yi0 (by kernel_rfl)
 (FT.ok_cons Yi1 (by kernel_rfl)
 (FT.ok_cons Yi2 (by kernel_rfl)
 (FT.ok_cons Yfk (by kernel_rfl)
 (FT.ok_cons Yi6 (by kernel_rfl)
 (FT.ok_cons Yi7 (by kernel_rfl)
 (FT.ok_cons Yi8 (by kernel_rfl)
 (FT.ok_cons Yi9 (by kernel_rfl)
 (FT.ok_cons Yja (by kernel_rfl)
 (FT.ok_cons Yjb (by kernel_rfl)
 (FT.ok_cons Yjc (by kernel_rfl)
 (FT.ok_cons Yjd (by kernel_rfl)
 (FT.ok_cons Yje (by kernel_rfl)
 (FT.ok_cons Yjf (by kernel_rfl)
 (FT.ok_cons Yjg (by kernel_rfl)
 (FT.ok_cons Yjh (by kernel_rfl)
 (FT.ok_cons Yji (by kernel_rfl)
 (FT.ok_cons Yfz (by kernel_rfl)
 (FT.ok_cons Ybs (by kernel_rfl)
 (FT.ok_cons Ybt (by kernel_rfl)
 (FT.ok_cons Ybu (by kernel_rfl)
 (FT.ok_cons Ybv (by kernel_rfl)
 (FT.ok_cons ok8 (by kernel_rfl)
 (FT.ok_cons Yfi (by kernel_rfl)
 (FT.ok_cons Yfj (by kernel_rfl)
 (FT.ok_cons Yfx (by kernel_rfl)
 (FT.ok_cons X6n (by kernel_rfl)
 (FT.ok_cons X6o (by kernel_rfl)
 (FT.ok_cons X6x (by kernel_rfl)
 (FT.ok_cons Yfh (by kernel_rfl)
 (FT.ok_cons Yfm (by kernel_rfl)
 (FT.ok_cons Yfv (by kernel_rfl)
 (FT.ok_cons Yfw (by kernel_rfl)
 (FT.ok_cons Yfy (by kernel_rfl)
 (FT.ok_cons Yf0 (by kernel_rfl)
 (FT.ok_cons Yf2 (by kernel_rfl)
 (FT.ok_cons X6j (by kernel_rfl)
 (FT.ok_cons X6k (by kernel_rfl)
 (FT.ok_cons X6l (by kernel_rfl)
 (FT.ok_cons X6m (by kernel_rfl)
 (FT.ok_cons X6p (by kernel_rfl)
 (FT.ok_cons X6r (by kernel_rfl)
 (FT.ok_cons X6s (by kernel_rfl)
 (FT.ok_cons X6t (by kernel_rfl)
 (FT.ok_cons X6u (by kernel_rfl)
 (FT.ok_cons X6y (by kernel_rfl)
 (FT.ok_cons X6z (by kernel_rfl)
 (FT.ok_cons X60 (by kernel_rfl)
 (FT.ok_cons X61 (by kernel_rfl)
 (FT.ok_cons X62 (by kernel_rfl)
 (FT.ok_cons X63 (by kernel_rfl)
 (FT.ok_cons X64 (by kernel_rfl)
 (FT.ok_cons X65 (by kernel_rfl)
 (FT.ok_cons X66 (by kernel_rfl)
 (FT.ok_cons X68 (by kernel_rfl)
 (FT.ok_cons X69 (by kernel_rfl)
 (FT.ok_cons Yf1 (by kernel_rfl)
 (FT.ok_cons X6q (by kernel_rfl)
 (FT.ok_cons X67 (by kernel_rfl)
 (FT.ok_cons X6w (by kernel_rfl)
 (FT.ok_cons Yfg (by kernel_rfl)
 (FT.ok_cons Yfn (by kernel_rfl)
 (FT.ok_cons Yfo (by kernel_rfl)
 (FT.ok_cons Yf3 (by kernel_rfl)
 (FT.ok_cons Yiw (by kernel_rfl)
 (FT.ok_cons Yi5 (by kernel_rfl)
 (FT.ok_nil)))))))))))))))))))))))))))))))))))))))))))))))))))))))))))))))))))))))))))))))))))))))))
end Go.Proofs.YtmapdjjigmkbfaaGreatDoor
/- The lexer by fuel, to be computed. No program. -/
namespace Go.Lx
open Go Go.Ab
def X2o : Nat → List UInt8 → Nat → Res
 | 0, _, _ => .ok []
 | _, [], _ => .ok []
 | f + 1, c :: r, off => match stp c r with
  | .skip n => X2o f (r.drop n) (off + n + 1)
  | .tok k t m n => Xyj ⟨k, t, m, off⟩ (X2o f (r.drop n) (off + n + 1))
  | .err => .err off
theorem Xh8 : ∀ (f : Nat) (s : List UInt8) (off : Nat), s.length ≤ f → X2o f s off = Qu s off
 | 0, s, off, h => by
  have : s = [] := List.length_eq_zero_iff.1 (by omega)
  subst this; simp [X2o, Qu]
 | f + 1, [], off, h => by simp [X2o, Qu]
 | f + 1, c :: r, off, h => by
  rw [X2o, Qu]
  have hl : ∀ n, (r.drop n).length ≤ f := fun n => by simp at h ⊢; omega
  split
  ·rw [Xh8 f _ _ (hl _)]; try simp_all
  ·rw [Xh8 f _ _ (hl _)]; try simp_all
  ·simp_all
end Go.Lx
/- What the evaluator of the questions' examples knows beside its table. No condition. -/
namespace Go.Lx
open Go Go.Ab
def X43 : D := .agg [.int .u32 1116352408, .int .u32 1899447441, .int .u32 3049323471, .int .u32 3921009573, .int .u32 961987163, .int .u32 1508970993, .int .u32 2453635748, .int .u32 2870763221, .int .u32 3624381080, .int .u32 310598401, .int .u32 607225278, .int .u32 1426881987, .int .u32 1925078388, .int .u32 2162078206, .int .u32 2614888103, .int .u32 3248222580, .int .u32 3835390401, .int .u32 4022224774, .int .u32 264347078, .int .u32 604807628, .int .u32 770255983, .int .u32 1249150122, .int .u32 1555081692, .int .u32 1996064986, .int .u32 2554220882, .int .u32 2821834349, .int .u32 2952996808, .int .u32 3210313671, .int .u32 3336571891, .int .u32 3584528711, .int .u32 113926993, .int .u32 338241895, .int .u32 666307205, .int .u32 773529912, .int .u32 1294757372, .int .u32 1396182291, .int .u32 1695183700, .int .u32 1986661051, .int .u32 2177026350, .int .u32 2456956037, .int .u32 2730485921, .int .u32 2820302411, .int .u32 3259730800, .int .u32 3345764771, .int .u32 3516065817, .int .u32 3600352804, .int .u32 4094571909, .int .u32 275423344, .int .u32 430227734, .int .u32 506948616, .int .u32 659060556, .int .u32 883997877, .int .u32 958139571, .int .u32 1322822218, .int .u32 1537002063, .int .u32 1747873779, .int .u32 1955562222, .int .u32 2024104815, .int .u32 2227730452, .int .u32 2361852424, .int .u32 2428436474, .int .u32 2756734187, .int .u32 3204031479, .int .u32 3329325298]
def Ygm : D := .agg [.int .u8 31, .int .u8 80, .int .u8 135, .int .u8 219, .int .u8 145, .int .u8 156, .int .u8 237, .int .u8 92, .int .u8 18, .int .u8 60, .int .u8 127, .int .u8 80, .int .u8 125, .int .u8 63, .int .u8 204, .int .u8 232, .int .u8 24, .int .u8 203, .int .u8 12, .int .u8 246, .int .u8 231, .int .u8 124, .int .u8 47, .int .u8 149, .int .u8 168, .int .u8 163, .int .u8 94, .int .u8 149, .int .u8 30, .int .u8 3, .int .u8 253, .int .u8 185]
def Ygn : D := .list 1 [.int .u8 31, .int .u8 80, .int .u8 135, .int .u8 219, .int .u8 145, .int .u8 156, .int .u8 237, .int .u8 92, .int .u8 18, .int .u8 60, .int .u8 127, .int .u8 80, .int .u8 125, .int .u8 63, .int .u8 204, .int .u8 232, .int .u8 24, .int .u8 203, .int .u8 12, .int .u8 246, .int .u8 231, .int .u8 124, .int .u8 47, .int .u8 149, .int .u8 168, .int .u8 163, .int .u8 94, .int .u8 149, .int .u8 30, .int .u8 3, .int .u8 253, .int .u8 185]
def Ycf : D := .agg [.int .u8 245, .int .u8 130, .int .u8 95, .int .u8 56, .int .u8 178, .int .u8 131, .int .u8 52, .int .u8 248, .int .u8 69, .int .u8 175, .int .u8 109, .int .u8 205, .int .u8 19, .int .u8 159, .int .u8 111, .int .u8 163, .int .u8 102, .int .u8 117, .int .u8 229, .int .u8 99, .int .u8 147, .int .u8 61, .int .u8 67, .int .u8 81, .int .u8 101, .int .u8 242, .int .u8 184, .int .u8 139, .int .u8 157, .int .u8 241, .int .u8 225, .int .u8 45]
def Ygf : List UInt8 := [97, 115, 107, 32, 111, 108, 100, 32, 102, 111, 114, 32, 99, 108, 117, 98, 32, 123, 32, 102, 114, 111, 109, 32, 112, 32, 98, 105, 114, 116, 104, 32, 59, 32, 102, 114, 111, 109, 32, 99, 32, 115, 105, 122, 101, 32, 111, 116, 104, 101, 114, 32, 59, 32, 97, 110, 121, 32, 123, 32, 112, 32, 46, 32, 100, 97, 121, 32, 60, 32, 52, 48, 48, 32, 59, 32, 108, 101, 97, 115, 116, 32, 49, 32, 123, 32, 104, 97, 115, 32, 99, 32, 59, 32, 53, 32, 60, 32, 61, 32, 99, 32, 46, 32, 104, 105, 103, 104, 32, 59, 32, 125, 32, 59, 32, 125, 32, 59, 32, 125]
def Ygo : List UInt8 := [113, 117, 101, 115, 116, 105, 111, 110]
def bo1 : Objs := [(2, .box 235 (.d (.agg [.int .u8 31, .int .u8 80, .int .u8 135, .int .u8 219, .int .u8 145, .int .u8 156, .int .u8 237, .int .u8 92, .int .u8 18, .int .u8 60, .int .u8 127, .int .u8 80, .int .u8 125, .int .u8 63, .int .u8 204, .int .u8 232, .int .u8 24, .int .u8 203, .int .u8 12, .int .u8 246, .int .u8 231, .int .u8 124, .int .u8 47, .int .u8 149, .int .u8 168, .int .u8 163, .int .u8 94, .int .u8 149, .int .u8 30, .int .u8 3, .int .u8 253, .int .u8 185, .int .u8 97, .int .u8 115, .int .u8 107, .int .u8 32, .int .u8 111, .int .u8 108, .int .u8 100, .int .u8 32, .int .u8 102, .int .u8 111, .int .u8 114, .int .u8 32, .int .u8 99, .int .u8 108, .int .u8 117, .int .u8 98, .int .u8 32, .int .u8 123, .int .u8 32, .int .u8 102, .int .u8 114, .int .u8 111, .int .u8 109, .int .u8 32, .int .u8 112, .int .u8 32, .int .u8 98, .int .u8 105, .int .u8 114, .int .u8 116, .int .u8 104, .int .u8 32]))), (1, .box 202 (.d (.agg [.int .u32 1779033703, .int .u32 3144134277, .int .u32 1013904242, .int .u32 2773480762, .int .u32 1359893119, .int .u32 2600822924, .int .u32 528734635, .int .u32 1541459225]))), (0, .box 76 (.d (.agg [.int .u8 0, .int .u8 0, .int .u8 0, .int .u8 0, .int .u8 0, .int .u8 0, .int .u8 0, .int .u8 0, .int .u8 0, .int .u8 0, .int .u8 0, .int .u8 0, .int .u8 0, .int .u8 0, .int .u8 0, .int .u8 0, .int .u8 0, .int .u8 0, .int .u8 0, .int .u8 0, .int .u8 0, .int .u8 0, .int .u8 0, .int .u8 0, .int .u8 0, .int .u8 0, .int .u8 0, .int .u8 0, .int .u8 0, .int .u8 0, .int .u8 0, .int .u8 0])))]
def bp1 : Objs := [(2, .box 235 (.d (.agg [.int .u8 31, .int .u8 80, .int .u8 135, .int .u8 219, .int .u8 145, .int .u8 156, .int .u8 237, .int .u8 92, .int .u8 18, .int .u8 60, .int .u8 127, .int .u8 80, .int .u8 125, .int .u8 63, .int .u8 204, .int .u8 232, .int .u8 24, .int .u8 203, .int .u8 12, .int .u8 246, .int .u8 231, .int .u8 124, .int .u8 47, .int .u8 149, .int .u8 168, .int .u8 163, .int .u8 94, .int .u8 149, .int .u8 30, .int .u8 3, .int .u8 253, .int .u8 185, .int .u8 97, .int .u8 115, .int .u8 107, .int .u8 32, .int .u8 111, .int .u8 108, .int .u8 100, .int .u8 32, .int .u8 102, .int .u8 111, .int .u8 114, .int .u8 32, .int .u8 99, .int .u8 108, .int .u8 117, .int .u8 98, .int .u8 32, .int .u8 123, .int .u8 32, .int .u8 102, .int .u8 114, .int .u8 111, .int .u8 109, .int .u8 32, .int .u8 112, .int .u8 32, .int .u8 98, .int .u8 105, .int .u8 114, .int .u8 116, .int .u8 104, .int .u8 32]))), (1, .box 202 (.d (.agg [.int .u32 3353024799, .int .u32 3401748870, .int .u32 3158369745, .int .u32 740706947, .int .u32 2987156969, .int .u32 2150010247, .int .u32 291726018, .int .u32 4028775330]))), (0, .box 76 (.d (.agg [.int .u8 0, .int .u8 0, .int .u8 0, .int .u8 0, .int .u8 0, .int .u8 0, .int .u8 0, .int .u8 0, .int .u8 0, .int .u8 0, .int .u8 0, .int .u8 0, .int .u8 0, .int .u8 0, .int .u8 0, .int .u8 0, .int .u8 0, .int .u8 0, .int .u8 0, .int .u8 0, .int .u8 0, .int .u8 0, .int .u8 0, .int .u8 0, .int .u8 0, .int .u8 0, .int .u8 0, .int .u8 0, .int .u8 0, .int .u8 0, .int .u8 0, .int .u8 0])))]
def bo2 : Objs := [(2, .box 235 (.d (.agg [.int .u8 59, .int .u8 32, .int .u8 102, .int .u8 114, .int .u8 111, .int .u8 109, .int .u8 32, .int .u8 99, .int .u8 32, .int .u8 115, .int .u8 105, .int .u8 122, .int .u8 101, .int .u8 32, .int .u8 111, .int .u8 116, .int .u8 104, .int .u8 101, .int .u8 114, .int .u8 32, .int .u8 59, .int .u8 32, .int .u8 97, .int .u8 110, .int .u8 121, .int .u8 32, .int .u8 123, .int .u8 32, .int .u8 112, .int .u8 32, .int .u8 46, .int .u8 32, .int .u8 100, .int .u8 97, .int .u8 121, .int .u8 32, .int .u8 60, .int .u8 32, .int .u8 52, .int .u8 48, .int .u8 48, .int .u8 32, .int .u8 59, .int .u8 32, .int .u8 108, .int .u8 101, .int .u8 97, .int .u8 115, .int .u8 116, .int .u8 32, .int .u8 49, .int .u8 32, .int .u8 123, .int .u8 32, .int .u8 104, .int .u8 97, .int .u8 115, .int .u8 32, .int .u8 99, .int .u8 32, .int .u8 59, .int .u8 32, .int .u8 53, .int .u8 32]))), (1, .box 202 (.d (.agg [.int .u32 3353024799, .int .u32 3401748870, .int .u32 3158369745, .int .u32 740706947, .int .u32 2987156969, .int .u32 2150010247, .int .u32 291726018, .int .u32 4028775330]))), (0, .box 76 (.d (.agg [.int .u8 0, .int .u8 0, .int .u8 0, .int .u8 0, .int .u8 0, .int .u8 0, .int .u8 0, .int .u8 0, .int .u8 0, .int .u8 0, .int .u8 0, .int .u8 0, .int .u8 0, .int .u8 0, .int .u8 0, .int .u8 0, .int .u8 0, .int .u8 0, .int .u8 0, .int .u8 0, .int .u8 0, .int .u8 0, .int .u8 0, .int .u8 0, .int .u8 0, .int .u8 0, .int .u8 0, .int .u8 0, .int .u8 0, .int .u8 0, .int .u8 0, .int .u8 0])))]
def bp2 : Objs := [(2, .box 235 (.d (.agg [.int .u8 59, .int .u8 32, .int .u8 102, .int .u8 114, .int .u8 111, .int .u8 109, .int .u8 32, .int .u8 99, .int .u8 32, .int .u8 115, .int .u8 105, .int .u8 122, .int .u8 101, .int .u8 32, .int .u8 111, .int .u8 116, .int .u8 104, .int .u8 101, .int .u8 114, .int .u8 32, .int .u8 59, .int .u8 32, .int .u8 97, .int .u8 110, .int .u8 121, .int .u8 32, .int .u8 123, .int .u8 32, .int .u8 112, .int .u8 32, .int .u8 46, .int .u8 32, .int .u8 100, .int .u8 97, .int .u8 121, .int .u8 32, .int .u8 60, .int .u8 32, .int .u8 52, .int .u8 48, .int .u8 48, .int .u8 32, .int .u8 59, .int .u8 32, .int .u8 108, .int .u8 101, .int .u8 97, .int .u8 115, .int .u8 116, .int .u8 32, .int .u8 49, .int .u8 32, .int .u8 123, .int .u8 32, .int .u8 104, .int .u8 97, .int .u8 115, .int .u8 32, .int .u8 99, .int .u8 32, .int .u8 59, .int .u8 32, .int .u8 53, .int .u8 32]))), (1, .box 202 (.d (.agg [.int .u32 1133438781, .int .u32 3720667108, .int .u32 2822332097, .int .u32 2789580547, .int .u32 2280602201, .int .u32 3609626632, .int .u32 2609829547, .int .u32 413238801]))), (0, .box 76 (.d (.agg [.int .u8 0, .int .u8 0, .int .u8 0, .int .u8 0, .int .u8 0, .int .u8 0, .int .u8 0, .int .u8 0, .int .u8 0, .int .u8 0, .int .u8 0, .int .u8 0, .int .u8 0, .int .u8 0, .int .u8 0, .int .u8 0, .int .u8 0, .int .u8 0, .int .u8 0, .int .u8 0, .int .u8 0, .int .u8 0, .int .u8 0, .int .u8 0, .int .u8 0, .int .u8 0, .int .u8 0, .int .u8 0, .int .u8 0, .int .u8 0, .int .u8 0, .int .u8 0])))]
def bo3 : Objs := [(2, .box 235 (.d (.agg [.int .u8 60, .int .u8 32, .int .u8 61, .int .u8 32, .int .u8 99, .int .u8 32, .int .u8 46, .int .u8 32, .int .u8 104, .int .u8 105, .int .u8 103, .int .u8 104, .int .u8 32, .int .u8 59, .int .u8 32, .int .u8 125, .int .u8 32, .int .u8 59, .int .u8 32, .int .u8 125, .int .u8 32, .int .u8 59, .int .u8 32, .int .u8 125, .int .u8 128, .int .u8 0, .int .u8 0, .int .u8 0, .int .u8 0, .int .u8 0, .int .u8 0, .int .u8 0, .int .u8 0, .int .u8 0, .int .u8 0, .int .u8 0, .int .u8 0, .int .u8 0, .int .u8 0, .int .u8 0, .int .u8 0, .int .u8 0, .int .u8 0, .int .u8 0, .int .u8 0, .int .u8 0, .int .u8 0, .int .u8 0, .int .u8 0, .int .u8 0, .int .u8 0, .int .u8 0, .int .u8 0, .int .u8 0, .int .u8 0, .int .u8 0, .int .u8 0, .int .u8 0, .int .u8 0, .int .u8 0, .int .u8 0, .int .u8 0, .int .u8 4, .int .u8 192]))), (1, .box 202 (.d (.agg [.int .u32 1133438781, .int .u32 3720667108, .int .u32 2822332097, .int .u32 2789580547, .int .u32 2280602201, .int .u32 3609626632, .int .u32 2609829547, .int .u32 413238801]))), (0, .box 76 (.d (.agg [.int .u8 0, .int .u8 0, .int .u8 0, .int .u8 0, .int .u8 0, .int .u8 0, .int .u8 0, .int .u8 0, .int .u8 0, .int .u8 0, .int .u8 0, .int .u8 0, .int .u8 0, .int .u8 0, .int .u8 0, .int .u8 0, .int .u8 0, .int .u8 0, .int .u8 0, .int .u8 0, .int .u8 0, .int .u8 0, .int .u8 0, .int .u8 0, .int .u8 0, .int .u8 0, .int .u8 0, .int .u8 0, .int .u8 0, .int .u8 0, .int .u8 0, .int .u8 0])))]
def bp3 : Objs := [(2, .box 235 (.d (.agg [.int .u8 60, .int .u8 32, .int .u8 61, .int .u8 32, .int .u8 99, .int .u8 32, .int .u8 46, .int .u8 32, .int .u8 104, .int .u8 105, .int .u8 103, .int .u8 104, .int .u8 32, .int .u8 59, .int .u8 32, .int .u8 125, .int .u8 32, .int .u8 59, .int .u8 32, .int .u8 125, .int .u8 32, .int .u8 59, .int .u8 32, .int .u8 125, .int .u8 128, .int .u8 0, .int .u8 0, .int .u8 0, .int .u8 0, .int .u8 0, .int .u8 0, .int .u8 0, .int .u8 0, .int .u8 0, .int .u8 0, .int .u8 0, .int .u8 0, .int .u8 0, .int .u8 0, .int .u8 0, .int .u8 0, .int .u8 0, .int .u8 0, .int .u8 0, .int .u8 0, .int .u8 0, .int .u8 0, .int .u8 0, .int .u8 0, .int .u8 0, .int .u8 0, .int .u8 0, .int .u8 0, .int .u8 0, .int .u8 0, .int .u8 0, .int .u8 0, .int .u8 0, .int .u8 0, .int .u8 0, .int .u8 0, .int .u8 0, .int .u8 4, .int .u8 192]))), (1, .box 202 (.d (.agg [.int .u32 4118961976, .int .u32 2994943224, .int .u32 1169124813, .int .u32 329215907, .int .u32 1719002467, .int .u32 2470265681, .int .u32 1710405771, .int .u32 2649874733]))), (0, .box 76 (.d (.agg [.int .u8 0, .int .u8 0, .int .u8 0, .int .u8 0, .int .u8 0, .int .u8 0, .int .u8 0, .int .u8 0, .int .u8 0, .int .u8 0, .int .u8 0, .int .u8 0, .int .u8 0, .int .u8 0, .int .u8 0, .int .u8 0, .int .u8 0, .int .u8 0, .int .u8 0, .int .u8 0, .int .u8 0, .int .u8 0, .int .u8 0, .int .u8 0, .int .u8 0, .int .u8 0, .int .u8 0, .int .u8 0, .int .u8 0, .int .u8 0, .int .u8 0, .int .u8 0])))]
def kgl (g : Nat) : Option D := bif Nat.beq g 0 then some X43 else none
def xh : Fns := ⟨fun _ _ _ => none, fun _ _ _ => none, fun _ => false, kgl⟩
end Go.Lx
