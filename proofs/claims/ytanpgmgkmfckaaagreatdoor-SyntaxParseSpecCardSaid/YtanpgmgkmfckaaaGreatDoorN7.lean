/- Texts of this claim joined by a program, part 7 of 9; the last is: The reference's parser as plain functions of its state, and how it follows the parser of tokens. No program. -/
import Derived.Test.YtanpgmgkmfckaaaGreatDoorN6
import Derived.Test.YtanpgmgkmfckaaaGreatDoorProg
import Derived.KernelRfl
set_option linter.unusedSimpArgs false
set_option linter.unusedVariables false
set_option linter.unusedSectionVars false
set_option linter.defProp false
/- An evaluator of statements and functions, and that what it yields holds. Over any program; no condition. -/
namespace Go.Ab
open Go

inductive Rr where
 | ok (v : V) (ob : Objs)
 | pn (v : V) (ob : Objs)
 | no

def Xaj : List D → Option (List UInt8)
 | [] => some []
 | .int .u8 n :: r => bif decide (0 ≤ n) && decide (n < 256) then (Xaj r).map fun s => UInt8.ofNat n.toNat :: s else none
 | _ => none
theorem Xaw : ∀ {l : List D} {s : List UInt8}, Xaj l = some s → l = bytesD s
 | [], s, h => by simp only [Xaj, Option.some.injEq] at h; subst h; rfl
 | x :: r, s, h => by
  unfold Xaj at h
  split at h
  ·rename_i e; cases e
  ·rename_i n r' e
   cases e
   rw [Bool.cond_eq_ite] at h
   split at h
   ·rename_i hc
    simp only [Bool.and_eq_true, decide_eq_true_eq] at hc
    rw [Option.map_eq_some_iff] at h
    obtain ⟨t, h1, rfl⟩ := h
    rw [Xaw h1]
    have : ((UInt8.ofNat n.toNat).toNat : Int) = n := by rw [UInt8.toNat_ofNat']; omega
    simp only [bytesD, this]
   ·cases h
  ·cases h

def Yhm (ob : Objs) (id : Nat) (p : List Nat) (n E : Nat) (v t : V) : Option V → Rr
 | some old => bif Sh.beq v.shape old.shape && decide (old.size = n) && v.sto then (match t.set p v with | some t' => .ok .undef (setO ob id (.box E t')) | none => .no) else .no
 | none => .no
def Yjc (ob : Objs) (id : Nat) (p : List Nat) (n : Nat) (v : V) : Option Ob → Rr
 | some (.box E t) => Yhm ob id p n E v t (t.at p)
 | _ => .no
def stR (ob : Objs) (n : Nat) (v : V) : V → Rr
 | .ptr id p => Yjc ob id p n v (lookO ob id)
 | _ => .no
def Ymr (sz : Nat) : V → Option (List D)
 | .d (.list z ys) => bif decide (z = sz) then some ys else none
 | .d .nils => some []
 | _ => none
def X3m (id E sz B n : Nat) (ob : Objs) (ys : List D) : Option Ob → Rr
 | some (.arr E' sz' xs) => bif decide (E' = E) && decide (sz' = sz) && decide (n = xs.length) && decide ((2 * (xs.length + ys.length) + 192) * B ≤ 281474976710656) then .ok (.sl id (xs.length + ys.length)) (setO ob id (.arr E sz (xs ++ ys))) else .no
 | _ => .no
def Yc1 (E sz B : Nat) (ob : Objs) (ys : List D) : V → Rr
 | .sl id n => X3m id E sz B n ob ys (lookO ob id)
 | .d .nils => bif decide ((2 * ys.length + 192) * B ≤ 281474976710656) then .ok (.sl (fresh ob) ys.length) ((fresh ob, .arr E sz ys) :: ob) else .no
 | _ => .no
def X6e (o : Option V) (ob : Objs) : Rr := match o with
 | some v => .ok v ob
 | none => .no
def Yjd : V → Option V
 | .d (.list sz xs) => bif decide (sz = 1) then (Xaj xs).map fun s => .d (.str s) else none
 | .d .nils => some (.d (.str []))
 | _ => none
def Yke : V → Option V
 | .d (.str s) => some (.d (.list 1 (bytesD s)))
 | _ => none
def Ybi : V → Option (List D)
 | .d (.str s) => some (bytesD s)
 | _ => none
def Yco : Option (D × Objs) → Rr
 | some (d, ob) => .ok (.d d) ob
 | none => .no
def X8u (n : Nat) (ag : Bool) (ob : Objs) : Option V → Rr
 | some v => bif decide (v.size = n) && (v.isAgg == ag) then Yco (V.giv ob v) else .no
 | none => .no
def Yh3 (n : Nat) (ag : Bool) (ob : Objs) : V → Rr
 | .ptr id p => X8u n ag ob (atO ob id p)
 | _ => .no
def V.isNils : V → Bool
 | .d .nils => true
 | _ => false
def X9r : Option V → Bool
 | some v => v.isNils
 | none => false
def X9a (ob : Objs) (id : Nat) (p : List Nat) (E sz : Nat) (y : V) : Option Ob → Rr
 | some (.box E0 t) => bif X9r (t.at p) then (match t.set p (.sl (fresh ob) 0) with | some t' => .ok y ((fresh ob, .arr E sz []) :: setO ob id (.box E0 t')) | none => .no) else .no
 | _ => .no
def Yc0 (ob : Objs) (E sz : Nat) (p : List Nat) (y : V) : V → Rr
 | .ptr id q => X9a ob id (q ++ p) E sz y (lookO ob id)
 | _ => .no
def Ycy (y x : V) : List (Nat × Nat × List Nat) → Objs → Rr
 | [], ob => .ok y ob
 | e :: l, ob => match Yc0 ob e.1 e.2.1 e.2.2 y x with
  | .ok _ ob' => Ycy y x l ob'
  | _ => .no
def X7o (id n : Nat) (ob : Objs) : Option Ob → Rr
 | some (.arr _ sz xs) => bif decide (sz ≠ 0) && decide (n = xs.length) && !xs.isEmpty then .ok (.d (.list sz xs)) (setO ob id .gone) else .no
 | _ => .no
def Yic (ob : Objs) : V → Rr
 | .sl id n => X7o id n ob (lookO ob id)
 | _ => .no
def X1m (id n : Nat) (m : Int) (E : Nat) (ob : Objs) : Option Ob → Rr
 | some (.arr E' sz xs) => bif decide (E' = E) && decide (sz = 1) && decide (n = xs.length) && decide (m = n) && decide (n ≤ 9223372036854775807) && !xs.isEmpty then (match Xaj xs with | some s => .ok (.d (.str s)) (setO ob id .gone) | none => .no) else .no
 | _ => .no
def X7v (E : Nat) (ob : Objs) : V → V → Rr
 | .sd id n, .d (.int .i64 m) => X1m id n m E ob (lookO ob id)
 | .d .nilp, .d (.int .i64 m) => bif decide (m = 0) then .ok (.d (.str [])) ob else .no
 | _, _ => .no
def Xzl (ob : Objs) : V → Rr
 | .iface t v => .pn (.iface t v) ob
 | .d (.iface t v) => .pn (.d (.iface t v)) ob
 | _ => .no

structure Fns where
 call : Nat → List V → Objs → Option (Out × Objs)
 pc : Nat → List V → Objs → Option V
 ca : Nat → Bool
 gl : Nat → Option D
structure Fns.ok (P : Prg) (R : Fns) : Prop where
 call : ∀ f vs ob o b, R.call f vs ob = some (o, b) → ACall P f vs ob fun o' b' => o' = o ∧ b' = b
 pc : ∀ f vs ob v, R.pc f vs ob = some v → PCall P f vs ob fun v' => v' = v
 ca : ∀ f, R.ca f = true → Xh P.p f = true
 gl : ∀ g x, R.gl g = some x → GlobIs P g x

def X73 : Option (Out × Objs) → Rr
 | some (.ret v, ob) => .ok v ob
 | some (.panic v, ob) => .pn v ob
 | none => .no
def X1j (R : Fns) (args : List V) (ob : Objs) : V → Rr
 | .fn f fi ca => bif R.ca f then X73 (R.call f (fi ++ args ++ ca) ob) else .no
 | .d (.fn f fi ca) => bif R.ca f then X73 (R.call f (fi.map .d ++ args ++ ca.map .d) ob) else .no
 | _ => .no
def Xxk (l : Option (List V)) : Option (List D) := match l with
 | some ks => V.allD ks
 | none => none

def Xyr (kd k : D) (es : List (D × V)) : Bool := D.alike kd k && es.all fun e => D.alike k e.1
theorem Xm9 {kd k : D} {es : List (D × V)} (h : Xyr kd k es = true) : Qe kd k es := by
 simp only [Xyr, Bool.and_eq_true, List.all_eq_true] at h
 exact h
def X7y (kd z : D) (ok : Bool) (k : D) : Option Ob → Option V
 | some (.map es) => gdR (Xyr kd k es) (Xyc z ok (Xbn k es))
 | _ => none
def Yi5 (ob : Objs) (kd z : D) (ok : Bool) : V → V → Option V
 | .mp id, .d k => X7y kd z ok k (lookO ob id)
 | .d .nilm, .d k => gdR (D.alike kd k) (Xyc z ok none)
 | _, _ => none
def X1f (ob : Objs) (id : Nat) (kd k : D) (v : V) : Option Ob → Rr
 | some (.map es) => bif Xyr kd k es && v.sto then .ok .undef (setO ob id (.map (Xqe k v es))) else .no
 | _ => .no
def Ya6 (ob : Objs) (kd : D) (v : V) : V → V → Rr
 | .mp id, .d k => X1f ob id kd k v (lookO ob id)
 | _, _ => .no
def X9v (ob : Objs) (id n z : Nat) : Option V → Rr
 | some (.d (.agg xs)) => bif decide (xs.length = n) && xs.all (fun x => decide (x.sz = z)) then .ok (.d (.list z xs)) (setO ob id .gone) else .no
 | _ => .no
def Ykh (ob : Objs) (n z : Nat) : V → Rr
 | .ptr id p => X9v ob id n z (atO ob id p)
 | _ => .no
def X1z : V → Bool
 | .d (.int _ _) => true
 | _ => false
def Yja (sl : Xc) : Option A → Bool
 | none => true
 | some x => X1z (x.ev sl)

def I.run (R : Fns) (sl : Xc) (ob : Objs) : I → Rr
 | .c x => X6e (x.run sl ob) ob
 | .box E x => bif (x.ev sl).sto then .ok (.ptr (fresh ob) []) ((fresh ob, .box E (x.ev sl)) :: ob) else .no
 | .alloc E z => bif (V.d z).sto then .ok (.ptr (fresh ob) []) ((fresh ob, .box E (.d z)) :: ob) else .no
 | .bls sz z parts => match Xxk (X5k (z.map .d) (parts.map fun (i, x) => (i, x.ev sl))) with
  | some l => .ok (.d (.list sz l)) ob
  | none => .no
 | .blo E sz z parts => match Xxk (X5k (z.map .d) (parts.map fun (i, x) => (i, x.ev sl))) with
  | some l => .ok (.sl (fresh ob) l.length) ((fresh ob, .arr E sz l) :: ob)
  | none => .no
 | .st n x v => stR ob n (v.ev sl) (x.ev sl)
 | .app E sz B x y => match Ymr sz (y.ev sl) with
  | some ys => Yc1 E sz B ob ys (x.ev sl)
  | none => .no
 | .appS E B x y => match Ybi (y.ev sl) with
  | some ys => Yc1 E 1 B ob ys (x.ev sl)
  | none => .no
 | .call f args => X73 (R.call f (args.map (A.ev sl)) ob)
 | .pcall f args => X6e (R.pc f (args.map (A.ev sl)) ob) ob
 | .callv x args => X1j R (args.map (A.ev sl)) ob (x.ev sl)
 | .panic x => Xzl ob (x.ev sl)
 | .b2s x => X6e (Yjd (x.ev sl)) ob
 | .s2b x => X6e (Yke (x.ev sl)) ob
 | .nilo E sz x => bif (x.ev sl).isNils then .ok (.sl (fresh ob) 0) ((fresh ob, .arr E sz []) :: ob) else .no
 | .mvf x => Yco (V.giv ob (x.ev sl))
 | .ldf n ag x => Yh3 n ag ob (x.ev sl)
 | .mvg E sz y x p => Yc0 ob E sz p (y.ev sl) (x.ev sl)
 | .mvn y x l => Ycy (y.ev sl) (x.ev sl) l ob
 | .cvb x => Yic ob (x.ev sl)
 | .ustr E x y => X7v E ob (x.ev sl) (y.ev sl)
 | .mkm r => bif Yja sl r then .ok (.mp (fresh ob)) ((fresh ob, .map []) :: ob) else .no
 | .lkp kd z ok m k => X6e (Yi5 ob kd z ok (m.ev sl) (k.ev sl)) ob
 | .mset kd m k v => Ya6 ob kd (v.ev sl) (m.ev sl) (k.ev sl)
 | .gld g n ag x => match R.gl g with
  | some y => bif decide (y.sz = n) && ((V.d y).isAgg == ag) && D.eqb x y then .ok (.d x) ob else .no
  | none => .no
 | .slg n z x => Ykh ob n z (x.ev sl)

def Rr.to (K Pn : V → Objs → Prop) : Rr → Prop
 | .ok v ob => K v ob
 | .pn v ob => Pn v ob
 | .no => False

section
variable {P : Prg} {R : Fns} {sl : Xc} {ob : Objs} {K Pn : V → Objs → Prop}
theorem Xc2 {o : Option V} (h : (X6e o ob).to K Pn) : ∃ v, o = some v ∧ K v ob := by
 unfold X6e at h; split at h
 ·exact ⟨_, rfl, h⟩
 ·exact h.elim
theorem Xhu {v : V} (h : v.isNils = true) : v = .d .nils := by
 unfold V.isNils at h; split at h
 ·rfl
 ·cases h
theorem Xla (hR : R.ok P) {f : Nat} {vs : List V} (h : (X73 (R.call f vs ob)).to K Pn) : ACall P f vs ob (Xk2 K Pn) := by
 unfold X73 at h
 split at h
 ·rename_i v b hc
  exact (hR.call f vs ob _ _ hc).mono fun o b ⟨e1, e2⟩ => by subst e1; subst e2; exact h
 ·rename_i v b hc
  exact (hR.call f vs ob _ _ hc).mono fun o b ⟨e1, e2⟩ => by subst e1; subst e2; exact h
 ·exact h.elim
theorem Xwd {o : Option (D × Objs)} (h : (Yco o).to K Pn) : Xid K o := by
 unfold Yco at h; split at h
 ·exact h
 ·exact h.elim
theorem Yl {b : Bool} {x : Rr} (h : (bif b then x else .no).to K Pn) : b = true ∧ x.to K Pn := by
 cases b
 ·exact h.elim
 ·exact ⟨rfl, h⟩
theorem Xug {E sz : Nat} {y a : V} {p : List Nat} (h : (Yc0 ob E sz p y a).to K Pn) : Xg4 ob E sz p y K a := by
 unfold Yc0 at h; split at h
 ·unfold X9a at h; split at h
  ·rename_i E0 t hl
   obtain ⟨h1, h2⟩ := Yl h
   split at h2
   ·rename_i t' ht
    unfold X9r at h1
    split at h1
    ·rename_i v hv
     simp only [Xg4, hl, Xdi, ht, Xh8]
     exact .inl ⟨by rw [hv, Xhu h1], h2⟩
    ·cases h1
   ·exact h2.elim
  ·exact h.elim
 ·exact h.elim
theorem Xt2 {y a : V} : ∀ {l : List (Nat × Nat × List Nat)} {ob : Objs}, (Ycy y a l ob).to K Pn → Xpq y K a l ob
 | [], _, h => h
 | e :: l, ob, h => by
  unfold Ycy at h
  split at h
  ·rename_i v' ob' he
   exact Xug (Pn := fun _ _ => False) (by rw [he]; exact Xt2 h)
  ·exact h.elim

theorem I.run_sound (hR : R.ok P) {i : I} (h : (i.run R sl ob).to K Pn) : i.wp P sl ob K Pn := by
 cases i <;> simp only [I.run] at h <;> simp only [I.wp]
 case c x =>
  obtain ⟨v, h1, h2⟩ := Xc2 h
  exact C.run_sound (K := fun v => K v ob) h1 h2
 case box E x => obtain ⟨h1, h2⟩ := Yl h; exact ⟨h1, h2⟩
 case alloc E z => obtain ⟨h1, h2⟩ := Yl h; exact ⟨h1, h2⟩
 case bls sz z parts =>
  split at h
  ·rename_i l hl
   unfold Xxk at hl
   split at hl
   ·rename_i ks hk
    refine U3 _ _ hk ?_
    rw [hl]; exact h
   ·cases hl
  ·exact h.elim
 case blo E sz z parts =>
  split at h
  ·rename_i l hl
   unfold Xxk at hl
   split at hl
   ·rename_i ks hk
    refine U3 _ _ hk ?_
    rw [hl]; exact h
   ·cases hl
  ·exact h.elim
 case st n x v =>
  generalize A.ev sl x = a at h ⊢
  unfold stR at h; split at h
  ·unfold Yjc at h; split at h
   ·rename_i E t hl
    unfold Yhm at h; split at h
    ·rename_i old ho
     obtain ⟨h1, h2⟩ := Yl h
     simp only [Bool.and_eq_true, decide_eq_true_eq] at h1
     split at h2
     ·rename_i t' ht
      simp only [stK, hl, Xwz, ho, Xw2]
      exact ⟨Sh.beq_eq _ _ h1.1.1, h1.1.2, h1.2, t', ht, h2⟩
     ·exact h2.elim
    ·exact h.elim
   ·exact h.elim
  ·exact h.elim
 case app E sz B x y =>
  split at h
  ·rename_i ys hy
   have hx : Xdf E sz B ob ys K (A.ev sl x) := by
    generalize A.ev sl x = a at h ⊢
    unfold Yc1 at h; split at h
    ·unfold X3m at h; split at h
     ·rename_i E' sz' xs hl
      obtain ⟨h1, h2⟩ := Yl h
      simp only [Bool.and_eq_true, decide_eq_true_eq] at h1
      simp only [Xdf, hl, Xdj]
      exact ⟨h1.1.1.1, h1.1.1.2, h1.1.2, h1.2, h2⟩
     ·exact h.elim
    ·obtain ⟨h1, h2⟩ := Yl h
     exact ⟨of_decide_eq_true h1, h2⟩
    ·exact h.elim
   generalize A.ev sl y = b at hy ⊢
   unfold Ymr at hy; split at hy
   ·rw [Bool.cond_eq_ite] at hy; split at hy
    ·rename_i hc; cases hy; exact ⟨of_decide_eq_true hc, hx⟩
    ·cases hy
   ·cases hy; exact hx
   ·cases hy
  ·exact h.elim
 case appS E B x y =>
  split at h
  ·rename_i ys hy
   have hx : Xdf E 1 B ob ys K (A.ev sl x) := by
    generalize A.ev sl x = a at h ⊢
    unfold Yc1 at h; split at h
    ·unfold X3m at h; split at h
     ·rename_i E' sz' xs hl
      obtain ⟨h1, h2⟩ := Yl h
      simp only [Bool.and_eq_true, decide_eq_true_eq] at h1
      simp only [Xdf, hl, Xdj]
      exact ⟨h1.1.1.1, h1.1.1.2, h1.1.2, h1.2, h2⟩
     ·exact h.elim
    ·obtain ⟨h1, h2⟩ := Yl h
     exact ⟨of_decide_eq_true h1, h2⟩
    ·exact h.elim
   generalize A.ev sl y = b at hy ⊢
   unfold Ybi at hy; split at hy
   ·cases hy; exact hx
   ·cases hy
  ·exact h.elim
 case call f args => exact Xla hR h
 case pcall f args =>
  obtain ⟨v, h1, h2⟩ := Xc2 h
  exact (hR.pc _ _ _ _ h1).mono fun v' e => by subst e; exact h2
 case callv x args =>
  generalize A.ev sl x = a at h ⊢
  unfold X1j at h; split at h
  ·obtain ⟨h1, h2⟩ := Yl h
   exact ⟨hR.ca _ h1, Xla hR h2⟩
  ·obtain ⟨h1, h2⟩ := Yl h
   exact ⟨hR.ca _ h1, Xla hR h2⟩
  ·exact h.elim
 case panic x =>
  generalize A.ev sl x = a at h ⊢
  unfold Xzl at h; split at h
  ·exact h
  ·exact h
  ·exact h.elim
 case b2s x =>
  obtain ⟨v, h1, h2⟩ := Xc2 h
  generalize A.ev sl x = a at h1 ⊢
  unfold Yjd at h1; split at h1
  ·rw [Bool.cond_eq_ite] at h1; split at h1
   ·rename_i hc
    rw [Option.map_eq_some_iff] at h1
    obtain ⟨s, h3, rfl⟩ := h1
    exact ⟨of_decide_eq_true hc, s, Xaw h3, h2⟩
   ·cases h1
  ·cases h1; exact h2
  ·cases h1
 case s2b x =>
  obtain ⟨v, h1, h2⟩ := Xc2 h
  generalize A.ev sl x = a at h1 ⊢
  unfold Yke at h1; split at h1
  ·cases h1; exact h2
  ·cases h1
 case nilo E sz x => obtain ⟨h1, h2⟩ := Yl h; rw [Xhu h1]; exact h2
 case mvf x => exact Xwd h
 case ldf n ag x =>
  generalize A.ev sl x = a at h ⊢
  unfold Yh3 at h; split at h
  ·unfold X8u at h; split at h
   ·rename_i v hv
    obtain ⟨h1, h2⟩ := Yl h
    simp only [Bool.and_eq_true, decide_eq_true_eq, beq_iff_eq] at h1
    simp only [Xs5, hv, Xdg]
    exact ⟨h1.1, h1.2, Xwd h2⟩
   ·exact h.elim
  ·exact h.elim
 case mvg => exact Xug h
 case mvn => exact Xt2 h
 case cvb x =>
  generalize A.ev sl x = a at h ⊢
  unfold Yic at h; split at h
  ·unfold X7o at h; split at h
   ·rename_i E' sz xs hl
    obtain ⟨h1, h2⟩ := Yl h
    simp at h1
    simp only [Xus, hl, Xe8]
    exact ⟨h1.1.1, h1.1.2, h1.2, h2⟩
   ·exact h.elim
  ·exact h.elim
 case ustr E x y =>
  generalize A.ev sl x = a at h ⊢; generalize A.ev sl y = b at h ⊢
  unfold X7v at h; split at h
  ·unfold X1m at h; split at h
   ·rename_i E' sz xs hl
    obtain ⟨h1, h2⟩ := Yl h
    split at h2
    ·rename_i s hs
     simp at h1
     simp only [J8, hl, Js]
     exact ⟨h1.1.1.1.1.1, h1.1.1.1.1.2, h1.1.1.1.2, h1.1.1.2, h1.1.2, h1.2, s, Xaw hs, h2⟩
    ·exact h2.elim
   ·exact h.elim
  ·obtain ⟨h1, h2⟩ := Yl h
   exact ⟨of_decide_eq_true h1, h2⟩
  ·exact h.elim
 case mkm r =>
  obtain ⟨h1, h2⟩ := Yl h
  refine ⟨?_, h2⟩
  cases r with
  | none => trivial
  | some x =>
   simp only [Yja] at h1
   simp only [X0z]
   generalize A.ev sl x = a at h1 ⊢
   unfold X1z at h1; split at h1
   ·trivial
   ·cases h1
 case lkp kd z ok m k =>
  obtain ⟨v, h1, h2⟩ := Xc2 h
  generalize A.ev sl m = a at h1 ⊢; generalize A.ev sl k = b at h1 ⊢
  unfold Yi5 at h1; split at h1
  ·unfold X7y at h1; split at h1
   ·rename_i es hl
    obtain ⟨h3, rfl⟩ := X9 h1
    simp only [Xwr, hl, Xer]
    exact ⟨Xm9 h3, h2⟩
   ·cases h1
  ·obtain ⟨h3, rfl⟩ := X9 h1
   exact ⟨h3, h2⟩
  ·cases h1
 case mset kd m k v =>
  generalize A.ev sl m = a at h ⊢; generalize A.ev sl k = b at h ⊢
  unfold Ya6 at h; split at h
  ·unfold X1f at h; split at h
   ·rename_i es hl
    obtain ⟨h1, h2⟩ := Yl h
    simp only [Bool.and_eq_true] at h1
    simp only [Xcw, hl, Jf]
    exact ⟨Xm9 h1.1, h1.2, h2⟩
   ·exact h.elim
  ·exact h.elim
 case slg n z x =>
  generalize A.ev sl x = a at h ⊢
  unfold Ykh at h; split at h
  ·rename_i id p
   unfold X9v at h; split at h
   ·rename_i xs hat
    obtain ⟨h1, h2⟩ := Yl h
    simp only [Bool.and_eq_true, decide_eq_true_eq, List.all_eq_true] at h1
    simp only [X1d, hat, Xot]
    exact ⟨h1.1, h1.2, h2⟩
   ·exact h.elim
  ·exact h.elim
 case gld g n ag x =>
  split at h
  ·rename_i y hy
   obtain ⟨h1, h2⟩ := Yl h
   simp only [Bool.and_eq_true, decide_eq_true_eq, beq_iff_eq] at h1
   have e := D.eqb_eq _ _ h1.2
   subst e
   exact ⟨hR.gl g _ hy, h1.1.1, h1.1.2, h2⟩
  ·exact h.elim
end

inductive Rq where
 | ok (sl : Xc) (ob : Objs)
 | pn (v : V) (sl : Xc) (ob : Objs)
 | no
def Rq.to (K : Xc → Objs → Prop) (Pn : V → Xc → Objs → Prop) : Rq → Prop
 | .ok sl ob => K sl ob
 | .pn v sl ob => Pn v sl ob
 | .no => False

mutual
def V.ids : V → List Nat
 | .ptr id _ => [id]
 | .sl id _ => [id]
 | .sd id _ => [id]
 | .mp id => [id]
 | .ep id _ _ _ _ => [id]
 | .fn _ a b => V.idss a ++ V.idss b
 | .agg xs => V.idss xs
 | .iface _ v => V.ids v
 | .tup xs => V.idss xs
 | _ => []
def V.idss : List V → List Nat
 | [] => []
 | x :: r => V.ids x ++ V.idss r
end
def Yhh : Xc → List Nat
 | [] => []
 | (_, v) :: r => V.ids v ++ Yhh r
def X6q : Objs → List Nat
 | [] => []
 | (_, .box _ t) :: r => V.ids t ++ X6q r
 | (_, .vec _ _ xs) :: r => V.idss xs ++ X6q r
 | (_, .map es) :: r => V.idss (es.map (·.2)) ++ X6q r
 | _ :: r => X6q r

def Xo3 (R : Fns) (sl : Xc) (ob : Objs) (d : Option Nat) (i : I) (k : Xc → Objs → Rq) : Rq := match i.run R sl ob with
 | .ok v ob' => k (put sl d v) ob'
 | .pn v ob' => .pn v sl ob'
 | .no => .no
def Xx8 (R : Fns) : List It → Xc → Objs → Rq
 | [], sl, ob => .ok sl ob
 | .op d i :: r, sl, ob => Xo3 R sl ob d i (Xx8 R r)
 | .gop s want d i :: r, sl, ob => match look sl s with
  | .d (.bool b) => bif b == want then Xo3 R ((s, .d (.bool want)) :: sl) ob d i (Xx8 R r) else Xx8 R r (put ((s, .d (.bool (!want))) :: sl) d .undef) ob
  | .undef => Xx8 R r (put sl d .undef) ob
  | _ => .no

theorem Vs {P : Prg} {R : Fns} (hR : R.ok P) {sl : Xc} {ob : Objs} {d : Option Nat} {i : I} {k : Xc → Objs → Rq} {k' K : Xc → Objs → Prop} {Pn : V → Xc → Objs → Prop} (hk : ∀ sl ob, (k sl ob).to K Pn → k' sl ob) (h : (Xo3 R sl ob d i k).to K Pn) :
  i.wp P sl ob (fun v ob' => k' (put sl d v) ob') (fun v ob' => Pn v sl ob') := by
 refine I.run_sound hR ?_
 unfold Xo3 at h
 split at h
 ·rename_i e; rw [e]; exact hk _ _ h
 ·rename_i e; rw [e]; exact h
 ·exact h.elim
theorem Zs {P : Prg} {R : Fns} (hR : R.ok P) {K : Xc → Objs → Prop} {Pn : V → Xc → Objs → Prop} : ∀ (l : List It) (sl : Xc) (ob : Objs), (Xx8 R l sl ob).to K Pn → rwp P K Pn l sl ob
 | [], sl, ob, h => h
 | .op d i :: r, sl, ob, h => Vs hR (fun sl ob h => Zs hR r sl ob h) h
 | .gop s want d i :: r, sl, ob, h => by
  simp only [Xx8] at h
  simp only [rwp]
  split at h
  ·rename_i b hb
   rw [hb]
   simp only [gdK]
   rw [Bool.cond_eq_ite] at h
   split at h
   ·rename_i e
    have e : b = want := by simpa using e
    refine ⟨fun _ => Vs hR (fun sl ob h => Zs hR r sl ob h) h, fun e2 => ?_⟩
    rw [e] at e2; cases want <;> cases e2
   ·rename_i e
    have e : ¬ b = want := by simpa using e
    exact ⟨fun e2 => (e e2).elim, fun _ => Zs hR r _ ob h⟩
  ·rename_i hb
   rw [hb]
   exact Zs hR r _ ob h
  ·exact h.elim

mutual
def V.eqb : V → V → Bool
 | .d x, .d y => D.eqb x y
 | .ptr i p, .ptr j q => Nat.beq i j && decide (p = q)
 | .sl i n, .sl j m => Nat.beq i j && Nat.beq n m
 | .sd i n, .sd j m => Nat.beq i j && Nat.beq n m
 | .mp i, .mp j => Nat.beq i j
 | .ep i n s k p, .ep j m t l q => Nat.beq i j && Nat.beq n m && Sh.beq s t && Nat.beq k l && decide (p = q)
 | .fn f a b, .fn g a2 b2 => Nat.beq f g && V.eqbs a a2 && V.eqbs b b2
 | .agg a, .agg b => V.eqbs a b
 | .iface t a, .iface u b => Nat.beq t u && V.eqb a b
 | .tup a, .tup b => V.eqbs a b
 | .undef, .undef => true
 | .any, .any => true
 | _, _ => false
def V.eqbs : List V → List V → Bool
 | [], [] => true
 | x :: r, y :: s => V.eqb x y && V.eqbs r s
 | _, _ => false
end
mutual
theorem V.eqb_eq : ∀ (x y : V), V.eqb x y = true → x = y
 | .d a, y, h => by cases y <;> simp only [V.eqb, Bool.false_eq_true] at h; rw [D.eqb_eq _ _ h]
 | .ptr i p, y, h => by cases y <;> simp only [V.eqb, Bool.false_eq_true, Bool.and_eq_true, decide_eq_true_eq] at h; rw [Nat.eq_of_beq_eq_true h.1, h.2]
 | .sl i n, y, h => by cases y <;> simp only [V.eqb, Bool.false_eq_true, Bool.and_eq_true] at h; rw [Nat.eq_of_beq_eq_true h.1, Nat.eq_of_beq_eq_true h.2]
 | .sd i n, y, h => by cases y <;> simp only [V.eqb, Bool.false_eq_true, Bool.and_eq_true] at h; rw [Nat.eq_of_beq_eq_true h.1, Nat.eq_of_beq_eq_true h.2]
 | .mp i, y, h => by cases y <;> simp only [V.eqb, Bool.false_eq_true] at h; rw [Nat.eq_of_beq_eq_true h]
 | .ep i n s k p, y, h => by
  cases y <;> simp only [V.eqb, Bool.false_eq_true, Bool.and_eq_true, decide_eq_true_eq] at h
  rw [Nat.eq_of_beq_eq_true h.1.1.1.1, Nat.eq_of_beq_eq_true h.1.1.1.2, Sh.beq_eq _ _ h.1.1.2, Nat.eq_of_beq_eq_true h.1.2, h.2]
 | .fn f a b, y, h => by
  cases y <;> simp only [V.eqb, Bool.false_eq_true, Bool.and_eq_true] at h
  rw [Nat.eq_of_beq_eq_true h.1.1, V.eqbs_eq _ _ h.1.2, V.eqbs_eq _ _ h.2]
 | .agg a, y, h => by cases y <;> simp only [V.eqb, Bool.false_eq_true] at h; rw [V.eqbs_eq _ _ h]
 | .iface t a, y, h => by cases y <;> simp only [V.eqb, Bool.false_eq_true, Bool.and_eq_true] at h; rw [Nat.eq_of_beq_eq_true h.1, V.eqb_eq _ _ h.2]
 | .tup a, y, h => by cases y <;> simp only [V.eqb, Bool.false_eq_true] at h; rw [V.eqbs_eq _ _ h]
 | .undef, y, h => by cases y <;> simp [V.eqb] at h; rfl
 | .any, y, h => by cases y <;> simp [V.eqb] at h; rfl
theorem V.eqbs_eq : ∀ (x y : List V), V.eqbs x y = true → x = y
 | [], y, h => by cases y <;> simp [V.eqbs] at h; rfl
 | x :: r, y, h => by
  cases y <;> simp only [V.eqbs, Bool.false_eq_true, Bool.and_eq_true] at h
  rw [V.eqb_eq _ _ h.1, V.eqbs_eq _ _ h.2]
end
def Yce : List (D × V) → List (D × V) → Bool
 | [], [] => true
 | (k, x) :: r, (j, y) :: s => D.eqb k j && V.eqb x y && Yce r s
 | _, _ => false
theorem Xsq : ∀ (x y : List (D × V)), Yce x y = true → x = y
 | [], y, h => by cases y <;> simp [Yce] at h; rfl
 | (k, x) :: r, y, h => by
  cases y <;> simp only [Yce, Bool.false_eq_true, Bool.and_eq_true] at h
  rw [D.eqb_eq _ _ h.1.1, V.eqb_eq _ _ h.1.2, Xsq _ _ h.2]
def Ob.eqb : Ob → Ob → Bool
 | .box E t, .box F u => Nat.beq E F && V.eqb t u
 | .arr E z a, .arr F y b => Nat.beq E F && Nat.beq z y && D.eqbs a b
 | .vec E z a, .vec F y b => Nat.beq E F && Nat.beq z y && V.eqbs a b
 | .map a, .map b => Yce a b
 | .gone, .gone => true
 | _, _ => false
theorem Ob.eqb_eq (x y : Ob) (h : Ob.eqb x y = true) : x = y := by
 cases x <;> cases y <;> simp only [Ob.eqb, Bool.false_eq_true, Bool.and_eq_true] at h
 ·rw [Nat.eq_of_beq_eq_true h.1, V.eqb_eq _ _ h.2]
 ·rw [Nat.eq_of_beq_eq_true h.1.1, Nat.eq_of_beq_eq_true h.1.2, D.eqbs_eq _ _ h.2]
 ·rw [Nat.eq_of_beq_eq_true h.1.1, Nat.eq_of_beq_eq_true h.1.2, V.eqbs_eq _ _ h.2]
 ·rw [Xsq _ _ h]
 ·rfl
def X6x : Xc → Xc → Bool
 | [], [] => true
 | (k, x) :: r, (j, y) :: s => Nat.beq k j && V.eqb x y && X6x r s
 | _, _ => false
theorem Xkl : ∀ (x y : Xc), X6x x y = true → x = y
 | [], y, h => by cases y <;> simp [X6x] at h; rfl
 | (k, x) :: r, y, h => by
  cases y <;> simp only [X6x, Bool.false_eq_true, Bool.and_eq_true] at h
  rw [Nat.eq_of_beq_eq_true h.1.1, V.eqb_eq _ _ h.1.2, Xkl _ _ h.2]
def X6y : Objs → Objs → Bool
 | [], [] => true
 | (k, x) :: r, (j, y) :: s => Nat.beq k j && Ob.eqb x y && X6y r s
 | _, _ => false
theorem Xke : ∀ (x y : Objs), X6y x y = true → x = y
 | [], y, h => by cases y <;> simp [X6y] at h; rfl
 | (k, x) :: r, y, h => by
  cases y <;> simp only [X6y, Bool.false_eq_true, Bool.and_eq_true] at h
  rw [Nat.eq_of_beq_eq_true h.1.1, Ob.eqb_eq _ _ h.1.2, Xke _ _ h.2]
def Rq.eqb : Rq → Rq → Bool
 | .ok a b, .ok c d => X6x a c && X6y b d
 | .pn v a b, .pn u c d => V.eqb v u && X6x a c && X6y b d
 | _, _ => false
theorem Rq.eqb_eq (x y : Rq) (h : Rq.eqb x y = true) : x = y := by
 cases x <;> cases y <;> simp only [Rq.eqb, Bool.false_eq_true, Bool.and_eq_true] at h
 ·rw [Xkl _ _ h.1, Xke _ _ h.2]
 ·rw [V.eqb_eq _ _ h.1.1, Xkl _ _ h.1.2, Xke _ _ h.2]
def X28 (x y : Rq) : Rq := bif Rq.eqb x y then x else .no
theorem Xxm {K : Xc → Objs → Prop} {Pn : V → Xc → Objs → Prop} {x y : Rq} (h : (X28 x y).to K Pn) : x.to K Pn ∧ y.to K Pn := by
 unfold X28 at h
 cases hb : Rq.eqb x y with
 | false => rw [hb] at h; exact h.elim
 | true =>
  rw [hb] at h
  have := Rq.eqb_eq x y hb
  subst this
  exact ⟨h, h⟩
def itR (R : Fns) (k : Xc → Objs → Rq) : It → Xc → Objs → Rq
 | .op d i, sl, ob => Xo3 R sl ob d i k
 | .gop s want d i, sl, ob => match look sl s with
  | .d (.bool b) => bif b == want then Xo3 R ((s, .d (.bool want)) :: sl) ob d i k else k (put ((s, .d (.bool (!want))) :: sl) d .undef) ob
  | .undef => k (put sl d .undef) ob
  | _ => .no
def Xuf (keep pk : List Nat) : Rq → Rq
 | .ok sl ob => .ok (Xi sl keep) ob
 | .pn v sl ob => .pn v (Xi sl pk) ob
 | .no => .no
mutual
def X1n (R : Fns) (keep pk : List Nat) : Ot → Xc → Objs → Rq
 | .done, sl, ob => .ok sl ob
 | .one _ x r, sl, ob => itR R (X1n R keep pk r) x sl ob
 | .br l, sl, ob => Xt1 R keep pk l sl ob
def Xt1 (R : Fns) (keep pk : List Nat) : Ots → Xc → Objs → Rq
 | .nil, _, _ => .no
 | .cons _ x r .nil, sl, ob => Xuf keep pk (itR R (X1n R keep pk r) x sl ob)
 | .cons _ x r l, sl, ob => X28 (Xuf keep pk (itR R (X1n R keep pk r) x sl ob)) (Xt1 R keep pk l sl ob)
end

abbrev Rs := Option (AExit × Xc × Objs)
def Rs.to (Q : W7) : Rs → Prop
 | some (e, sl, ob) => Q e sl ob
 | none => False
def Yly (keep : List Nat) (n : Nat) (sl : Xc) (ob : Objs) : Option (Xc × Objs) :=
 let kp := Yhh (Xi sl keep) ++ X6q ob
 bif Q7 (young n kp) (Xi sl keep) && noMenO (young n kp) (Z6 (young n kp) ob) then some (Xi sl keep, Z6 (young n kp) ob) else none
def Xza (keep : List Nat) (body : Xc → Objs → Rs) : Nat → Xc → Objs → Rs
 | 0, _, _ => none
 | n + 1, sl, ob => match body sl ob with
  | some (.normal, sl', ob') => match Yly keep (fresh ob) sl' ob' with
   | some (sl2, ob2) => Xza keep body n sl2 ob2
   | none => none
  | r => r
theorem Xds {sl : Xc} : ∀ (l : List Nat) (k : Nat), k ∈ l → look (Xi sl l) k = look sl k
 | j :: r, k, h => by
  simp only [Xi, look]
  split
  ·rename_i e; rw [e]
  ·rename_i e
   exact Xds r k ((List.mem_cons.1 h).resolve_left (fun e2 => e e2.symm))
theorem Xib {sl : Xc} {l : List Nat} : ∀ (m : List Nat), (∀ k ∈ m, k ∈ l) → Xi (Xi sl l) m = Xi sl m
 | [], _ => rfl
 | k :: r, h => by
  simp only [Xi, Xds l k (h k (by simp)), Xib r (fun j hj => h j (by simp [hj]))]
theorem Xdz (sl : Xc) (l : List Nat) : Xi (Xi sl l) l = Xi sl l := Xib l fun _ h => h
theorem Xn2 {Q : W7} {keep pk : List Nat} {r : Rq} (h : (Xuf keep pk r).to (fun sl ob => Q .normal (Xi sl keep) ob) (fun v sl ob => Q (.panic v) (Xi sl pk) ob)) : r.to (fun sl ob => Q .normal (Xi sl keep) ob) (fun v sl ob => Q (.panic v) (Xi sl pk) ob) := by
 cases r with
 | ok sl ob => simp only [Xuf, Rq.to, Xdz] at h ⊢; exact h
 | pn v sl ob => simp only [Xuf, Rq.to, Xdz] at h ⊢; exact h
 | no => exact h.elim
theorem Xc6 {P : Prg} {R : Fns} (hR : R.ok P) {k : Xc → Objs → Rq} {k' K : Xc → Objs → Prop} {Pn : V → Xc → Objs → Prop} (hk : ∀ sl ob, (k sl ob).to K Pn → k' sl ob) : ∀ (x : It) (sl : Xc) (ob : Objs), (itR R k x sl ob).to K Pn → itK P k' Pn x sl ob
 | .op d i, sl, ob, h => Vs hR hk h
 | .gop s want d i, sl, ob, h => by
  simp only [itR] at h
  simp only [itK]
  split at h
  ·rename_i b hb
   rw [hb]
   simp only [gdK]
   rw [Bool.cond_eq_ite] at h
   split at h
   ·rename_i e
    have e : b = want := by simpa using e
    refine ⟨fun _ => Vs hR hk h, fun e2 => ?_⟩
    rw [e] at e2; cases want <;> cases e2
   ·rename_i e
    have e : ¬ b = want := by simpa using e
    exact ⟨fun e2 => (e e2).elim, fun _ => hk _ _ h⟩
  ·rename_i hb
   rw [hb]
   exact hk _ _ h
  ·exact h.elim
mutual
theorem U5 {P : Prg} {R : Fns} (hR : R.ok P) {Q : W7} {keep pk : List Nat} : ∀ (t : Ot) (sl : Xc) (ob : Objs), (X1n R keep pk t sl ob).to (fun sl ob => Q .normal (Xi sl keep) ob) (fun v sl ob => Q (.panic v) (Xi sl pk) ob) → owp P (fun sl ob => Q .normal (Xi sl keep) ob) (fun v sl ob => Q (.panic v) (Xi sl pk) ob) t sl ob
 | .done, sl, ob, h => by simp only [X1n] at h; simp only [owp]; exact h
 | .one _ x r, sl, ob, h => by
  simp only [X1n] at h
  simp only [owp]
  exact Xc6 hR (fun sl ob h => U5 hR r sl ob h) x sl ob h
 | .br l, sl, ob, h => by simp only [X1n] at h; simp only [owp]; exact Xct hR l sl ob h
theorem Xct {P : Prg} {R : Fns} (hR : R.ok P) {Q : W7} {keep pk : List Nat} : ∀ (l : Ots) (sl : Xc) (ob : Objs), (Xt1 R keep pk l sl ob).to (fun sl ob => Q .normal (Xi sl keep) ob) (fun v sl ob => Q (.panic v) (Xi sl pk) ob) → Xgv P (fun sl ob => Q .normal (Xi sl keep) ob) (fun v sl ob => Q (.panic v) (Xi sl pk) ob) l sl ob
 | .nil, sl, ob, h => by simp only [Xgv]
 | .cons _ x r .nil, sl, ob, h => by
  simp only [Xt1] at h
  simp only [Xgv, and_true]
  exact Xc6 hR (fun sl ob h => U5 hR r sl ob h) x sl ob (Xn2 h)
 | .cons _ x r (.cons i y s l), sl, ob, h => by
  simp only [Xt1] at h
  rw [Xgv]
  obtain ⟨h1, h2⟩ := Xxm h
  exact ⟨Xc6 hR (fun sl ob h => U5 hR r sl ob h) x sl ob (Xn2 h1), Xct hR (.cons i y s l) sl ob h2⟩
end
def S.run (R : Fns) (L : Nat) : S → Xc → Objs → Rs
 | .rg _ l keep pk, sl, ob => match Xx8 R l sl ob with
  | .ok sl' ob' => some (.normal, Xi sl' keep, ob')
  | .pn v sl' ob' => some (.panic v, Xi sl' pk, ob')
  | .no => none
 | .rgT _ t keep pk, sl, ob => match X1n R keep pk t sl ob with
  | .ok sl' ob' => some (.normal, Xi sl' keep, ob')
  | .pn v sl' ob' => some (.panic v, Xi sl' pk, ob')
  | .no => none
 | .seq a b, sl, ob => match S.run R L a sl ob with
  | some (.normal, sl', ob') => S.run R L b sl' ob'
  | r => r
 | .skip, sl, ob => some (.normal, sl, ob)
 | .cond c a b, sl, ob => match c.ev sl with
  | .d (.bool t) => bif t then S.run R L a sl ob else S.run R L b sl ob
  | _ => none
 | .block n a, sl, ob => match S.run R L a sl ob with
  | some (.exit m, sl', ob') => bif decide (m = n) then some (.normal, sl', ob') else some (.exit m, sl', ob')
  | r => r
 | .loop keep a, sl, ob => Xza keep (S.run R L a) L (Xi sl keep) ob
 | .exit n, sl, ob => some (.exit n, sl, ob)
 | .ret, sl, ob => some (.ret, sl, ob)

theorem S.run_sound {P : Prg} {R : Fns} (hR : R.ok P) {L : Nat} : ∀ (s : S) (Q : W7) (sl : Xc) (ob : Objs), (s.run R L sl ob).to Q → cwp P s Q sl ob
 | .rg _ l keep pk, Q, sl, ob, h => by
  simp only [S.run] at h
  simp only [cwp]
  refine Zs hR _ _ _ ?_
  split at h
  ·rename_i e; rw [e]; exact h
  ·rename_i e; rw [e]; exact h
  ·exact h.elim
 | .rgT _ t keep pk, Q, sl, ob, h => by
  simp only [S.run] at h
  simp only [cwp]
  refine U5 hR _ _ _ ?_
  split at h
  ·rename_i e; rw [e]; exact h
  ·rename_i e; rw [e]; exact h
  ·exact h.elim
 | .seq a b, Q, sl, ob, h => by
  simp only [S.run] at h
  simp only [cwp]
  refine S.run_sound (L := L) hR a _ sl ob ?_
  split at h
  ·rename_i e; rw [e]; exact S.run_sound (L := L) hR b Q _ _ h
  ·rename_i hne
   revert h hne
   generalize S.run R L a sl ob = r
   intro hne h
   cases r with
   | none => exact h.elim
   | some x =>
    obtain ⟨e, sl', ob'⟩ := x
    cases e with
    | normal => exact (hne _ _ rfl).elim
    | exit n => exact h
    | ret => exact h
    | panic v => exact h
 | .skip, Q, sl, ob, h => h
 | .cond c a b, Q, sl, ob, h => by
  simp only [S.run] at h
  simp only [cwp]
  split at h
  ·rename_i t ht
   rw [ht]
   cases t
   ·exact ⟨fun e => (by cases e), fun _ => S.run_sound (L := L) hR b Q sl ob h⟩
   ·exact ⟨fun _ => S.run_sound (L := L) hR a Q sl ob h, fun e => (by cases e)⟩
  ·exact h.elim
 | .block n a, Q, sl, ob, h => by
  simp only [S.run] at h
  simp only [cwp]
  refine S.run_sound (L := L) hR a _ sl ob ?_
  split at h
  ·rename_i m sl' ob' e
   rw [e]
   rw [Bool.cond_eq_ite] at h
   simp only [Rs.to, W3]
   by_cases hm : m = n
   ·simp only [hm, decide_true, if_true] at h ⊢; exact h
   ·simp only [hm, decide_false, Bool.false_eq_true, if_false] at h ⊢; exact h
  ·rename_i hne
   revert h hne
   generalize S.run R L a sl ob = r
   intro hne h
   cases r with
   | none => exact h.elim
   | some x =>
    obtain ⟨e, sl', ob'⟩ := x
    cases e with
    | normal => exact h
    | exit n => exact (hne _ _ _ rfl).elim
    | ret => exact h
    | panic v => exact h
 | .loop keep a, Q, sl, ob, h => by
  simp only [S.run] at h
  simp only [cwp]
  refine ALoop.of (ι := Nat × Xc × Objs) (fun x => x.2.1) (fun x => x.2.2) (fun x => (Xza keep (S.run R L a) x.1 x.2.1 x.2.2).to Q) (fun x => x.1) (L, Xi sl keep, ob) h rfl rfl ?_
  rintro ⟨n, sl1, ob1⟩ h1
  refine S.run_sound (L := L) hR a _ _ _ ?_
  simp only at h1 ⊢
  cases n with
  | zero => exact h1.elim
  | succ n =>
   simp only [Xza] at h1
   split at h1
   ·rename_i sl' ob' e
    rw [e]
    split at h1
    ·rename_i sl2 ob2 e2
     unfold Yly at e2
     rw [Bool.cond_eq_ite] at e2
     split at e2
     ·rename_i hc
      simp only [Bool.and_eq_true] at hc
      cases e2
      exact ⟨_, hc.1, hc.2, (n, _, _), h1, Nat.lt_succ_self n, rfl, rfl⟩
     ·cases e2
    ·exact h1.elim
   ·rename_i hne
    revert h1 hne
    generalize S.run R L a sl1 ob1 = r
    intro hne h1
    cases r with
    | none => exact h1.elim
    | some x =>
     obtain ⟨e, sl', ob'⟩ := x
     cases e with
     | normal => exact (hne _ _ rfl).elim
     | exit n => exact h1
     | ret => exact h1
     | panic v => exact h1
 | .exit n, Q, sl, ob, h => h
 | .ret, Q, sl, ob, h => h
end Go.Ab
/- An evaluator of calls, and that what it yields holds. Over any program; no condition. -/
namespace Go.Ab
open Go

inductive FI where
 | pl (s : S) (rs : List RV) (n : Nat)
 | df (s : FSt) (rs : List RV) (n : Nat)
 | rc (its : List It) (keep : List Nat) (k : Nat) (s : S) (n : Nat)
def FI.ok (p : Program) (f : Nat) : FI → Bool
 | .pl s rs n => X1 p f n s rs
 | .df s rs n => Xpu p f n s rs
 | .rc its _ k s n => Xp6 p f n k its s
abbrev FT := List (Nat × FI)
def Xhc : FT → Nat → Option FI
 | [], _ => none
 | (j, x) :: r, k => bif Nat.beq j k then some x else Xhc r k
def FT.ok (p : Program) (F : FT) : Prop := ∀ f x, Xhc F f = some x → FI.ok p f x = true ∧ Xh p f = true
theorem FT.ok_nil {p : Program} : FT.ok p [] := fun f x h => by cases h
theorem FT.ok_cons {p : Program} {f : Nat} {x : FI} {F : FT} (h : FI.ok p f x = true) (hc : Xh p f = true) (hF : FT.ok p F) : FT.ok p ((f, x) :: F) := fun g y hg => by
 simp only [Xhc] at hg
 rw [Bool.cond_eq_ite] at hg
 split at hg
 ·rename_i e
  cases hg
  have e : f = g := Nat.eq_of_beq_eq_true e
  subst e
  exact ⟨h, hc⟩
 ·exact hF g y hg

def RV.run (sl : Xc) (ob : Objs) : RV → Option V
 | .t k => some (look sl k)
 | .c k n ag => ldR ob n ag (look sl k)
def Ya5 (sl : Xc) (ob : Objs) : List RV → Option (List V)
 | [] => some []
 | x :: r => match x.run sl ob with
  | some v => (Ya5 sl ob r).map (v :: ·)
  | none => none
def X1l : List V → Objs → List V × Objs
 | [], ob => ([], ob)
 | v :: r, ob => match V.giv ob v with
  | some (d, ob') => let p := X1l r ob'; (.d d :: p.1, p.2)
  | none => let p := X1l r ob; (v :: p.1, p.2)
def Xed (n : Nat) (vs : List V) (ob : Objs) : Option Objs :=
 let kp := V.idss vs ++ X6q ob
 bif !V.mens (young n kp) vs && noMenO (young n kp) (Z6 (young n kp) ob) then some (Z6 (young n kp) ob) else none
def Ycs (n : Nat) (rs : List RV) (sl : Xc) (ob : Objs) : Option (Out × Objs) := match Ya5 sl ob rs with
 | some vs => (Xed n (X1l vs ob).1 (X1l vs ob).2).map fun b => (.ret (V2 (X1l vs ob).1), b)
 | none => none
def X3l (n : Nat) (rs : List RV) : Rs → Option (Out × Objs)
 | some (.normal, sl, ob) => Ycs n rs sl ob
 | some (.ret, sl, ob) => Ycs n rs sl ob
 | some (.panic v, _, ob) => (Xed n [v] ob).map fun b => (.panic v, b)
 | _ => none
def Xhr (rs : List RV) (sl : Xc) (ob : Objs) : Option V := match Ya5 sl ob rs with
 | some vs => (V.givs ob vs).map fun p => V2 (p.1.map .d)
 | none => none
def Xsh (rs : List RV) : Rs → Option V
 | some (.normal, sl, ob) => Xhr rs sl ob
 | some (.ret, sl, ob) => Xhr rs sl ob
 | _ => none

def Ybg (R : Fns) (L : Nat) (F : FT) (g : Nat) (vs : List V) (ob : Objs) (rv : Option V) : Option Objs := match Xhc F g with
 | some (.rc its keep k s n) => bif Nat.beq n vs.length then
   (match Xx8 R its ((k, rv.getD (.d .nili)) :: J2 0 vs) ob with
    | .ok sl ob' => (match s.run R L (Xi sl keep) ob' with
     | some (.normal, _, ob2) => Xed (fresh ob) [] ob2
     | some (.ret, _, ob2) => Xed (fresh ob) [] ob2
     | _ => none)
    | _ => none)
  else none
 | _ => none
def V.isIfc : V → Bool
 | .iface _ _ => true
 | .d (.iface _ _) => true
 | _ => false
def X2n (R : Fns) (L : Nat) (F : FT) (g : Nat) (cl : List V) (rs : List RV) : Rs → Option V
 | some (.normal, sl, ob) => (Ybg R L F g cl ob none).bind fun ob' => Xhr rs sl ob'
 | some (.ret, sl, ob) => (Ybg R L F g cl ob none).bind fun ob' => Xhr rs sl ob'
 | some (.panic v, sl, ob) => bif v.isIfc then (Ybg R L F g cl ob (some v)).bind fun ob' => Xhr rs sl ob' else none
 | _ => none
def Yby (R : Fns) (L : Nat) (F : FT) (rs : List RV) : FSt → Xc → Objs → Option V
 | .pre s r, sl, ob => match s.run R L sl ob with
  | some (.normal, sl', ob') => Yby R L F rs r sl' ob'
  | some (.ret, sl', ob') => Xhr rs sl' ob'
  | _ => none
 | .dfr its keep k s, sl, ob => match Xx8 R its sl ob with
  | .ok sl' ob' => (match look (Xi sl' keep) k with
   | .fn g fi ca => bif R.ca g then X2n R L F g (fi ++ ca) rs (s.run R L (Xi sl' keep) ob') else none
   | _ => none)
  | _ => none

def pcD (R : Fns) (L : Nat) (F : FT) (f : Nat) (ds : List D) : Option V := match Xhc F f with
 | some (.pl s rs n) => bif Nat.beq n ds.length then Xsh rs (s.run R L (J2 0 (ds.map .d)) []) else none
 | some (.df s rs n) => bif Nat.beq n ds.length then Yby R L F rs s (J2 0 (ds.map .d)) [] else none
 | _ => none
def X90 (o : Option V) : Option V := match o with
 | some v => bif v.flatR then some v else none
 | none => none
def pcX (X R : Fns) (L : Nat) (F : FT) (f : Nat) (ds : List D) (ob : Objs) : Option V := match X.pc f (ds.map .d) ob with
 | some v => some v
 | none => pcD R L F f ds
def pcR (X R : Fns) (L : Nat) (F : FT) (f : Nat) (vs : List V) (ob : Objs) : Option V := match V.allD vs with
 | some ds => pcX X R L F f ds ob
 | none => match V.toDs ob 12 vs with
  | some ds => X90 (pcX X R L F f ds [])
  | none => none
def acR (R : Fns) (L : Nat) (F : FT) (f : Nat) (vs : List V) (ob : Objs) : Option (Out × Objs) := match Xhc F f with
 | some (.pl s rs n) => bif Nat.beq n vs.length then X3l (fresh ob) rs (s.run R L (J2 0 vs) ob) else none
 | some (.df _ _ _) => match V.allD vs with
  | some ds => (pcD R L F f ds).map fun v => (.ret v, ob)
  | none => none
 | _ => none
def fns (L : Nat) (F : FT) (X : Fns) : Nat → Fns
 | 0 => X
 | n + 1 => ⟨fun f vs ob => match X.call f vs ob with
   | some r => some r
   | none => acR (fns L F X n) L F f vs ob,
  fun f vs ob => pcR X (fns L F X n) L F f vs ob,
  fun f => (Xhc F f).isSome || X.ca f, X.gl⟩

section
variable {P : Prg} {R : Fns} {L : Nat} {F : FT}
theorem Xay {sl : Xc} {ob : Objs} : ∀ (rs : List RV) (K : List V → Prop) (vs : List V), Ya5 sl ob rs = some vs → K vs → W8 sl ob rs K
 | [], K, vs, h, hK => by cases h; exact hK
 | x :: r, K, vs, h, hK => by
  simp only [Ya5] at h
  split at h
  ·rename_i v hv
   rw [Option.map_eq_some_iff] at h
   obtain ⟨l, hl, rfl⟩ := h
   simp only [W8]
   have hr := Xay r (fun vs => K (v :: vs)) l hl hK
   cases x with
   | t k => simp only [RV.run, Option.some.injEq] at hv; subst hv; exact hr
   | c k n ag =>
    simp only [RV.run] at hv
    simp only [RV.wp]
    have h0 : (C.ld n ag (.t 0)).run [(0, look sl k)] ob = some v := by simpa [C.run, A.ev, look] using hv
    have h1 := C.run_sound (K := fun v => W8 sl ob r fun vs => K (v :: vs)) h0 hr
    simpa [C.wp, A.ev, look] using h1
  ·cases h
theorem Xak : ∀ (vs : List V) (ob : Objs) (K : List V → Objs → Prop), K (X1l vs ob).1 (X1l vs ob).2 → Xey vs ob K
 | [], ob, K, h => h
 | v :: r, ob, K, h => by
  simp only [X1l] at h
  simp only [Xey]
  split at h
  ·rename_i d ob' e
   rw [e]
   exact Xak r ob' _ h
  ·rename_i e
   rw [e]
   exact Xak r ob _ h
theorem W0 {n : Nat} {vs : List V} {ob b : Objs} {K : Objs → Prop} (h : Xed n vs ob = some b) (hK : K b) : Ys n K vs ob := by
 unfold Xed at h
 rw [Bool.cond_eq_ite] at h
 split at h
 ·rename_i hc
  simp only [Bool.and_eq_true, Bool.not_eq_true'] at hc
  cases h
  exact ⟨_, hc.1, hc.2, hK⟩
 ·cases h
theorem Xdr {n : Nat} {rs : List RV} {sl : Xc} {ob b : Objs} {o : Out} {K : Out → Objs → Prop} (h : Ycs n rs sl ob = some (o, b)) (hK : K o b) : W8 sl ob rs fun vs => Xey vs ob fun vs ob => Ys n (K (.ret (V2 vs))) vs ob := by
 unfold Ycs at h
 split at h
 ·rename_i vs hv
  rw [Option.map_eq_some_iff] at h
  obtain ⟨b', hb, e⟩ := h
  cases e
  exact Xay rs _ vs hv (Xak vs ob _ (W0 hb hK))
 ·cases h
theorem Xiy {n : Nat} {rs : List RV} {r : Rs} {o : Out} {b : Objs} {K : Out → Objs → Prop} (h : X3l n rs r = some (o, b)) (hK : K o b) : r.to (Xgb n rs K) := by
 unfold X3l at h
 split at h
 ·exact Xdr h hK
 ·exact Xdr h hK
 ·rw [Option.map_eq_some_iff] at h
  obtain ⟨b', hb, e⟩ := h
  cases e
  exact W0 hb hK
 ·cases h
theorem Zv {rs : List RV} {sl : Xc} {ob : Objs} {v : V} {K : V → Prop} (h : Xhr rs sl ob = some v) (hK : K v) : W8 sl ob rs fun vs => Ww (fun l _ => K (V2 (l.map .d))) (V.givs ob vs) := by
 unfold Xhr at h
 split at h
 ·rename_i vs hv
  rw [Option.map_eq_some_iff] at h
  obtain ⟨p, hp, rfl⟩ := h
  refine Xay rs _ vs hv ?_
  rw [hp]; exact hK
 ·cases h
theorem Xit {rs : List RV} {r : Rs} {v : V} {K : V → Prop} (h : Xsh rs r = some v) (hK : K v) : r.to (Xci rs K) := by
 unfold Xsh at h
 split at h
 ·exact Zv h hK
 ·exact Zv h hK
 ·cases h
variable (hm : P.p.follows .mixedOrders = true) (hF : FT.ok P.p F) (hR : R.ok P)
include hm hF hR
theorem Xac {g : Nat} {vs : List V} {ob b : Objs} {rv : Option V} {K : Objs → Prop} (h : Ybg R L F g vs ob rv = some b) (hK : K b) : DCall P g vs ob rv K := by
 unfold Ybg at h
 split at h
 ·rename_i its keep k s n hl
  rw [Bool.cond_eq_ite] at h
  split at h
  ·rename_i e
   have e : n = vs.length := Nat.eq_of_beq_eq_true e
   subst e
   have hok := (hF g _ hl).1
   simp only [FI.ok] at hok
   refine Xee (keep := keep) hm hok (Zs hR _ _ _ ?_)
   split at h
   ·rename_i sl ob' e1
    rw [e1]
    refine S.run_sound (L := L) hR s _ _ _ ?_
    split at h
    ·rename_i e2; rw [e2]; exact W0 h hK
    ·rename_i e2; rw [e2]; exact W0 h hK
    ·cases h
   ·cases h
  ·cases h
 ·cases h
theorem Xl1 {g : Nat} {cl : List V} {rs : List RV} {r : Rs} {v : V} {K : V → Prop} (h : X2n R L F g cl rs r = some v) (hK : K v) : r.to (Xfv P g cl rs K) := by
 unfold X2n at h
 split at h
 ·rw [Option.bind_eq_some_iff] at h
  obtain ⟨b, h1, h2⟩ := h
  exact Xac hm hF hR h1 (Zv h2 hK)
 ·rw [Option.bind_eq_some_iff] at h
  obtain ⟨b, h1, h2⟩ := h
  exact Xac hm hF hR h1 (Zv h2 hK)
 ·rw [Bool.cond_eq_ite] at h
  split at h
  ·rename_i hi
   rw [Option.bind_eq_some_iff] at h
   obtain ⟨b, h1, h2⟩ := h
   refine ⟨?_, Xac hm hF hR h1 (Zv h2 hK)⟩
   unfold V.isIfc at hi
   split at hi
   ·exact ⟨_, _, .inl rfl⟩
   ·exact ⟨_, .any, .inr ⟨_, rfl⟩⟩
   ·cases hi
  ·cases h
 ·cases h
theorem Xdw {rs : List RV} {K : V → Prop} : ∀ (s : FSt) (sl : Xc) (ob : Objs) (v : V), Yby R L F rs s sl ob = some v → K v → fwp P rs K s sl ob
 | .pre s r, sl, ob, v, h, hK => by
  simp only [Yby] at h
  simp only [fwp]
  refine S.run_sound (L := L) hR s _ _ _ ?_
  split at h
  ·rename_i e; rw [e]; exact Xdw r _ _ v h hK
  ·rename_i e; rw [e]; exact Zv h hK
  ·cases h
 | .dfr its keep k s, sl, ob, v, h, hK => by
  simp only [Yby] at h
  simp only [fwp]
  refine Zs hR _ _ _ ?_
  split at h
  ·rename_i sl' ob' e
   rw [e]
   simp only [Rq.to]
   split at h
   ·rename_i g fi ca e2
    rw [e2]
    rw [Bool.cond_eq_ite] at h
    split at h
    ·rename_i hc
     exact ⟨hR.ca _ hc, S.run_sound (L := L) hR s _ _ _ (Xl1 hm hF hR h hK)⟩
    ·cases h
   ·cases h
  ·cases h
theorem Xh0 {f : Nat} {ds : List D} {v : V} {ob : Objs} {K : V → Prop} (h : pcD R L F f ds = some v) (hK : K v) : PCall P f (ds.map .d) ob K := by
 unfold pcD at h
 split at h
 ·rename_i s rs n hl
  rw [Bool.cond_eq_ite] at h
  split at h
  ·rename_i e
   have e : n = ds.length := Nat.eq_of_beq_eq_true e
   subst e
   exact Xd2 hm (hF f _ hl).1 (S.run_sound (L := L) hR s _ _ _ (Xit h hK))
  ·cases h
 ·rename_i s rs n hl
  rw [Bool.cond_eq_ite] at h
  split at h
  ·rename_i e
   have e : n = ds.length := Nat.eq_of_beq_eq_true e
   subst e
   exact Xcz hm (hF f _ hl).1 (Xdw hm hF hR s _ _ v h hK)
  ·cases h
 ·cases h
theorem Xg5 {X : Fns} (hX : X.ok P) {f : Nat} {ds : List D} {v : V} {ob : Objs} {K : V → Prop} (h : pcX X R L F f ds ob = some v) (hK : K v) : PCall P f (ds.map .d) ob K := by
 unfold pcX at h
 split at h
 ·rename_i r hr; cases h; exact (hX.pc _ _ _ _ hr).mono fun v' e => by subst e; exact hK
 ·exact Xh0 hm hF hR h hK
theorem Xrh {X : Fns} (hX : X.ok P) {f : Nat} {vs : List V} {v : V} {ob : Objs} (h : pcR X R L F f vs ob = some v) : PCall P f vs ob fun v' => v' = v := by
 unfold pcR at h
 split at h
 ·rename_i ds hd
  rw [V.allD_map hd]
  exact Xg5 hm hF hR hX h rfl
 ·split at h
  ·rename_i ds hd
   unfold X90 at h
   split at h
   ·rename_i v' hv
    rw [Bool.cond_eq_ite] at h
    split at h
    ·rename_i hfl
     cases h
     exact PCall.borrow hd (Xg5 hm hF hR hX hv ⟨hfl, rfl⟩)
    ·cases h
   ·cases h
  ·cases h
theorem Xtz {f : Nat} {vs : List V} {o : Out} {ob b : Objs} (h : acR R L F f vs ob = some (o, b)) : ACall P f vs ob fun o' b' => o' = o ∧ b' = b := by
 unfold acR at h
 split at h
 ·rename_i s rs n hl
  rw [Bool.cond_eq_ite] at h
  split at h
  ·rename_i e
   have e : n = vs.length := Nat.eq_of_beq_eq_true e
   subst e
   exact Xdp hm (hF f _ hl).1 (S.run_sound (L := L) hR s _ _ _ (Xiy h ⟨rfl, rfl⟩))
  ·cases h
 ·split at h
  ·rename_i ds hd
   rw [Option.map_eq_some_iff] at h
   obtain ⟨v, hv, e⟩ := h
   cases e
   rw [V.allD_map hd]
   exact PCall.acall (Xh0 hm hF hR hv ⟨rfl, rfl⟩)
  ·cases h
 ·cases h
end
theorem X9e {p : Program} {F : FT} (hF : FT.ok p F) (f : Nat) (h : (Xhc F f).isSome = true) : Xh p f = true := by
 obtain ⟨x, hx⟩ := Option.isSome_iff_exists.1 h
 exact (hF f x hx).2
theorem Xwp {P : Prg} {L : Nat} {F : FT} {X : Fns} (hm : P.p.follows .mixedOrders = true) (hF : FT.ok P.p F) (hX : X.ok P) : ∀ n, (fns L F X n).ok P
 | 0 => hX
 | n + 1 => by
  refine ⟨fun f vs ob o b h => ?_, fun f vs ob v h => ?_, fun f h => ?_, fun g x h => hX.gl g x h⟩
  ·simp only [fns] at h
   split at h
   ·rename_i r hr; cases h; exact hX.call _ _ _ _ _ hr
   ·exact Xtz hm hF (Xwp hm hF hX n) h
  ·simp only [fns] at h
   exact Xrh hm hF (Xwp hm hF hX n) hX h
  ·simp only [fns, Bool.or_eq_true] at h
   rcases h with h | h
   ·exact X9e hF f h
   ·exact hX.ca f h
end Go.Ab
/- The table of the functions' texts for the evaluator, written by a program; that it is right is checked by the kernel. No condition. -/
namespace Go.Proofs.YtanpgmgkmfckaaaGreatDoor
open Go Go.Ab
set_option maxRecDepth 100000
def Yfn : FT := [(100, .pl X6h [.t 2] 1),
 (8, .pl ir8 [.t 0] 0),
 (11, .pl Yc9 [.t 4] 2),
 (13, .pl Yi1 [.t 2, .t 3] 1),
 (17, .pl Yl9 [.t 4] 2),
 (28, .pl Ye1 [.t 4] 2),
 (30, .pl Yes [.t 4] 2),
 (33, .pl Ykz [.t 2] 1),
 (34, .pl Yms [] 2),
 (48, .pl Yis [.t 4] 2),
 (49, .pl Yjr [.t 4] 2),
 (50, .pl Yhg [.t 6] 3),
 (52, .pl Yha [.t 6] 3),
 (53, .pl Yhz [.t 4] 2),
 (54, .pl Yia [.t 6] 3),
 (56, .pl Yjk [.t 6] 3),
 (99, .pl Yj8 [.t 6] 3),
 (101, .pl Yaj [.t 6] 3),
 (103, .pl X8d [.t 6] 3),
 (105, .pl Ya3 [.t 6] 3),
 (106, .pl X7c [.t 2] 1),
 (107, .pl X7a [.t 6] 3),
 (109, .pl Yca [.t 6] 3),
 (128, .pl Yav [.t 4] 2),
 (129, .pl X8w [.t 4] 2),
 (130, .pl Ya0 [.t 4] 2)]
theorem X6g : FT.ok Tryz.prog Yfn :=
 FT.ok_cons X68 (by kernel_rfl)
 (FT.ok_cons ok8 (by kernel_rfl)
 (FT.ok_cons Yg6 (by kernel_rfl)
 (FT.ok_cons Ysl (by kernel_rfl)
 (FT.ok_cons You (by kernel_rfl)
 (FT.ok_cons Yjs (by kernel_rfl)
 (FT.ok_cons Yi2 (by kernel_rfl)
 (FT.ok_cons Yng (by kernel_rfl)
 (FT.ok_cons Yp4 (by kernel_rfl)
 (FT.ok_cons Yp9 (by kernel_rfl)
 (FT.ok_cons Yoe (by kernel_rfl)
 (FT.ok_cons Ypf (by kernel_rfl)
 (FT.ok_cons Yph (by kernel_rfl)
 (FT.ok_cons Yoz (by kernel_rfl)
 (FT.ok_cons Yp6 (by kernel_rfl)
 (FT.ok_cons Ypa (by kernel_rfl)
 (FT.ok_cons Yrp (by kernel_rfl)
 (FT.ok_cons Yc6 (by kernel_rfl)
 (FT.ok_cons Yc8 (by kernel_rfl)
 (FT.ok_cons Ygf (by kernel_rfl)
 (FT.ok_cons Ye6 (by kernel_rfl)
 (FT.ok_cons Ydn (by kernel_rfl)
 (FT.ok_cons Ygq (by kernel_rfl)
 (FT.ok_cons Yf9 (by kernel_rfl)
 (FT.ok_cons Ygm (by kernel_rfl)
 (FT.ok_cons Ygb (by kernel_rfl)
 (FT.ok_nil))))))))))))))))))))))))))
end Go.Proofs.YtanpgmgkmfckaaaGreatDoor
/- The law's own examples hold (sane). Condition: the program is the seat's; its package variables are laid. -/
namespace Go.Sx
open Go Go.Ab Go.Lx
def Xqp (s : B) : V := if s.length > 65536 then .tup [.d Ua, .d (.int .i64 0), .d (.int .i64 2)] else match X55 s.length s 0 with
 | .err e => .tup [.d Ua, .d (.int .i64 e), .d (.int .i64 90)]
 | .ok l => Xg7 s.length (Zn l)
theorem Xso (s : B) : Xqp s = Qg s := by
 have e := Xle s.length s 0 (Nat.le_refl _)
 unfold Xqp Qg
 simp only [e]
 all_goals (cases Wi s 0 <;> rfl)
def Yd5 : D → Option Tok
 | .agg [.int .i64 k, .str t, .int .i64 n, .int .i64 a] => some ⟨k, t, n, a⟩
 | _ => none
def Xy4 : List D → Option (List Tok)
 | [] => some []
 | x :: r => match Yd5 x, Xy4 r with
  | some t, some l => some (t :: l)
  | _, _ => none
theorem X2l {x : D} {t : Tok} (h : Yd5 x = some t) : x = t.enc := by
 unfold Yd5 at h
 split at h
 ·cases h; rfl
 ·cases h
theorem Xoa : ∀ {xs : List D} {l : List Tok}, Xy4 xs = some l → xs = l.map Tok.enc
 | [], l, h => by cases h; rfl
 | x :: r, l, h => by
  unfold Xy4 at h
  split at h
  ·rename_i t l' h1 h2
   cases h
   rw [X2l h1, Xoa h2]; rfl
  ·cases h
def X62 : D → Option V
 | .list 4 xs => match Xy4 xs with
  | some l => if l.length ≤ 100000 then some (Xmi l) else none
  | none => none
 | _ => none
end Go.Sx
namespace Go.Proofs.YtanpgmgkmfckaaaGreatDoor
open Go Go.Ab Go.Lx Go.Sx
set_option maxRecDepth 100000
def xpc (f : Nat) (vs : List V) : Option V := match vs with
 | [.d (.str s)] => bif Nat.beq f 9 then some (Xqp s) else none
 | [.d x] => bif Nat.beq f 38 then X62 x else none
 | _ => none
def xgl (g : Nat) : Option D :=
 bif Nat.beq g 0 then some (.agg [.int .i64 2, .int .i64 1000]) else
 bif Nat.beq g 1 then some (.agg [.int .i64 1, .int .i64 255]) else
 bif Nat.beq g 2 then some (.agg [.int .i64 0, .int .i64 32]) else
 bif Nat.beq g 3 then some (.agg [.int .i64 0, .int .i64 9]) else
 bif Nat.beq g 4 then some (.agg [.int .i64 0, .int .i64 1048576]) else none
def x10 : Fns := ⟨fun _ _ _ => none, fun f vs _ => xpc f vs, fun _ => false, xgl⟩
theorem Xs2 (ob : Objs) : (fns 3000 Yfn x10 30).pc 8 [] ob = some (.d (.bool true)) := by kernel_rfl
section
variable {P : Prg} (hP : P.p = Tryz.prog) (hI : Ivl P) (hG : Pow P)
include hP hI hG
theorem X65 : x10.ok P := by
 refine ⟨fun _ _ _ _ _ h => (by cases h), fun f vs ob v h => ?_, fun _ h => (by cases h), fun g x h => ?_⟩
 ·simp only [x10] at h
  unfold xpc at h
  split at h
  ·rename_i s
   rw [Bool.cond_eq_ite] at h
   split at h
   ·rename_i e
    cases h
    rw [Nat.eq_of_beq_eq_true e, Xso]
    exact Xvn hP hI s rfl
   ·cases h
  ·rename_i x _
   rw [Bool.cond_eq_ite] at h
   split at h
   ·rename_i e
    rw [Nat.eq_of_beq_eq_true e]
    unfold X62 at h
    split at h
    ·rename_i xs
     split at h
     ·rename_i l hl
      split at h
      ·rename_i h2
       cases h
       rw [Xoa hl]
       exact X77 hP hG (l := l) (.inl rfl) h2 rfl
      ·cases h
     ·cases h
    ·cases h
   ·cases h
  ·cases h
 ·simp only [x10, xgl, Bool.cond_eq_ite] at h
  split at h
  ·rename_i e; cases h; rw [Nat.eq_of_beq_eq_true e]; exact hI.factors
  split at h
  ·rename_i e; cases h; rw [Nat.eq_of_beq_eq_true e]; exact hI.editions
  split at h
  ·rename_i e; cases h; rw [Nat.eq_of_beq_eq_true e]; exact hI.mosts
  split at h
  ·rename_i e; cases h; rw [Nat.eq_of_beq_eq_true e]; exact hI.weights
  split at h
  ·rename_i e; cases h; rw [Nat.eq_of_beq_eq_true e]; exact hI.anyN
  ·cases h
theorem Ya9 {ob : Objs} {K : V → Prop} (h : K (.d (.bool true))) : PCall P 8 [] ob K := by
 have h1 := (Xwp (P := P) (L := 3000) (F := Yfn) (by rw [hP]; exact mixed) (by rw [hP]; exact X6g) (X65 hP hI hG) 30).pc _ _ ob _ (Xs2 ob)
 refine h1.mono fun v e => ?_
 subst e; exact h
end
end Go.Proofs.YtanpgmgkmfckaaaGreatDoor
/- Plain laws of the lexer: shifting, joining. No program. -/
namespace Go.Lx
open Go Go.Ab
theorem Xcf (p : UInt8 → Bool) (r : List UInt8) : (r.takeWhile p).length ≤ r.length := (List.takeWhile_prefix p).length_le
theorem Xyt {c : UInt8} {r : List UInt8} {n : Nat} (h : stp c r = .skip n) : n ≤ r.length := by
 unfold stp at h
 have := Xcf Zz r
 (repeat' split at h) <;> (first | (cases h; omega) | cases h)
theorem X58 {c : UInt8} {r : List UInt8} {k m : Int} {t : List UInt8} {n : Nat} (h : stp c r = .tok k t m n) : n ≤ r.length := by
 unfold stp at h
 have h1 := Xcf Yg r
 have h2 := Xcf Xw r
 (repeat' split at h) <;> (first | (cases h; omega) | cases h)
theorem Jb {c : UInt8} {r : List UInt8} {n off : Nat} (h : stp c r = .skip n) : Wi (c :: r) off = Wi (r.drop n) (off + n + 1) := by
 rw [Wi, h]
theorem Xb3 {c : UInt8} {r : List UInt8} {k m : Int} {t : List UInt8} {n off : Nat} (h : stp c r = .tok k t m n) : Wi (c :: r) off = Xw4 ⟨k, t, m, off⟩ (Wi (r.drop n) (off + n + 1)) := by
 rw [Wi, h]
theorem Xfd {c : UInt8} {r : List UInt8} {off : Nat} (h : stp c r = .err) : Wi (c :: r) off = .err off := by
 rw [Wi, h]
theorem J0 (off : Nat) : Wi [] off = .ok [] := by rw [Wi]
theorem Xk7 {M : List UInt8 → Nat → Prop} (h0 : ∀ off, M [] off)
  (h1 : ∀ c r n off, stp c r = .skip n → n ≤ r.length → M (r.drop n) (off + n + 1) → M (c :: r) off)
  (h2 : ∀ c r k t m n off, stp c r = .tok k t m n → n ≤ r.length → M (r.drop n) (off + n + 1) → M (c :: r) off)
  (h3 : ∀ c r off, stp c r = .err → M (c :: r) off) : ∀ s off, M s off := by
 have key : ∀ N s off, s.length ≤ N → M s off := by
  intro N
  induction N with
  | zero =>
   intro s off h
   have : s = [] := List.length_eq_zero_iff.1 (by omega)
   subst this; exact h0 off
  | succ N ih =>
   intro s off h
   cases s with
   | nil => exact h0 off
   | cons c r =>
    simp at h
    have hd : ∀ n, (r.drop n).length ≤ N := fun n => by simp; omega
    cases hs : stp c r with
    | skip n => exact h1 c r n off hs (Xyt hs) (ih _ _ (hd n))
    | tok k t m n => exact h2 c r k t m n off hs (X58 hs) (ih _ _ (hd n))
    | err => exact h3 c r off hs
 exact fun s off => key _ s off (Nat.le_refl _)
theorem Ze (p : UInt8 → Bool) : ∀ (r : List UInt8) (j : Nat), (r.takeWhile p).length ≤ j → (r.take j).takeWhile p = r.takeWhile p
 | [], j, _ => by simp
 | c :: r, 0, h => by
  simp only [List.takeWhile_cons] at h ⊢
  split at h
  ·simp at h
  ·rename_i hc; simp [hc]
 | c :: r, j + 1, h => by
  simp only [List.take_succ_cons, List.takeWhile_cons] at h ⊢
  split
  ·rename_i hc
   rw [hc] at h
   simp at h
   rw [Ze p r j h]
  ·rfl
def Ycp (c : UInt8) (r : List UInt8) : Prop := c = 47 ∧ r.head? = some 47
theorem Xwg {c : UInt8} {r : List UInt8} (h : Ycp c r) : stp c r = .skip (r.takeWhile Zz).length := by
 obtain ⟨rfl, h⟩ := h
 simp [stp, h, Q0, Qh]
theorem Xqu {c : UInt8} {r : List UInt8} {j n : Nat} (hn : n ≤ j) (h : stp c r = .skip n ∨ ∃ k t m, stp c r = .tok k t m n) : stp c (r.take j) = stp c r := by
 have hh : ¬ Ycp c r → ¬ (c = 47 ∧ (r.take j).head? = some 47) := fun hc ⟨e1, e2⟩ => hc ⟨e1, by
  cases r with
  | nil => simp at e2
  | cons a r => cases j with
   | zero => simp at e2
   | succ j => simpa using e2⟩
 by_cases hc : Ycp c r
 ·have hs := Xwg hc
  have hn' : (r.takeWhile Zz).length = n := by
   rcases h with h | ⟨_, _, _, h⟩
   ·rw [hs] at h; cases h; rfl
   ·rw [hs] at h; cases h
  have hc' : Ycp c (r.take j) := by
   refine ⟨hc.1, ?_⟩
   cases r with
   | nil => simpa using hc.2
   | cons a r =>
    have ha : a = 47 := by simpa using hc.2
    subst ha
    have : Zz 47 = true := by decide
    simp [List.takeWhile_cons, this] at hn'
    cases j with
    | zero => omega
    | succ j => simp
  rw [hs, Xwg hc', Ze _ _ _ (by omega)]
 ·have hf : ¬ (c = 47 ∧ r.head? = some 47) := hc
  unfold stp at h ⊢
  rw [if_neg (hh hc)]
  rw [if_neg hf] at h ⊢
  split
  ·rfl
  ·rename_i h1
   rw [if_neg h1] at h
   split
   ·rename_i h2
    rw [if_pos h2] at h
    split at h
    ·simp at h
     obtain ⟨_, _, _, _, _, _, h⟩ := h
     rw [Ze _ _ _ (by omega)]
    ·simp at h
   ·rename_i h2
    rw [if_neg h2] at h
    split
    ·rename_i h3
     rw [if_pos h3] at h
     split at h
     ·simp at h
      obtain ⟨_, _, _, _, _, _, h⟩ := h
      rename_i h4
      rw [Ze _ _ _ (by omega), h4]
     ·simp at h
    ·rfl
end Go.Lx
/- Plain laws for SyntaxPlaces: a source cut at a token's place; which errors there are. No program. -/
namespace Go.Sx
open Go Go.Ab Go.Lx
theorem X33 : ∀ s off, ∀ l, Wi s off = .ok l → ∀ pre t post, l = pre ++ t :: post → ∃ m : Nat, t.at_ = ((off + m : Nat) : Int) ∧ m < s.length ∧ Wi (s.take m) off = .ok pre := by
 apply Xk7
 ·intro off l h pre t post e
  rw [J0] at h
  cases h
  simp at e
 ·intro c r n off h hn ih l hl pre t post e
  rw [Jb h] at hl
  obtain ⟨m, h1, h2, h3⟩ := ih l hl pre t post e
  simp at h2
  refine ⟨m + n + 1, by omega, by simp; omega, ?_⟩
  rw [List.take_succ_cons, Jb ((Xqu (by omega) (.inl h)).trans h), List.drop_take]
  simpa using h3
 ·intro c r k tt mm n off h hn ih l hl pre t post e
  rw [Xb3 h] at hl
  cases hr : Wi (r.drop n) (off + n + 1) with
  | err e => rw [hr] at hl; cases hl
  | ok l' =>
   rw [hr] at hl
   simp only [Xw4, Res.ok.injEq] at hl
   subst hl
   cases pre with
   | nil =>
    simp only [List.nil_append, List.cons.injEq] at e
    refine ⟨0, by rw [← e.1]; simp, by simp, by rw [List.take_zero, J0]⟩
   | cons x pre =>
    simp only [List.cons_append, List.cons.injEq] at e
    obtain ⟨m, h1, h2, h3⟩ := ih l' hr pre t post e.2
    simp at h2
    refine ⟨m + n + 1, by omega, by simp; omega, ?_⟩
    rw [List.take_succ_cons, Xb3 ((Xqu (by omega) (.inr ⟨_, _, _, h⟩)).trans h), List.drop_take]
    simp only [Nat.add_sub_cancel, h3, Xw4, e.1]
 ·intro c r off h l hl; rw [Xfd h] at hl; cases hl
theorem X4g : ∀ s off, ∀ l, Wi s off = .ok l → l.length ≤ s.length := by
 apply Xk7
 ·intro off l h; rw [J0] at h; cases h; simp
 ·intro c r n off h hn ih l hl
  rw [Jb h] at hl
  have := ih l hl
  simp at this ⊢; omega
 ·intro c r k t m n off h hn ih l hl
  rw [Xb3 h] at hl
  cases hr : Wi (r.drop n) (off + n + 1) with
  | err e => rw [hr] at hl; cases hl
  | ok l' =>
   rw [hr] at hl
   simp only [Xw4, Res.ok.injEq] at hl
   subst hl
   have := ih l' hr
   simp at this ⊢; omega
 ·intro c r off h l hl; rw [Xfd h] at hl; cases hl
def Zo {α : Type} (m : M α) : Prop := ∀ ts r e, m ts = .err r e → e = 2 ∨ e = 100
section
variable {α β : Type}
theorem Zo.pure (a : α) : Zo (pure a : M α) := fun _ _ _ h => by cases h
theorem Zo.fail : Zo (fail 100 : M α) := fun _ _ _ h => by cases h; exact .inr rfl
theorem Zo.bind {m : M α} {f : α → M β} (hm : Zo m) (hf : ∀ a, Zo (f a)) : Zo (m >>= f) := fun ts r e h => by
 rw [Xd] at h
 cases hc : m ts with
 | ok a r1 => rw [hc] at h; exact hf a _ _ _ h
 | err r1 x => rw [hc] at h; cases h; exact hm _ _ _ hc
theorem Zo.bind' {m : M α} {f : α → M β} (hm : Zo m) (hf : ∀ a ts r, m ts = .ok a r → Zo (f a)) : Zo (m >>= f) := fun ts r e h => by
 rw [Xd] at h
 cases hc : m ts with
 | ok a r1 => rw [hc] at h; exact hf a _ _ hc _ _ _ h
 | err r1 x => rw [hc] at h; cases h; exact hm _ _ _ hc
theorem Zo.ite {c : Prop} [Decidable c] {a b : M α} (ha : Zo a) (hb : Zo b) : Zo (if c then a else b) := by split <;> assumption
theorem Zo.ifM {c : List Tok → Bool} {a b : M α} (ha : Zo a) (hb : Zo b) : Zo (ifM c a b) := fun ts r e h => by
 simp only [Sx.ifM] at h
 split at h
 ·exact ha _ _ _ h
 ·exact hb _ _ _ h
end
theorem Xrf (k : Int) (t : B) : Zo (Wf k t) := fun ts r e h => by
 simp only [Wf] at h
 split at h
 ·cases h
 ·cases h; exact .inr rfl
theorem Y5 : Zo X5 := (Xrf _ _).bind fun _ => .pure _
theorem Zd (t : B) : Zo (X7 t) := (Xrf _ _).bind fun _ => .pure _
theorem Yj (t : B) : Zo (X0 t) := (Xrf _ _).bind fun _ => .pure _
theorem Yz (k : Int) (t : B) : Zo (Xo k t) := fun ts r e h => by
 simp only [Xo] at h
 split at h <;> cases h
theorem Wg (lo hi : Int) : Zo (Xv lo hi) := fun ts r e h => by
 simp only [Xv] at h
 split at h
 ·cases h
 ·cases h; exact .inr rfl
theorem Xbb (a b : Nat) : Zo (Ym a b) := fun ts r e h => by
 simp only [Ym] at h
 split at h
 ·cases h; exact .inl rfl
 ·cases h
theorem Xcp {α : Type} {c : List Tok → Bool} {read : M α} (hr : Zo read) : ∀ n, Zo (Xp c read n)
 | 0 => fun ts r e h => by
  simp only [Xp] at h
  split at h
  ·cases h; exact .inl rfl
  ·cases h
 | n + 1 => fun ts r e h => by
  simp only [Xp] at h
  split at h
  ·exact (hr.bind fun a => (Xcp hr n).bind fun l => Zo.pure (a :: l)) ts r e h
  ·cases h
theorem Xtp : Zo Xh1 := Y5.bind fun _ => (Yj _).bind fun _ => Y5.bind fun _ => .pure _
theorem Xs8 : Zo Xbk := fun ts r e h => by
 simp only [Xbk] at h
 split at h
 ·exact ((Wg _ _).bind fun _ => Zo.pure _) ts r e h
 ·exact (Xtp.bind fun _ => Zo.pure _) ts r e h
theorem Yb6 : Zo Z2 := (Zd _).bind fun _ => Y5.bind fun _ => Y5.bind fun _ => (Yz _ _).bind fun _ => .ite (Xtp.bind fun _ => (Yj _).bind fun _ => .pure _) ((Yj _).bind fun _ => .pure _)
theorem Ype : Zo opM := (Yz _ _).bind fun _ => .ite (.pure _) ((Yz _ _).bind fun _ => .ite ((Yz _ _).bind fun _ => .pure _) ((Yj _).bind fun _ => (Yj _).bind fun _ => .pure _))
theorem X2x : Zo Uu := (Zd _).bind fun _ => Xs8.bind fun _ => Ype.bind fun _ => Xs8.bind fun _ => (Yj _).bind fun _ => .pure _
theorem Yge : Zo Xr1 := (Zd _).bind fun _ => Y5.bind fun _ => (Yj _).bind fun _ => Xs8.bind fun _ => (Yj _).bind fun _ => .pure _
theorem X5t : Zo Xd8 := (Yz _ _).bind fun _ => .ite (Wg _ _) ((Yz _ _).bind fun _ => .ite ((Wg _ _).bind fun _ => .pure _) (.pure _))
theorem X86 : Zo Xdl := Y5.bind fun _ => (Yj _).bind fun _ => Y5.bind fun _ => X5t.bind fun _ => (Yj _).bind fun _ => .pure _
theorem Ydp : Zo Xww := (Zd _).bind fun _ => Xtp.bind fun _ => (Yj _).bind fun _ => .pure _
theorem X22 : ∀ n, Zo (Xei n)
 | 0 => .pure _
 | n + 1 => (Wg _ _).bind fun _ => (X22 n).bind fun _ => .pure _
theorem Xoe (n : Nat) : Zo (W6 n) := Y5.bind fun _ => (Xcp ((Yj _).bind fun _ => Y5) _).bind fun _ => .pure _
theorem X9u : Zo Xlo := (Yz _ _).bind fun _ => .ite ((Wg _ _).bind fun _ => (Zd _).bind fun _ => (Wg _ _).bind fun _ => (Yz _ _).bind fun _ => .ite (Y5.bind fun _ => .pure _) (.pure _)) ((Yz _ _).bind fun _ => .ite (.pure _) ((Yz _ _).bind fun _ => .ite (.pure _) ((Yz _ _).bind fun _ => .ite ((Xoe _).bind fun _ => .pure _) .fail)))
theorem X5z : Zo Uj := (Zd _).bind fun _ => Y5.bind fun _ => (Yj _).bind fun _ => X9u.bind fun _ => (X22 4).bind fun _ => (Yj _).bind fun _ => .pure _
theorem Xw8 : Zo Uf := (Zd _).bind fun _ => (Xoe _).bind fun _ => (Zd _).bind fun _ => Y5.bind fun _ => (Yj _).bind fun _ => .pure _
theorem Xsz {a b : Nat} {ts r : List Tok} {u : Unit} (h : Ym a b ts = .ok u r) : a ≠ b := by
 simp only [Ym] at h
 split at h
 ·cases h
 ·assumption
theorem Xrs : ∀ (n : Nat) (s : Schema), s.fields.length ≤ 12 → s.depends.length ≤ 8 → 21 ≤ n + s.fields.length + s.depends.length → Zo (Xau n s)
 | 0, s, h1, h2, h3 => by omega
 | n + 1, s, h1, h2, h3 => (Yz _ _).bind fun _ => .ite (.pure _) (.ifM
   ((Xbb _ _).bind' fun _ _ _ hr => X5z.bind fun f => Xrs n _ (by have := Xsz hr; simp; omega) h2 (by simp; omega))
   (.ifM ((Xbb _ _).bind' fun _ _ _ hr => Xw8.bind fun f => Xrs n _ h1 (by have := Xsz hr; simp; omega) (by simp; omega)) .fail))
theorem Xys (s : Src) : Zo (Uq s) := (Xbb _ _).bind fun _ => (Zd _).bind fun _ => Y5.bind fun _ => (Yj _).bind fun _ => .pure _
theorem X97 (s : Src) : Zo (Xhf s) := (Xbb _ _).bind fun _ => (Zd _).bind fun _ => Y5.bind fun _ => (Yz _ _).bind fun _ => .ite ((Wg _ _).bind fun _ => Y5.bind fun _ => (Yj _).bind fun _ => .pure _) ((Yj _).bind fun _ => .pure _)
theorem Xzh (s : Src) : Zo (Ur s) := (Xbb _ _).bind fun _ => (Zd _).bind fun _ => Y5.bind fun _ => (Zd _).bind fun _ => Y5.bind fun _ => (Zd _).bind fun _ => (Wg _ _).bind fun _ => (Zd _).bind fun _ => (X22 4).bind fun _ => (Yj _).bind fun _ => (Xrs _ _ (by simp) (by simp) (by simp)).bind fun _ => .pure _
theorem X74 (s : Src) : Zo (Xhp s) := (Xbb _ _).bind fun _ => (Zd _).bind fun _ => Y5.bind fun _ => (Yj _).bind fun _ => .ifM ((Xcp Yb6 _).bind fun _ => (Xcp X2x _).bind fun _ => (Xcp Yge _).bind fun _ => (Yj _).bind fun _ => .pure _) .fail
theorem Xuk (s : Src) : Zo (W2 s) := (Xbb _ _).bind fun _ => (Zd _).bind fun _ => Y5.bind fun _ => (Zd _).bind fun _ => Y5.bind fun _ => (Yj _).bind fun _ => (Xcp X86 _).bind fun _ => (Yj _).bind fun _ => .pure _
theorem Xqr (s : Src) : Zo (We s) := (Xbb _ _).bind fun _ => (Zd _).bind fun _ => Y5.bind fun _ => (Yj _).bind fun _ => (Xcp Ydp _).bind fun _ => (Zd _).bind fun _ => (Wg _ _).bind fun _ => (Yj _).bind fun _ => (Yj _).bind fun _ => .pure _
theorem X8m (t : B) (s : Src) : Zo (Xie t s) := by
 unfold Xie
 exact .ite (Xys s) (.ite (X97 s) (.ite (Xzh s) (.ite (X74 s) (.ite (Xuk s) (.ite (Xqr s) .fail)))))
theorem Yf3 (s : Src) : Zo (Qj s) := fun ts r e h => by
 cases ts with
 | nil => cases h; exact .inr rfl
 | cons x p =>
  simp only [Qj] at h
  split at h
  ·exact X8m _ _ _ _ _ h
  ·cases h; exact .inr rfl
theorem Xsi : ∀ (n : Nat) (s : Src) (ts r : List Tok) (e : Int), ts.length ≤ n → Zk n s ts = .err r e → e = 2 ∨ e = 100
 | n, s, [], r, e, _, h => by rw [Vg] at h; cases h
 | 0, s, x :: p, r, e, hl, h => by simp at hl
 | n + 1, s, x :: p, r, e, hl, h => by
  rw [Yh, Xd] at h
  cases hc : Qj s (x :: p) with
  | ok a r1 =>
   rw [hc] at h
   have := Jx _ _ _ _ hc
   simp only [List.length_cons] at this hl
   exact Xsi n a r1 r e (by omega) h
  | err r1 y => rw [hc] at h; cases h; exact Yf3 _ _ _ _ hc
theorem X05 {s : B} {l r : List Tok} {e : Int} (hl : Wi s 0 = .ok l) (h : Zn l = .err r e) : (e = 2 ∨ e = 100) ∧
  ((r = [] ∧ (Zn l).End) ∨ ∃ pre t post m, r = t :: post ∧ l = pre ++ t :: post ∧ t.at_ = (m : Nat) ∧ m < s.length ∧ Wi (s.take m) 0 = .ok pre ∧ (Zn pre).End) := by
 refine ⟨Xsi _ _ _ _ _ (Nat.le_refl _) h, ?_⟩
 cases r with
 | nil => exact .inl ⟨rfl, by rw [h]; rfl⟩
 | cons t post =>
  obtain ⟨pre, rfl⟩ := Xvh h
  obtain ⟨m, h1, h2, h3⟩ := X33 _ _ _ hl pre t post rfl
  exact .inr ⟨pre, t, post, m, rfl, rfl, by omega, h2, h3, Xq6 h⟩
end Go.Sx
/- Plain laws for SyntaxJoins: sources one after the other. No program. -/
namespace Go.Sx
open Go Go.Ab Go.Lx
def Ext {α : Type} (m : M α) : Prop := ∀ pre post a r, m pre = .ok a r → m (pre ++ post) = .ok a (r ++ post)
section
variable {α β : Type}
theorem Ext.pure (a : α) : Sx.Ext (pure a : M α) := fun pre post b r h => by cases h; rfl
theorem Ext.fail (e : Int) : Sx.Ext (fail e : M α) := fun pre post b r h => by cases h
theorem Ext.bind {m : M α} {f : α → M β} (hm : Sx.Ext m) (hf : ∀ a, Sx.Ext (f a)) : Sx.Ext (m >>= f) := fun pre post b r h => by
 rw [Xd] at h ⊢
 cases e : m pre with
 | ok a r1 => rw [e] at h; rw [hm _ post _ _ e]; exact hf a _ post _ _ h
 | err r1 x => rw [e] at h; cases h
theorem Good.ext1 {m : M α} (hm : Good m) {pre r : List Tok} {a : α} (h : m pre = .ok a r) (hr : r ≠ []) (post : List Tok) : m (pre ++ post) = .ok a (r ++ post) := by
 have h1 := hm.loc pre post
 unfold Z9 at h1
 cases e : m (pre ++ post) with
 | ok b r1 =>
  rw [e] at h1
  rcases h1 with ⟨mid, rfl, h2⟩ | ⟨_, h2⟩
  ·rw [h] at h2; cases h2; rfl
  ·rw [h] at h2; exact absurd h2 hr
 | err r1 x =>
  rw [e] at h1
  rcases h1 with ⟨mid, _, rfl, h2⟩ | ⟨_, h2⟩
  ·rw [h] at h2; cases h2
  ·rw [h] at h2; exact absurd h2 hr
theorem Ext.look {m : M α} {f : α → M β} (hm : Good m) (hf : ∀ a, Sx.Ext (f a) ∧ Zq (f a)) : Sx.Ext (m >>= f) := fun pre post b r h => by
 rw [Xd] at h ⊢
 cases e : m pre with
 | ok a r1 =>
  rw [e] at h
  have := (hf a).2 _ _ _ h
  have hne : r1 ≠ [] := by intro e; subst e; simp at this
  rw [hm.ext1 e hne post]
  exact (hf a).1 _ post _ _ h
 | err r1 x => rw [e] at h; cases h
theorem Ext.step {k : Int} {t : B} {f : Tok → α} : Sx.Ext (fun ts => if Xf k t ts then .ok (f (ts.headD default)) ts.tail else .err ts 100 : M α) := fun pre post a r h => by
 cases pre with
 | nil => simp [Xf] at h
 | cons x p =>
  have hn : Xf k t (x :: p ++ post) = Xf k t (x :: p) := rfl
  simp only [hn] at h ⊢
  split at h
  ·rename_i hc; cases h; simp [hc]
  ·cases h
theorem Ext.ite {c : Prop} [Decidable c] {a b : M α} (ha : Sx.Ext a) (hb : Sx.Ext b) : Sx.Ext (if c then a else b) := by split <;> assumption
theorem Zq.ite {c : Prop} [Decidable c] {a b : M α} (ha : Zq a) (hb : Zq b) : Zq (if c then a else b) := by split <;> assumption
theorem Ext.ifM {k : Int} {t : B} {a b : M α} (ha : Sx.Ext a) (hb : Sx.Ext b) (he : Zq b) : Sx.Ext (ifM (Xf k t) a b) := fun pre post x r h => by
 cases pre with
 | nil =>
  have hn : Xf k t [] = false := rfl
  simp only [Sx.ifM, hn, Bool.false_eq_true, if_false] at h
  have := he _ _ _ h
  simp at this
 | cons y p =>
  have hn : Xf k t (y :: p ++ post) = Xf k t (y :: p) := rfl
  simp only [Sx.ifM, hn] at h ⊢
  split at h
  ·rename_i hc; rw [if_pos hc]; exact ha _ post _ _ h
  ·rename_i hc; rw [if_neg hc]; exact hb _ post _ _ h
theorem Zq.ifM {c : List Tok → Bool} {a b : M α} (ha : Zq a) (hb : Zq b) : Zq (ifM c a b) := fun ts x r h => by
 simp only [Sx.ifM] at h
 split at h
 ·exact ha _ _ _ h
 ·exact hb _ _ _ h
theorem Zq.fail (e : Int) : Zq (fail e : M α) := fun _ _ _ h => by cases h
end
theorem Xa2 : ∀ (n : Nat) (s x : Src) (ts r : List Tok), Zk n s ts = .ok x r → r = []
 | n, s, x, [], r, h => by rw [Vg] at h; cases h; rfl
 | 0, s, x, t :: p, r, h => by cases h
 | n + 1, s, x, t :: p, r, h => by
  rw [Yh, Xd] at h
  cases e : Qj s (t :: p) with
  | ok s1 r1 => rw [e] at h; exact Xa2 n s1 x r1 r h
  | err a b => rw [e] at h; cases h
def Src.app (x y : Src) : Src := ⟨x.issuers ++ y.issuers, x.units ++ y.units, x.schemas ++ y.schemas, x.rules ++ y.rules, x.converts ++ y.converts, x.purposes ++ y.purposes⟩
structure Src.le (y z : Src) : Prop where
 i : y.issuers.length ≤ z.issuers.length
 u : y.units.length ≤ z.units.length
 s : y.schemas.length ≤ z.schemas.length
 r : y.rules.length ≤ z.rules.length
 c : y.converts.length ≤ z.converts.length
 p : y.purposes.length ≤ z.purposes.length
theorem Src.le.refl (y : Src) : y.le y := ⟨Nat.le_refl _, Nat.le_refl _, Nat.le_refl _, Nat.le_refl _, Nat.le_refl _, Nat.le_refl _⟩
theorem Src.le.trans {x y z : Src} (h : x.le y) (h' : y.le z) : x.le z := ⟨Nat.le_trans h.i h'.i, Nat.le_trans h.u h'.u, Nat.le_trans h.s h'.s, Nat.le_trans h.r h'.r, Nat.le_trans h.c h'.c, Nat.le_trans h.p h'.p⟩
end Go.Sx
/- What the parser of sources yields is well formed. No program. -/
namespace Go.Sx
open Go Go.Ab Go.Lx
def nm (b : B) : Prop := nameB b = true
def Uo (lo hi n : Int) : Prop := lo ≤ n ∧ n ≤ hi
instance (lo hi n : Int) : Decidable (Uo lo hi n) := by unfold Uo; exact inferInstance
def Term.wf : Term → Prop
 | .num n => Uo 0 1048576 n
 | .path a b => nm a ∧ nm b
def X4b {α : Type} (p : α → Prop) : Option α → Prop
 | none => True
 | some x => p x
structure From.wf (f : From) : Prop where
 name : nm f.name
 kind : nm f.kind
 of_ : X4b (fun x => nm x.1 ∧ nm x.2) f.of_
structure Atom.wf (f : Atom) : Prop where
 op : Uo 1 4 f.op
 a : f.a.wf
 b : f.b.wf
structure SetT.wf (f : SetT) : Prop where
 path : nm f.path
 term : f.term.wf
structure Move.wf (f : Move) : Prop where
 to_ : nm f.to_
 from_ : nm f.from_
 shift : Uo (-1048576) 1048576 f.shift
structure Ref.wf (f : Ref) : Prop where
 name : nm f.name
 path : nm f.path
def Xi8 (most : Nat) (l : List B) : Prop := l ≠ [] ∧ l.length ≤ most ∧ ∀ x ∈ l, nm x
def TypeT.wf : TypeT → Prop
 | .num lo hi of_ => Uo 0 1048576 lo ∧ Uo 0 1048576 hi ∧ X4b nm of_
 | .date => True
 | .person => True
 | .choice l => Xi8 16 l
structure Field.wf (f : Field) : Prop where
 name : nm f.name
 type : f.type.wf
 four : f.weights.length = 4
 weights : ∀ x ∈ f.weights, Uo 0 9 x
structure Depend.wf (f : Depend) : Prop where
 names : Xi8 11 f.names
 name : nm f.name
structure UnitT.wf (f : UnitT) : Prop where
 name : nm f.name
 of_ : X4b (fun x => Uo 2 1000 x.1 ∧ nm x.2) f.of_
structure Schema.wf (f : Schema) : Prop where
 name : nm f.name
 by_ : nm f.by_
 version : Uo 1 255 f.version
 self : ∃ w r, f.fields = ⟨[115, 101, 108, 102], .person, w⟩ :: r
 few : f.fields.length ≤ 12
 fields : ∀ x ∈ f.fields, x.wf
 less : f.depends.length ≤ 8
 depends : ∀ x ∈ f.depends, x.wf
structure Rule.wf (f : Rule) : Prop where
 head : nm f.head
 some_ : f.froms ≠ []
 few : f.froms.length ≤ 3
 froms : ∀ x ∈ f.froms, x.wf
 less : f.wheres.length ≤ 8
 wheres : ∀ x ∈ f.wheres, x.wf
 least : f.sets.length ≤ 11
 sets : ∀ x ∈ f.sets, x.wf
structure Convert.wf (f : Convert) : Prop where
 from_ : nm f.from_
 to_ : nm f.to_
 few : f.moves.length ≤ 11
 moves : ∀ x ∈ f.moves, x.wf
structure Purpose.wf (f : Purpose) : Prop where
 name : nm f.name
 few : f.may.length ≤ 32
 may : ∀ x ∈ f.may, x.wf
 most : Uo 0 32 f.most
structure Src.wf (s : Src) : Prop where
 few : Few s
 issuers : ∀ x ∈ s.issuers, nm x
 units : ∀ x ∈ s.units, x.wf
 schemas : ∀ x ∈ s.schemas, x.wf
 rules : ∀ x ∈ s.rules, x.wf
 converts : ∀ x ∈ s.converts, x.wf
 purposes : ∀ x ∈ s.purposes, x.wf
def Xn {α : Type} (m : M α) (p : α → Prop) : Prop := ∀ ts a r, (∀ t ∈ ts, validB t = true) → m ts = .ok a r → p a
section
variable {α β : Type} {p : α → Prop} {q : β → Prop}
theorem Xn.pure {a : α} (h : p a) : Xn (pure a : M α) p := fun _ _ _ _ e => by cases e; exact h
theorem Xn.fail (e : Int) : Xn (fail e : M α) p := fun _ _ _ _ e => by cases e
theorem Xn.bind {m : M α} {f : α → M β} (g : Good m) (hm : Xn m p) (hf : ∀ a, p a → Xn (f a) q) : Xn (m >>= f) q := fun ts b r hv h => by
 rw [Xd] at h
 cases e : m ts with
 | err a b => rw [e] at h; cases h
 | ok a r1 =>
  rw [e] at h
  exact hf a (hm _ _ _ hv e) _ _ _ (fun t ht => hv t ((g.ok e).mem ht)) h
theorem Xn.ite {c : Prop} [Decidable c] {a b : M α} (ha : Xn a p) (hb : Xn b p) : Xn (if c then a else b) p := by split <;> assumption
theorem Xn.ifM {c : List Tok → Bool} {a b : M α} (ha : Xn a p) (hb : Xn b p) : Xn (ifM c a b) p := fun ts x r hv h => by
 simp only [Sx.ifM] at h
 split at h
 ·exact ha _ _ _ hv h
 ·exact hb _ _ _ hv h
theorem Xn.any {m : M α} : Xn m fun _ => True := fun _ _ _ _ _ => trivial
end
theorem Y7 : Xn X5 nm := fun ts a r hv h => by
 rw [Xls] at h
 cases ts with
 | nil => simp [Xf] at h
 | cons x p =>
  simp only at h
  split at h
  ·rename_i hc
   cases h
   have := hv x (by simp)
   simp [Xf] at hc
   simp [validB, hc] at this
   exact this.1
  ·cases h
theorem Wd (lo hi : Int) : Xn (Xv lo hi) (Uo lo hi) := fun ts a r _ h => Xd3 h
theorem X0m (n m : Nat) : Xn (Ym n m) fun _ => n ≠ m := fun ts a r _ h => by
 simp only [Ym] at h
 split at h
 ·cases h
 ·assumption
theorem Xa4 {α : Type} {p : α → Prop} {k : Int} {t : B} {read : M α} (g : Good read) (e : Zq read) (h : Xn read p) : ∀ n, Xn (Xp (Xf k t) read n) fun l => l.length ≤ n ∧ ∀ x ∈ l, p x
 | 0 => fun ts a r hv hh => by
  simp only [Xp] at hh
  split at hh
  ·cases hh
  ·cases hh; simp
 | n + 1 => fun ts a r hv hh => by
  simp only [Xp] at hh
  split at hh
  ·exact (h.bind g fun a ha => (Xa4 g e h n).bind (X2 g e n) fun l hl => Xn.pure (p := fun l : List α => l.length ≤ n + 1 ∧ ∀ x ∈ l, p x) (a := a :: l) ⟨by simp; exact hl.1, by simp; exact ⟨ha, hl.2⟩⟩) ts a r hv hh
  ·cases hh; simp
theorem Xr5 : Xn Xh1 fun x => nm x.1 ∧ nm x.2 := Y7.bind Xg fun _ h1 => Xn.any.bind (Xe _) fun _ _ => Y7.bind Xg fun _ h2 => .pure ⟨h1, h2⟩
theorem Xum : Xn Xbk Term.wf := fun ts a r hv h => by
 simp only [Xbk] at h
 split at h
 ·exact ((Wd 0 1048576).bind (Xy _ _) fun n hn => Xn.pure (p := Term.wf) (a := .num n) hn) ts a r hv h
 ·exact (Xr5.bind Z7 fun x hx => Xn.pure (p := Term.wf) (a := .path x.1 x.2) hx) ts a r hv h
theorem X10 : Xn Z2 From.wf := Xn.any.bind (Xk _) fun _ _ => Y7.bind Xg fun _ h1 => Y7.bind Xg fun _ h2 => Xn.any.bind (Xl _ _) fun _ _ => .ite (Xr5.bind Z7 fun _ h3 => Xn.any.bind (Xe _) fun _ _ => .pure ⟨h1, h2, h3⟩) (Xn.any.bind (Xe _) fun _ _ => .pure ⟨h1, h2, trivial⟩)
theorem Yqe : Xn opM (Uo 1 4) := Xn.any.bind (Xl _ _) fun _ _ => .ite (.pure (by decide)) (Xn.any.bind (Xl _ _) fun _ _ => .ite (Xn.any.bind (Xl _ _) fun _ _ => .pure (by split <;> decide)) (Xn.any.bind (Xe _) fun _ _ => Xn.any.bind (Xe _) fun _ _ => .pure (by decide)))
theorem X4o : Xn Uu Atom.wf := Xn.any.bind (Xk _) fun _ _ => Xum.bind Zg fun _ h1 => Yqe.bind Xlc fun _ h2 => Xum.bind Zg fun _ h3 => Xn.any.bind (Xe _) fun _ _ => .pure ⟨h2, h1, h3⟩
theorem Yfp : Xn Xr1 SetT.wf := Xn.any.bind (Xk _) fun _ _ => Y7.bind Xg fun _ h1 => Xn.any.bind (Xe _) fun _ _ => Xum.bind Zg fun _ h2 => Xn.any.bind (Xe _) fun _ _ => .pure ⟨h1, h2⟩
theorem X2w : Xn Xd8 (Uo (-1048576) 1048576) := Xn.any.bind (Xl _ _) fun _ _ => .ite (fun ts a r hv h => by have := Wd _ _ _ _ _ hv h; unfold Uo at this ⊢; omega)
 (Xn.any.bind (Xl _ _) fun _ _ => .ite ((Wd 0 1048576).bind (Xy _ _) fun _ h => .pure (by unfold Uo at h ⊢; omega)) (.pure (by decide)))
theorem X9i : Xn Xdl Move.wf := Y7.bind Xg fun _ h1 => Xn.any.bind (Xe _) fun _ _ => Y7.bind Xg fun _ h2 => X2w.bind Xax fun _ h3 => Xn.any.bind (Xe _) fun _ _ => .pure ⟨h1, h2, h3⟩
theorem Yc5 : Xn Xww Ref.wf := Xn.any.bind (Xk _) fun _ _ => Xr5.bind Z7 fun _ h1 => Xn.any.bind (Xe _) fun _ _ => .pure ⟨h1.1, h1.2⟩
theorem X3d : ∀ n, Xn (Xei n) fun l => l.length = n ∧ ∀ x ∈ l, Uo 0 9 x
 | 0 => .pure (by simp)
 | n + 1 => (Wd 0 9).bind (Xy _ _) fun a ha => (X3d n).bind (Vv n) fun l hl => .pure ⟨by simp [hl.1], by simp; exact ⟨ha, hl.2⟩⟩
theorem Xm1 (n : Nat) (hn : 1 ≤ n) : Xn (W6 n) (Xi8 n) := Y7.bind Xg fun a ha => (Xa4 (p := nm) ((Xe _).bind fun _ => Xg) ((Jm _).bind fun _ => Xg) (Xn.any.bind (Xe _) fun _ _ => Y7) (n - 1)).bind (X2 ((Xe _).bind fun _ => Xg) ((Jm _).bind fun _ => Xg) _) fun l hl => .pure ⟨by simp, by simp; omega, by simp; exact ⟨ha, hl.2⟩⟩
theorem Yar : Xn Xlo TypeT.wf := Xn.any.bind (Xl _ _) fun _ _ => .ite
 ((Wd 0 1048576).bind (Xy _ _) fun _ h1 => Xn.any.bind (Xk _) fun _ _ => (Wd 0 1048576).bind (Xy _ _) fun _ h2 => Xn.any.bind (Xl _ _) fun _ _ => .ite (Y7.bind Xg fun _ h3 => .pure ⟨h1, h2, h3⟩) (.pure ⟨h1, h2, trivial⟩))
 (Xn.any.bind (Xl _ _) fun _ _ => .ite (.pure trivial) (Xn.any.bind (Xl _ _) fun _ _ => .ite (.pure trivial) (Xn.any.bind (Xl _ _) fun _ _ => .ite ((Xm1 16 (by decide)).bind (Wu _) fun _ h => .pure h) (.fail _))))
theorem X5j : Xn Uj Field.wf := Xn.any.bind (Xk _) fun _ _ => Y7.bind Xg fun _ h1 => Xn.any.bind (Xe _) fun _ _ => Yar.bind Xb5 fun _ h2 => (X3d 4).bind (Vv 4) fun _ h3 => Xn.any.bind (Xe _) fun _ _ => .pure ⟨h1, h2, h3.1, h3.2⟩
theorem Xy2 : Xn Uf Depend.wf := Xn.any.bind (Xk _) fun _ _ => (Xm1 11 (by decide)).bind (Wu _) fun _ h1 => Xn.any.bind (Xk _) fun _ _ => Y7.bind Xg fun _ h2 => Xn.any.bind (Xe _) fun _ _ => .pure ⟨h1, h2⟩
theorem Xsr : ∀ n s, s.wf → Xn (Xau n s) Schema.wf
 | 0, _, _ => .fail _
 | n + 1, s, hs => Xn.any.bind (Xl _ _) fun _ _ => .ite (.pure hs) (.ifM
   ((X0m _ _).bind (X3 _ _) fun _ hr => X5j.bind Xeb fun f hf => Xsr n _ (by
    obtain ⟨h1, h2, h3, ⟨w, r, h4⟩, h5, h6, h7, h8⟩ := hs
    refine ⟨h1, h2, h3, ⟨w, r ++ [f], by simp [h4]⟩, by simp; omega, ?_, h7, h8⟩
    intro x hx
    rcases List.mem_append.1 hx with hx | hx
    ·exact h6 x hx
    ·rw [List.mem_singleton.1 hx]; exact hf))
   (.ifM ((X0m _ _).bind (X3 _ _) fun _ hr => Xy2.bind Xc7 fun f hf => Xsr n _ (by
    obtain ⟨h1, h2, h3, h4, h5, h6, h7, h8⟩ := hs
    refine ⟨h1, h2, h3, h4, h5, h6, by simp; omega, ?_⟩
    intro x hx
    rcases List.mem_append.1 hx with hx | hx
    ·exact h8 x hx
    ·rw [List.mem_singleton.1 hx]; exact hf)) (.fail _)))
theorem X4y : nm [115, 101, 108, 102] := by unfold nm; decide
theorem Xur : Xn Xff nm := Xn.any.bind (Xk _) fun _ _ => Y7.bind Xg fun _ h => Xn.any.bind (Xe _) fun _ _ => .pure h
theorem X41 : Xn Xxj UnitT.wf := Xn.any.bind (Xk _) fun _ _ => Y7.bind Xg fun _ h1 => Xn.any.bind (Xl _ _) fun _ _ => .ite ((Wd 2 1000).bind (Xy _ _) fun _ h2 => Y7.bind Xg fun _ h3 => Xn.any.bind (Xe _) fun _ _ => .pure ⟨h1, h2, h3⟩) (Xn.any.bind (Xe _) fun _ _ => .pure ⟨h1, trivial⟩)
theorem Xtt : Xn Xfz Schema.wf := Xn.any.bind (Xk _) fun _ _ => Y7.bind Xg fun _ h1 => Xn.any.bind (Xk _) fun _ _ => Y7.bind Xg fun _ h2 => Xn.any.bind (Xk _) fun _ _ => (Wd 1 255).bind (Xy _ _) fun _ h3 => Xn.any.bind (Xk _) fun _ _ => (X3d 4).bind (Vv 4) fun w h4 => Xn.any.bind (Xe _) fun _ _ =>
 Xsr _ _ ⟨h1, h2, h3, ⟨w, [], rfl⟩, by simp, by
  intro x hx
  rw [List.mem_singleton.1 hx]
  exact ⟨X4y, trivial, h4.1, h4.2⟩, by simp, by simp⟩
theorem X3c : Xn Xpv Rule.wf := Xn.any.bind (Xk _) fun _ _ => Y7.bind Xg fun _ h1 => Xn.any.bind (Xe _) fun _ _ => fun ts a r hv h => by
 simp only [ifM] at h
 split at h
 ·rename_i hc
  have hf : ∀ l r, Xp (Xf 1 [102, 114, 111, 109]) Z2 3 ts = .ok l r → l ≠ [] := by
   intro l r hl e
   subst e
   simp only [Xp, hc, if_true] at hl
   rw [Xd] at hl
   cases e1 : Z2 ts with
   | err a b => rw [e1] at hl; cases hl
   | ok f r1 =>
    rw [e1] at hl
    simp only [Xd] at hl
    split at hl
    ·cases hl
    ·cases hl
  have v1 : Xn (fun t => if t = ts then Xp (Xf 1 [102, 114, 111, 109]) Z2 3 ts else Xp (Xf 1 [102, 114, 111, 109]) Z2 3 t) fun l => l.length ≤ 3 ∧ ∀ x ∈ l, x.wf := fun t l r hv hl => by
   have : Xp (Xf 1 [102, 114, 111, 109]) Z2 3 t = .ok l r := by
    simp only at hl
    split at hl
    ·rename_i e; rw [e]; exact hl
    ·exact hl
   exact Xa4 Ug Uh X10 3 t l r hv this
  rw [Xd] at h
  cases e1 : Xp (Xf 1 [102, 114, 111, 109]) Z2 3 ts with
  | err a b => rw [e1] at h; cases h
  | ok l r1 =>
   rw [e1] at h
   have hl := Xa4 Ug Uh X10 3 ts l r1 hv e1
   exact ((Xa4 Uz U4 X4o 8).bind (X2 Uz U4 8) fun w hw => (Xa4 Xbz Xbs Yfp 11).bind (X2 Xbz Xbs 11) fun t ht => Xn.any.bind (Xe _) fun _ _ => Xn.pure (p := Rule.wf) ⟨h1, hf l r1 e1, hl.1, hl.2, hw.1, hw.2, ht.1, ht.2⟩) r1 a r (fun t ht => hv t (((X2 Ug Uh 3).ok e1).mem ht)) h
 ·cases h
theorem Xpr : Xn Xbr Convert.wf := Xn.any.bind (Xk _) fun _ _ => Y7.bind Xg fun _ h1 => Xn.any.bind (Xk _) fun _ _ => Y7.bind Xg fun _ h2 => Xn.any.bind (Xe _) fun _ _ => (Xa4 Xcu Xcm X9i 11).bind (X2 Xcu Xcm 11) fun _ h3 => Xn.any.bind (Xe _) fun _ _ => .pure ⟨h1, h2, h3.1, h3.2⟩
theorem Xqa : Xn Je Purpose.wf := Xn.any.bind (Xk _) fun _ _ => Y7.bind Xg fun _ h1 => Xn.any.bind (Xe _) fun _ _ => (Xa4 Xf0 Xgf Yc5 32).bind (X2 Xf0 Xgf 32) fun _ h2 => Xn.any.bind (Xk _) fun _ _ => (Wd 0 32).bind (Xy _ _) fun _ h3 => Xn.any.bind (Xe _) fun _ _ => Xn.any.bind (Xe _) fun _ _ => .pure ⟨h1, h2.1, h2.2, h3⟩
theorem X6v {α : Type} {p : α → Prop} {l : List α} {a : α} (h : ∀ x ∈ l, p x) (ha : p a) : ∀ x ∈ l ++ [a], p x := fun x hx => by
 rcases List.mem_append.1 hx with hx | hx
 ·exact h x hx
 ·rw [List.mem_singleton.1 hx]; exact ha
theorem X9q {t : B} {s : Src} (hs : s.wf) : Xn (Xie t s) Src.wf := fun ts s' r hv h => by
 have hfew := Xf6 hs.few h
 unfold Xie at h
 split at h
 ·rw [Xcr] at h; obtain ⟨_, a, hb, rfl⟩ := Wb h
  exact ⟨hfew, X6v hs.issuers (Xur _ _ _ hv hb), hs.units, hs.schemas, hs.rules, hs.converts, hs.purposes⟩
 split at h
 ·rw [Xja] at h; obtain ⟨_, a, hb, rfl⟩ := Wb h
  exact ⟨hfew, hs.issuers, X6v hs.units (X41 _ _ _ hv hb), hs.schemas, hs.rules, hs.converts, hs.purposes⟩
 split at h
 ·rw [Xc0] at h; obtain ⟨_, a, hb, rfl⟩ := Wb h
  exact ⟨hfew, hs.issuers, hs.units, X6v hs.schemas (Xtt _ _ _ hv hb), hs.rules, hs.converts, hs.purposes⟩
 split at h
 ·rw [Xki] at h; obtain ⟨_, a, hb, rfl⟩ := Wb h
  exact ⟨hfew, hs.issuers, hs.units, hs.schemas, X6v hs.rules (X3c _ _ _ hv hb), hs.converts, hs.purposes⟩
 split at h
 ·rw [J6] at h; obtain ⟨_, a, hb, rfl⟩ := Wb h
  exact ⟨hfew, hs.issuers, hs.units, hs.schemas, hs.rules, X6v hs.converts (Xpr _ _ _ hv hb), hs.purposes⟩
 split at h
 ·rw [Xag] at h; obtain ⟨_, a, hb, rfl⟩ := Wb h
  exact ⟨hfew, hs.issuers, hs.units, hs.schemas, hs.rules, hs.converts, X6v hs.purposes (Xqa _ _ _ hv hb)⟩
 ·cases h
theorem Xvy : ∀ n s, s.wf → Xn (Zk n s) Src.wf
 | n, s, hs => fun ts x r hv h => by
  match n, ts, h, hv with
  | n, [], h, _ => rw [Vg] at h; cases h; exact hs
  | 0, t :: p, h, _ => cases h
  | n + 1, t :: p, h, hv =>
   rw [Yh, Xd] at h
   cases e : Qj s (t :: p) with
   | err a b => rw [e] at h; cases h
   | ok s1 r1 =>
    rw [e] at h
    have hv1 : ∀ t ∈ r1, validB t = true := fun u hu => hv u (((Xne s).ok e).mem hu)
    simp only [Qj] at e
    split at e
    ·exact Xvy n s1 (X9q hs _ _ _ hv e) r1 x r hv1 h
    ·cases e
theorem wf0 : Xzb.wf := ⟨Yda, by simp, by simp, by simp, by simp, by simp, by simp⟩
theorem Xyh {l r : List Tok} {x : Src} (hv : ∀ t ∈ l, validB t = true) (h : Zn l = .ok x r) : x.wf := Xvy _ _ wf0 _ _ _ hv h
end Go.Sx
/- Nil slices taken as empty ones, at any depth of data. Over any program; no condition. -/
namespace Go.Ab
open Go
mutual
def D.le : D → D → Prop
 | .nils, y => y = .nils ∨ ∃ sz, y = .list sz []
 | .agg xs, y => ∃ ys, y = .agg ys ∧ D.les xs ys
 | .list a xs, y => ∃ ys, y = .list a ys ∧ D.les xs ys
 | .int k n, y => y = .int k n
 | .bool b, y => y = .bool b
 | .str s, y => y = .str s
 | .nili, y => y = .nili
 | .nilp, y => y = .nilp
 | .nilf, y => y = .nilf
 | .nilm, y => y = .nilm
 | .ref x, y => y = .ref x
 | .iface t x, y => y = .iface t x
 | .fn f a b, y => y = .fn f a b
def D.les : List D → List D → Prop
 | [], l => l = []
 | x :: r, l => ∃ y s, l = y :: s ∧ D.le x y ∧ D.les r s
end
mutual
theorem D.le.same : ∀ {x y : D}, D.le x y → y.sz = x.sz ∧ y.isAgg = x.isAgg
 | .nils, y, h => by
  simp only [D.le] at h
  rcases h with rfl | ⟨_, rfl⟩ <;> exact ⟨by simp [D.sz], rfl⟩
 | .agg xs, y, h => by
  simp only [D.le] at h
  obtain ⟨ys, rfl, h⟩ := h
  exact ⟨by simp only [D.sz]; exact D.les.same h, rfl⟩
 | .list a xs, y, h => by
  simp only [D.le] at h
  obtain ⟨ys, rfl, h⟩ := h
  exact ⟨by simp only [D.sz], rfl⟩
 | .int .., y, h | .bool .., y, h | .str .., y, h | .nili, y, h | .nilp, y, h | .nilf, y, h | .nilm, y, h | .ref .., y, h | .iface .., y, h | .fn .., y, h => by
  simp only [D.le] at h; subst h; exact ⟨rfl, rfl⟩
theorem D.les.same : ∀ {xs ys : List D}, D.les xs ys → D.szs ys = D.szs xs
 | [], ys, h => by simp only [D.les] at h; subst h; rfl
 | x :: r, ys, h => by
  simp only [D.les] at h
  obtain ⟨y, s, rfl, h1, h2⟩ := h
  simp only [D.szs, h1.same.1, h2.same]
end
theorem D.les.length : ∀ {xs ys : List D}, D.les xs ys → ys.length = xs.length
 | [], ys, h => by simp only [D.les] at h; subst h; rfl
 | x :: r, ys, h => by
  simp only [D.les] at h
  obtain ⟨y, s, rfl, h1, h2⟩ := h
  simp [D.les.length h2]
theorem D.les.szAll : ∀ {xs ys : List D} {n : Nat}, D.les xs ys → (∀ x ∈ xs, x.sz = n) → ∀ y ∈ ys, y.sz = n
 | [], ys, n, h, _ => by simp only [D.les] at h; subst h; simp
 | x :: r, ys, n, h, hx => by
  simp only [D.les] at h
  obtain ⟨y, s, rfl, h1, h2⟩ := h
  intro z hz
  rcases List.mem_cons.1 hz with rfl | hz
  ·rw [h1.same.1]; exact hx x (by simp)
  ·exact D.les.szAll h2 (fun u hu => hx u (by simp [hu])) z hz
section
variable {w : World} {ow : Nat → Prop}
mutual
theorem D.le.rep : ∀ {x y : D} {cs : List Value}, D.le x y → x.rep w ow cs → y.rep w ow cs
 | .nils, y, cs, h, hr => by
  simp only [D.le] at h
  rcases h with rfl | ⟨sz, rfl⟩
  ·exact hr
  ·simp only [D.rep] at hr ⊢; exact .inl ⟨trivial, hr⟩
 | .agg xs, y, cs, h, hr => by
  simp only [D.le] at h
  obtain ⟨ys, rfl, h⟩ := h
  simp only [D.rep] at hr ⊢
  exact D.les.rep h hr
 | .list a xs, y, cs, h, hr => by
  simp only [D.le] at h
  obtain ⟨ys, rfl, h⟩ := h
  simp only [D.rep] at hr ⊢
  have hl := h.length
  rcases hr with ⟨rfl, hr⟩ | ⟨ad, cap, vs, h1, h2, h3, h4, h5⟩
  ·refine .inl ⟨?_, hr⟩
   simpa using hl
  ·exact .inr ⟨ad, cap, vs, by rw [hl]; exact h1, by rw [hl]; exact h2, h3, D.les.rep h h4, h.szAll h5⟩
 | .int .., y, cs, h, hr | .bool .., y, cs, h, hr | .str .., y, cs, h, hr | .nili, y, cs, h, hr | .nilp, y, cs, h, hr | .nilf, y, cs, h, hr | .nilm, y, cs, h, hr | .ref .., y, cs, h, hr | .iface .., y, cs, h, hr | .fn .., y, cs, h, hr => by
  simp only [D.le] at h; subst h; exact hr
theorem D.les.rep : ∀ {xs ys : List D} {cs : List Value}, D.les xs ys → D.repL w ow xs cs → D.repL w ow ys cs
 | [], ys, cs, h, hr => by simp only [D.les] at h; subst h; exact hr
 | x :: r, ys, cs, h, hr => by
  simp only [D.les] at h
  obtain ⟨y, s, rfl, h1, h2⟩ := h
  simp only [D.repL] at hr ⊢
  obtain ⟨c1, c2, e, r1, r2⟩ := hr
  exact ⟨c1, c2, e, D.le.rep h1 r1, D.les.rep h2 r2⟩
end
end
mutual
theorem D.le.refl : ∀ x : D, D.le x x
 | .nils => by simp [D.le]
 | .agg xs => by simp only [D.le]; exact ⟨_, rfl, D.les.refl xs⟩
 | .list a xs => by simp only [D.le]; exact ⟨_, rfl, D.les.refl xs⟩
 | .int .. | .bool .. | .str .. | .nili | .nilp | .nilf | .nilm | .ref .. | .iface .. | .fn .. => by simp only [D.le]
theorem D.les.refl : ∀ xs : List D, D.les xs xs
 | [] => by simp only [D.les]
 | x :: r => by simp only [D.les]; exact ⟨_, _, rfl, D.le.refl x, D.les.refl r⟩
end
theorem D.le.nil (sz : Nat) : D.le .nils (.list sz []) := by simp [D.le]
theorem D.le.agg {xs ys : List D} (h : D.les xs ys) : D.le (.agg xs) (.agg ys) := by simp only [D.le]; exact ⟨_, rfl, h⟩
theorem D.le.list {sz : Nat} {xs ys : List D} (h : D.les xs ys) : D.le (.list sz xs) (.list sz ys) := by simp only [D.le]; exact ⟨_, rfl, h⟩
theorem D.les.nil : D.les [] [] := by simp only [D.les]
theorem D.les.cons {x y : D} {r s : List D} (h : D.le x y) (h' : D.les r s) : D.les (x :: r) (y :: s) := by simp only [D.les]; exact ⟨_, _, rfl, h, h'⟩
theorem D.les.map {α : Type} {f g : α → D} : ∀ {l : List α}, (∀ x ∈ l, D.le (f x) (g x)) → D.les (l.map f) (l.map g)
 | [], _ => D.les.nil
 | x :: r, h => D.les.cons (h x (by simp)) (D.les.map fun y hy => h y (by simp [hy]))
theorem Xsl {w : World} {ρ : Env} : ∀ {xs ys : List D} {us : List Value}, D.les xs ys → V.reps w ρ (xs.map .d) us → V.reps w ρ (ys.map .d) us
 | [], ys, us, h, hr => by simp only [D.les] at h; subst h; exact hr
 | x :: r, ys, us, h, hr => by
  simp only [D.les] at h
  obtain ⟨y, s, rfl, h1, h2⟩ := h
  simp only [List.map_cons] at hr ⊢
  cases us with
  | nil => simp [V.reps] at hr
  | cons u us =>
   simp only [V.reps] at hr ⊢
   obtain ⟨u1, us1, e, hu, hus⟩ := hr
   cases e
   refine ⟨_, _, rfl, ?_, Xsl h2 hus⟩
   rcases Xde.1 hu with ⟨p, ds, q, hd⟩ | ⟨p, hd⟩
   ·exact Xde.2 (.inl ⟨by rw [h1.same.2]; exact p, ds, q, h1.rep hd⟩)
   ·exact Xde.2 (.inr ⟨by rw [h1.same.2]; exact p, h1.rep hd⟩)
theorem PCall.le {P : Prg} {f : Nat} {ob : Objs} {xs ys : List D} {K : V → Prop} (h : D.les xs ys) (hc : PCall P f (ys.map .d) ob K) : PCall P f (xs.map .d) ob K :=
 ⟨fun w ρ args ho hg hr => hc.run w ρ args ho hg (Xsl h hr)⟩
end Go.Ab
/- Sources as they are held in memory, with all their numbers: plain structures and what they read as. No program. -/
namespace Go.Sx
open Go Go.Ab Go.Lx
structure RTerm where
 name : B
 path : B
 var : Int
 field : Int
 n : Int
structure RFrom where
 name : B
 kind : B
 schema : Int
 of_ : RTerm
structure RAtom where
 op : Int
 a : RTerm
 b : RTerm
structure RSet where
 path : B
 field : Int
 term : RTerm
structure RRule where
 head : B
 schema : Int
 froms : List RFrom
 wheres : List RAtom
 sets : List RSet
structure RMove where
 to_ : B
 from_ : B
 b : Int
 a : Int
 shift : Int
structure RConvert where
 from_ : B
 to_ : B
 a : Int
 b : Int
 moves : List RMove
structure RRef where
 name : B
 path : B
 schema : Int
 field : Int
structure RPurpose where
 name : B
 may : List RRef
 most : Int
structure RUnit where
 name : B
 of_ : B
 factor : Int
 base : Int
 scale : Int
structure RType where
 kind : Int
 lo : Int
 hi : Int
 of_ : B
 unit : Int
 names : List B
structure RField where
 name : B
 type : RType
 w0 : Int
 w1 : Int
 w2 : Int
 w3 : Int
structure RDepend where
 names : List B
 name : B
 from_ : List Int
 to_ : Int
structure RSchema where
 name : B
 by_ : B
 issuer : Int
 version : Int
 fields : List RField
 depends : List RDepend
structure RSrc where
 issuers : List B
 units : List RUnit
 schemas : List RSchema
 rules : List RRule
 converts : List RConvert
 purposes : List RPurpose
def Jl (l : List Int) : D := .list 1 (l.map iD)
def RTerm.enc (t : RTerm) : D := .agg [.str t.name, .str t.path, iD t.var, iD t.field, iD t.n]
def RFrom.enc (f : RFrom) : D := .agg [.str f.name, .str f.kind, iD f.schema, f.of_.enc]
def RAtom.enc (a : RAtom) : D := .agg [iD a.op, a.a.enc, a.b.enc]
def RSet.enc (s : RSet) : D := .agg [.str s.path, iD s.field, s.term.enc]
def RRule.enc (r : RRule) : D := .agg [.str r.head, iD r.schema, .list 8 (r.froms.map RFrom.enc), .list 11 (r.wheres.map RAtom.enc), .list 7 (r.sets.map RSet.enc)]
def RMove.enc (m : RMove) : D := .agg [.str m.to_, .str m.from_, iD m.b, iD m.a, iD m.shift]
def RConvert.enc (c : RConvert) : D := .agg [.str c.from_, .str c.to_, iD c.a, iD c.b, .list 5 (c.moves.map RMove.enc)]
def RRef.enc (r : RRef) : D := .agg [.str r.name, .str r.path, iD r.schema, iD r.field]
def RPurpose.enc (p : RPurpose) : D := .agg [.str p.name, .list 4 (p.may.map RRef.enc), iD p.most]
def RUnit.enc (u : RUnit) : D := .agg [.str u.name, .str u.of_, iD u.factor, iD u.base, iD u.scale]
def RType.enc (t : RType) : D := .agg [iD t.kind, iD t.lo, iD t.hi, .str t.of_, iD t.unit, X4 t.names]
def RField.enc (f : RField) : D := .agg [.str f.name, f.type.enc, .agg [iD f.w0, iD f.w1, iD f.w2, iD f.w3]]
def RDepend.enc (d : RDepend) : D := .agg [X4 d.names, .str d.name, Jl d.from_, iD d.to_]
def RSchema.enc (s : RSchema) : D := .agg [.str s.name, .str s.by_, iD s.issuer, iD s.version, .list 11 (s.fields.map RField.enc), .list 4 (s.depends.map RDepend.enc)]
def RSrc.enc (s : RSrc) : D := .agg [X4 s.issuers, .list 5 (s.units.map RUnit.enc), .list 6 (s.schemas.map RSchema.enc), .list 5 (s.rules.map RRule.enc), .list 5 (s.converts.map RConvert.enc), .list 3 (s.purposes.map RPurpose.enc)]

structure RRule.small (r : RRule) : Prop where
 froms : r.froms.length ≤ 9223372036854775807
 wheres : r.wheres.length ≤ 9223372036854775807
 sets : r.sets.length ≤ 9223372036854775807
structure RDepend.small (r : RDepend) : Prop where
 names : r.names.length ≤ 9223372036854775807
 from_ : r.from_.length ≤ 9223372036854775807
structure RSchema.small (r : RSchema) : Prop where
 fields : r.fields.length ≤ 9223372036854775807
 depends : r.depends.length ≤ 9223372036854775807
 names : ∀ f ∈ r.fields, f.type.names.length ≤ 9223372036854775807
 deps : ∀ d ∈ r.depends, d.small
structure RSrc.small (s : RSrc) : Prop where
 issuers : s.issuers.length ≤ 9223372036854775807
 units : s.units.length ≤ 9223372036854775807
 schemas : s.schemas.length ≤ 9223372036854775807
 rules : s.rules.length ≤ 9223372036854775807
 converts : s.converts.length ≤ 9223372036854775807
 purposes : s.purposes.length ≤ 9223372036854775807
 schema : ∀ x ∈ s.schemas, x.small
 rule : ∀ x ∈ s.rules, x.small
 moves : ∀ x ∈ s.converts, x.moves.length ≤ 9223372036854775807
 may : ∀ x ∈ s.purposes, x.may.length ≤ 9223372036854775807
def Term.raw : Term → RTerm
 | .num n => ⟨[], [], -1, 0, n⟩
 | .path a b => ⟨a, b, 0, 0, 0⟩
def From.raw (f : From) : RFrom := ⟨f.name, f.kind, 0, match f.of_ with | none => ⟨[], [], 0, 0, 0⟩ | some x => ⟨x.1, x.2, 0, 0, 0⟩⟩
def Atom.raw (a : Atom) : RAtom := ⟨a.op, a.a.raw, a.b.raw⟩
def SetT.raw (s : SetT) : RSet := ⟨s.path, 0, s.term.raw⟩
def Rule.raw (r : Rule) : RRule := ⟨r.head, 0, r.froms.map From.raw, r.wheres.map Atom.raw, r.sets.map SetT.raw⟩
def Move.raw (m : Move) : RMove := ⟨m.to_, m.from_, 0, 0, m.shift⟩
def Convert.raw (c : Convert) : RConvert := ⟨c.from_, c.to_, 0, 0, c.moves.map Move.raw⟩
def Ref.raw (r : Ref) : RRef := ⟨r.name, r.path, 0, 0⟩
def Purpose.raw (p : Purpose) : RPurpose := ⟨p.name, p.may.map Ref.raw, p.most⟩
def UnitT.raw (u : UnitT) : RUnit := match u.of_ with
 | none => ⟨u.name, [], 0, 0, 0⟩
 | some x => ⟨u.name, x.2, x.1, 0, 0⟩
def TypeT.raw : TypeT → RType
 | .num lo hi of_ => ⟨1, lo, hi, of_.getD [], 0, []⟩
 | .date => ⟨2, 0, 1023, [], 0, []⟩
 | .person => ⟨3, 0, 4095, [], 0, []⟩
 | .choice l => ⟨4, 0, l.length - 1, [], 0, l⟩
def Field.raw (f : Field) : RField := ⟨f.name, f.type.raw, f.weights.getD 0 0, f.weights.getD 1 0, f.weights.getD 2 0, f.weights.getD 3 0⟩
def Depend.raw (d : Depend) : RDepend := ⟨d.names, d.name, [], 0⟩
def Schema.raw (s : Schema) : RSchema := ⟨s.name, s.by_, 0, s.version, s.fields.map Field.raw, s.depends.map Depend.raw⟩
def Src.raw (s : Src) : RSrc := ⟨s.issuers, s.units.map UnitT.raw, s.schemas.map Schema.raw, s.rules.map Rule.raw, s.converts.map Convert.raw, s.purposes.map Purpose.raw⟩
theorem Term.raw_enc (t : Term) : t.raw.enc = t.enc := by cases t <;> rfl
theorem From.raw_enc (t : From) : t.raw.enc = t.enc := by obtain ⟨a, b, c⟩ := t; cases c <;> rfl
theorem Atom.raw_enc (t : Atom) : t.raw.enc = t.enc := by simp only [Atom.raw, RAtom.enc, Term.raw_enc, Atom.enc]
theorem SetT.raw_enc (t : SetT) : t.raw.enc = t.enc := by simp only [SetT.raw, RSet.enc, Term.raw_enc, SetT.enc]
theorem Move.raw_enc (t : Move) : t.raw.enc = t.enc := rfl
theorem Ref.raw_enc (t : Ref) : t.raw.enc = t.enc := rfl
theorem UnitT.raw_enc (t : UnitT) : t.raw.enc = t.enc := by obtain ⟨a, b⟩ := t; cases b <;> rfl
theorem Xri {α β : Type} {f : α → β} {g : β → D} {h : α → D} (e : ∀ x, g (f x) = h x) (l : List α) : (l.map f).map g = l.map h := by
 rw [List.map_map]; exact List.map_congr_left fun x _ => e x
theorem Rule.raw_enc (t : Rule) : t.raw.enc = t.enc := by simp only [Rule.raw, RRule.enc, Rule.enc, Xri From.raw_enc, Xri Atom.raw_enc, Xri SetT.raw_enc]
theorem Convert.raw_enc (t : Convert) : t.raw.enc = t.enc := by simp only [Convert.raw, RConvert.enc, Convert.enc, Xri Move.raw_enc]
theorem Purpose.raw_enc (t : Purpose) : t.raw.enc = t.enc := by simp only [Purpose.raw, RPurpose.enc, Purpose.enc, Xri Ref.raw_enc]
theorem TypeT.raw_le (t : TypeT) : D.le t.enc t.raw.enc := by
 have key : ∀ {a b c d e x y : D}, D.le x y → D.le (.agg [a, b, c, d, e, x]) (.agg [a, b, c, d, e, y]) := fun h => D.le.agg (.cons (D.le.refl _) (.cons (D.le.refl _) (.cons (D.le.refl _) (.cons (D.le.refl _) (.cons (D.le.refl _) (.cons h .nil))))))
 cases t with
 | choice l => exact D.le.refl _
 | _ => exact key (D.le.nil _)
theorem Field.raw_le {f : Field} (h : f.weights.length = 4) : D.le f.enc f.raw.enc := by
 obtain ⟨n, t, w⟩ := f
 match w, h with
 | [a, b, c, d], _ =>
  exact D.le.agg (.cons (D.le.refl _) (.cons (TypeT.raw_le t) (.cons (D.le.refl _) .nil)))
theorem Depend.raw_le (d : Depend) : D.le d.enc d.raw.enc := D.le.agg (.cons (D.le.refl _) (.cons (D.le.refl _) (.cons (D.le.nil _) (.cons (D.le.refl _) .nil))))
theorem Qx {α β : Type} {f : α → D} {g : β → D} {r : α → β} : ∀ {l : List α}, (∀ x ∈ l, D.le (f x) (g (r x))) → D.les (l.map f) ((l.map r).map g)
 | [], _ => D.les.nil
 | x :: q, h => D.les.cons (h x (by simp)) (Qx fun y hy => h y (by simp [hy]))
theorem Schema.raw_le {s : Schema} (h : ∀ f ∈ s.fields, f.weights.length = 4) : D.le s.enc s.raw.enc :=
 D.le.agg (.cons (D.le.refl _) (.cons (D.le.refl _) (.cons (D.le.refl _) (.cons (D.le.refl _) (.cons (D.le.list (Qx fun x hx => Field.raw_le (h x hx))) (.cons (D.le.list (Qx fun x _ => Depend.raw_le x)) .nil))))))
theorem Src.raw_le {s : Src} (h : ∀ x ∈ s.schemas, ∀ f ∈ x.fields, f.weights.length = 4) : D.le s.enc s.raw.enc := by
 have e : ∀ {α β : Type} {f : α → D} {g : β → D} {r : α → β} {l : List α}, (∀ x, g (r x) = f x) → D.les (l.map f) ((l.map r).map g) := fun hh => Qx fun x _ => by rw [hh]; exact D.le.refl _
 exact D.le.agg (.cons (D.le.refl _) (.cons (D.le.list (e UnitT.raw_enc)) (.cons (D.le.list (Qx fun x hx => Schema.raw_le (h x hx))) (.cons (D.le.list (e Rule.raw_enc)) (.cons (D.le.list (e Convert.raw_enc)) (.cons (D.le.list (e Purpose.raw_enc)) .nil))))))
end Go.Sx
/- The abstract statements that stand for the code of these functions, written by a program from the translation; that they do is checked by the kernel. No condition. -/
namespace Go.Proofs.YtanpgmgkmfckaaaGreatDoor
open Go Go.Ab
set_option maxRecDepth 100000
def X1q : Nat := 0x10060c20f6e2c1de083b75e2c0031b6e1e0c000320010102e15e040002739b0401ce460c211be6c06e579b086b9b09015e7d679b17e6c0aae0e015e7d639b00041015e7d202082015e7d5b9b00041015e7d1c2082015e7d539b004f9b01b8de6c212e6c240379f51e6c3f9b0270e00de7d439b0004100de7d20000200de7d3b9b0004100de7d1c000200de7d339b002f9b01b86e6c20ae6c239b0c0c01b9f49e6c0010401b9f480c30801b9f47e6c0010401b9f470c30801b9f45e6c004e6c0b9b0c0c3e6c001048041081e6c0010470410b981c000080207183085039b081140030030020c4005a3826eff8b01101fb8b3de2c106180f38b000410c517de201c0002007183084ef8b071140030030020c4005a3822eeb8b01101e78b38e2c106180df8b00041085178e201c00020c50821c3d38b04034e060c2133e2cc38b0d0f2e2c131e2c001042145086c78785000082
def X0o : Nat := 0x10050c20c3e2c19e083b42e2c003143e1e0c000320010102e15e040002bf8b0402fe050c212ee2c06e838b08b78b09020e3db38b26e2c0a9e0e020e3daf8b01181020e3dab8b01042020e3da78b28e2c2ebe24020e3d9f8b00069e1f020e3d978b01181020e3d938b01042020e3d8f8b22e2c2e5e24020e3d878b00063e1f020e3d16ae1e020e3d0c4128e20020e3d164e1e020e3d084102020e3d7f8b007b8b01b91e2c21de2c5f8b000c010479c011e3d738b01101011e3d6f8b07082011e3d6b8b19e2c2dce24011e3d638b0005ae1f011e3d5b8b01101011e3d578b07082011e3d538b13e2c2d6e24011e3d4b8b00054e1f011e3d15be1e011e3d0c4119e20011e3d155e1e011e3d084102011e3d438b003f8b09e2c3033b8b00041378b00002338b0be2c2cee242b8b0004ce1f238b000411f8b000021b8b05e2c2c8e24138b00046e1f14de1e0c410be20147e1e084105e20b2baa9a279a48a181e9637dd71b6996175534913d651038d30b2891c510304818202c0020450801c3078b04001e050c2100e2cd6c343dec136b00041084102176785000082
def n29 : Nat := 0x48004041b857810000812860c20c60850060c20c00ed00100008200a143083180140143083003b4004000208320010102e15e040002d2c100d03083cec06eb2c232b2fb0c0c0b3dc6c100b3dc2c001040b3d0c514202cf6eb0402cf6db0004102cf42145080b3dac0a81ba322998c0c08fda04023f670010408fd0c4102023f651008fd900041023f421040808fd880841b9c22078c0c073d7c004101cf430c308073d74004101cf420c308073d6c0681b952195cc0c057d600041015f4308208057d580041015f4208208057d5004c1b8e21240c0c03bd44004100ef430410803bd3c004100ef420410803bd34030a3032c00410c000224004108000a82c00008200308202e0015f84405f80ef0c0002
def Yk5 : S := zS [(zS [] X0o), (zS [] X1q)] n29
theorem Yq4 : X1 Tryz.prog 29 2 Yk5 [.t 4] = true := by kernel_rfl
def X1r : Nat := 0x10050c20efb067820edbac00316f7830000c8004040b85781000082e2c1000b8143084078b34b000c00c00c008214379c038b01141decdac141e24d6c001ddfcec045072b31b05d24c2c001c9f140e1e0c4136805cde08413180b28920610304714200b0020450801c3b6c100b450c212cb29343ac4a8004108410216a785000082
def n31 : Nat := 0x48004041b857810000802850c20c60050050c20c00ed0010000820c8004040b857810000a8100a030839c1ba02268cc0c083d944020f6400104083d0c4102020f6210083d840041020f4210408083d7c0781b9921d6cc0c067d700041019f430c308067d680041019f420c308067d6005c1b9221650c0c04bd540041012f430820804bd4c0041012f420820804bd440401b8b20f34c0c02fd38004100bf430410802fd30004100bf420410802fd2802473032000410c000218004108000782300008200308202e0017384407380ef0c0002
def Ylf : S := zS [(zS [] X1r)] n31
theorem Ynu : X1 Tryz.prog 31 2 Ylf [.t 4] = true := by kernel_rfl
def X1x : Nat := 0x10050c20e119e083b600031617830000c8004040b857810000acb0402c143084ae60030030020840de72a044069a04ae49c00697e50440648c49a48800647c5a9e0c106880595e08106380b28920610304714200b0020450801c37c401f14308479b34374470004108104215c785000082
def n32 : Nat := 0x48004041b857810000802850c20c60050050c20c00ed0010000820c8004040b8578100009a100683083641b9221854c0c04bd5c4012f560010404bd0c1042012f541004bd4c0041012f420410804bd440401b8b20f34c0c02fd38004100bf430820802fd30004100bf420820802fd2802473032000410c000218004108000781500008200308202e0018384408380ef0c0002
def Yk0 : S := zS [(zS [] X1x)] n32
theorem Yr3 : X1 Tryz.prog 32 2 Yk0 [.t 4] = true := by kernel_rfl
def n97 : Nat := 0x4800406cb05780bab988aa809c3819bda40041066f431450819bd9c0041066f421450819bd94002e91f22384b0c17fd88004105ff431040817fd80004105ff421040817fd78002e75821c68b0c163d6c0041058f430c308163d640041058f420c308163d5c002e5912154cb0c147d500041051f4308208147d480041051f4208208147d40002e3ca20e30b0c12bd34004104af430410812bd2c004104af420410812bd2402062c31c00410c0002140041080002a4000200308202e0018b84408b80ef0c0002
def Ykp : S := zS [] n97
theorem Ypt : X1 Tryz.prog 97 2 Ykp [.t 4] = true := by kernel_rfl
def Xzr : Nat := 0x10050400d019e083b4f0031507830000c8004040b8578100009910064504011850c0d700165f4c00557d654118500159e4910461400127892070c61440810090020450801c338400e14100434b34330400014c784000082
def n98 : Nat := 0x48004041b857810000802850400c60050050400c00ed0010000820c8004040b8578100008a10028100324730320404018400778500008200100202e15e040002
def Yh4 : S := zS [(zS [] Xzr)] n98
theorem Ypl : X1 Tryz.prog 98 2 Yh4 [.t 4] = true := by kernel_rfl
end Go.Proofs.YtanpgmgkmfckaaaGreatDoor
/- The same statements with their regions folded into expressions, printed by the fold itself; that they are that is checked by the kernel. No condition. -/
namespace Go.Proofs.YtanpgmgkmfckaaaGreatDoor
open Go Go.Ab
set_option maxRecDepth 100000
def Xio : S2 := zL [28] [] X1w
def Xtx := by
 have h := Eq.refl Xio
 conv at h => rhs; cbv
 exact h
def Xj5 : S2 := zL [28] [] Xz6
def Xqt := by
 have h := Eq.refl Xj5
 conv at h => rhs; cbv
 exact h
def Xlh : S2 := zL [28] [] X0f
def Xu6 := by
 have h := Eq.refl Xlh
 conv at h => rhs; cbv
 exact h
def Xi3 : S2 := zL [28] [] X0i
def Xui := by
 have h := Eq.refl Xi3
 conv at h => rhs; cbv
 exact h
def Xj0 : S2 := zL [28] [] X1e
def Xuw := by
 have h := Eq.refl Xj0
 conv at h => rhs; cbv
 exact h
def Yhf : S2 := zL [28] [Xj0, Xi3, Xlh, Xj5, Xio] n11
def Yny := by
 have h := fun (a b c d e : S2) => Eq.refl (zL [28] [a, b, c, d, e] n11)
 conv at h => intro a b c d e; rhs; cbv
 have e : Yhf = _ := h Xj0 Xi3 Xlh Xj5 Xio
 exact e
theorem Ynt : Yc9.lift [28] = some Yhf := by kernel_rfl
def Xl4 : S2 := zL [] [] X11
def Xsu := by
 have h := Eq.refl Xl4
 conv at h => rhs; cbv
 exact h
def Yjv : S2 := zL [] [Xl4] n28
def Yst := by
 have h := fun (a : S2) => Eq.refl (zL [] [a] n28)
 conv at h => intro a; rhs; cbv
 have e : Yjv = _ := h Xl4
 exact e
theorem Ypy : Ye1.lift [] = some Yjv := by kernel_rfl
def Xko : S2 := zL [] [] Xzs
def Xtu := by
 have h := Eq.refl Xko
 conv at h => rhs; cbv
 exact h
def Xjw : S2 := zL [] [] Xzn
def Xtd := by
 have h := Eq.refl Xjw
 conv at h => rhs; cbv
 exact h
def Xjb : S2 := zL [] [] Xzo
def Xv7 := by
 have h := Eq.refl Xjb
 conv at h => rhs; cbv
 exact h
def Yj4 : S2 := zL [] [Xjb, Xjw, Xko] n30
def Yno := by
 have h := fun (a b c : S2) => Eq.refl (zL [] [a, b, c] n30)
 conv at h => intro a b c; rhs; cbv
 have e : Yj4 = _ := h Xjb Xjw Xko
 exact e
theorem Ypc : Yes.lift [] = some Yj4 := by kernel_rfl
def Xl8 : S2 := zL [28, 97, 98] [] X1q
def Xst := by
 have h := Eq.refl Xl8
 conv at h => rhs; cbv
 exact h
def Xkx : S2 := zL [28, 97, 98] [] X0o
def Xwf := by
 have h := Eq.refl Xkx
 conv at h => rhs; cbv
 exact h
def Ymu : S2 := zL [28, 97, 98] [Xkx, Xl8] n29
def Yon := by
 have h := fun (a b : S2) => Eq.refl (zL [28, 97, 98] [a, b] n29)
 conv at h => intro a b; rhs; cbv
 have e : Ymu = _ := h Xkx Xl8
 exact e
theorem Yq2 : Yk5.lift [28, 97, 98] = some Ymu := by kernel_rfl
def Xka : S2 := zL [] [] X1r
def Xwo := by
 have h := Eq.refl Xka
 conv at h => rhs; cbv
 exact h
def Yhx : S2 := zL [] [Xka] n31
def Yqr := by
 have h := fun (a : S2) => Eq.refl (zL [] [a] n31)
 conv at h => intro a; rhs; cbv
 have e : Yhx = _ := h Xka
 exact e
theorem Ypg : Ylf.lift [] = some Yhx := by kernel_rfl
def Xli : S2 := zL [] [] X1x
def Xss := by
 have h := Eq.refl Xli
 conv at h => rhs; cbv
 exact h
def Yhr : S2 := zL [] [Xli] n32
def Yqs := by
 have h := fun (a : S2) => Eq.refl (zL [] [a] n32)
 conv at h => intro a; rhs; cbv
 have e : Yhr = _ := h Xli
 exact e
theorem Yqk : Yk0.lift [] = some Yhr := by kernel_rfl
def Yk1 : S2 := zL [28] [] n97
def Ysc := by
 have h := Eq.refl Yk1
 conv at h => rhs; cbv
 exact h
theorem Yrw : Ykp.lift [28] = some Yk1 := by kernel_rfl
def Xk6 : S2 := zL [] [] Xzr
def Xq9 := by
 have h := Eq.refl Xk6
 conv at h => rhs; cbv
 exact h
def Yhc : S2 := zL [] [Xk6] n98
def Yr2 := by
 have h := fun (a : S2) => Eq.refl (zL [] [a] n98)
 conv at h => intro a; rhs; cbv
 have e : Yhc = _ := h Xk6
 exact e
theorem Yr9 : Yh4.lift [] = some Yhc := by kernel_rfl
end Go.Proofs.YtanpgmgkmfckaaaGreatDoor
/- Further equations of folded expressions; loops that count. Over any program; no condition. -/
namespace Go.Ab
open Go
section
variable (T : Tab) (sl : Xc) (ob : Objs) (x y : E) (n z : Nat) (b : Bool) (ty : KT)
@[simp] theorem v_eqD : E.val T sl ob (.b (.eqD ty b (.t 0) (.t 1)) x y) = X6p b (x.val T sl ob) (y.val T sl ob) := by simp [E.val]
@[simp] theorem o_eqD : E.ok T sl ob (.b (.eqD ty b (.t 0) (.t 1)) x y) = (x.ok T sl ob ∧ y.ok T sl ob ∧ X98 ty (x.val T sl ob) (y.val T sl ob)) := by simp [E.ok]
end
theorem ALoop.upto {keep : List Nat} {body : W7 → Xc → Objs → Prop} {Q : W7} {sl : Xc} {ob : Objs} (n : Nat) (S : Nat → Xc) (O : Nat → Objs) (I : Nat → Prop) (h0 : I 0) (hs : Xi sl keep = S 0) (ho : ob = O 0)
  (step : ∀ k, k < n → I k → ∀ R : W7, (∀ kp sl' ob', I (k + 1) → Xi sl' keep = S (k + 1) → Z6 (young (fresh (O k)) kp) ob' = O (k + 1) → Q7 (young (fresh (O k)) kp) (S (k + 1)) = true → noMenO (young (fresh (O k)) kp) (O (k + 1)) = true → R .normal sl' ob') →
   (∀ n sl' ob', Q (.exit n) sl' ob' → R (.exit n) sl' ob') → (∀ sl' ob', Q .ret sl' ob' → R .ret sl' ob') → (∀ v sl' ob', Q (.panic v) sl' ob' → R (.panic v) sl' ob') → body R (S k) (O k))
  (done : I n → ∀ R : W7, (∀ n sl' ob', Q (.exit n) sl' ob' → R (.exit n) sl' ob') → (∀ sl' ob', Q .ret sl' ob' → R .ret sl' ob') → (∀ v sl' ob', Q (.panic v) sl' ob' → R (.panic v) sl' ob') → body R (S n) (O n)) : ALoop keep body Q sl ob := by
 refine ALoop.go (ι := Nat) S O (fun k => k ≤ n ∧ I k) (fun k => n - k) 0 ⟨Nat.zero_le _, h0⟩ hs ho fun k ⟨hk, hi⟩ R rn re rr rp => ?_
 rcases Nat.lt_or_ge k n with h | h
 ·exact step k h hi R (fun kp sl' ob' h1 h2 h3 h4 h5 => rn kp (k + 1) sl' ob' ⟨h, h1⟩ (by omega) h2 h3 h4 h5) re rr rp
 ·obtain rfl : k = n := Nat.le_antisymm hk h
  exact done hi R re rr rp
end Go.Ab
/- Contract: the reference's Same, at equal arguments. Condition: the program is the seat's. -/
namespace Go.Sx
open Go Go.Ab Go.Lx
def X95 (ok : D → Prop) : Ab.Fn := ⟨fun vs => ∃ d, ok d ∧ vs = [.d d, .d d], fun _ => .d (.bool true)⟩
@[simp] theorem fnEq_val (ok : D → Prop) (vs : List V) : (X95 ok).val vs = .d (.bool true) := rfl
@[simp] theorem fnEq_pre (ok : D → Prop) (a b : D) : (X95 ok).pre [.d a, .d b] = (a = b ∧ ok a) := by
 rw [eq_iff_iff]
 constructor
 ·rintro ⟨d, h, e⟩; cases e; exact ⟨rfl, h⟩
 ·rintro ⟨rfl, h⟩; exact ⟨a, h, rfl⟩
def Xqn (d : D) : Prop := ∃ l : List B, d = X4 l ∧ l.length ≤ 9223372036854775807
def Xz2 (d : D) : Prop := ∃ l : List Int, d = Jl l ∧ l.length ≤ 9223372036854775807
def X02 (d : D) : Prop := ∃ t : RType, d = t.enc ∧ t.names.length ≤ 9223372036854775807
theorem Xab {l : List B} (h : l.length ≤ 9223372036854775807) : Xqn (.list 1 (l.map .str)) := ⟨l, rfl, h⟩
theorem Xut {l : List Int} (h : l.length ≤ 9223372036854775807) : Xz2 (.list 1 (l.map iD)) := ⟨l, rfl, h⟩
theorem Xsm {t : RType} (h : t.names.length ≤ 9223372036854775807) : X02 (.agg [iD t.kind, iD t.lo, iD t.hi, .str t.of_, iD t.unit, .list 1 (t.names.map .str)]) := ⟨t, rfl, h⟩
mutual
theorem Z0 : ∀ x : D, D.eqb x x = true
 | .int .. | .bool .. | .str .. | .nils | .nili | .nilp | .nilf | .nilm => by simp [D.eqb]
 | .list z a => by simp [D.eqb, Ui a]
 | .agg a => by simp only [D.eqb, Ui a]
 | .ref a => by simp only [D.eqb, Z0 a]
 | .iface t a => by simp [D.eqb, Z0 a]
 | .fn f a b => by simp [D.eqb, Ui a, Ui b]
theorem Ui : ∀ x : List D, D.eqbs x x = true
 | [] => by simp only [D.eqbs]
 | x :: r => by simp [D.eqbs, Z0 x, Ui r]
end
end Go.Sx
namespace Go.Proofs.YtanpgmgkmfckaaaGreatDoor
open Go Go.Ab Go.Lx Go.Sx
set_option maxRecDepth 100000
section
variable {P : Prg} (hP : P.p = Tryz.prog)
include hP
theorem Xjo {l : List B} (hl : l.length ≤ 9223372036854775807) {ob : Objs} {K : V → Prop} (h : K (.d (.bool true))) : PCall P 28 [.d (X4 l), .d (X4 l)] ob K := by
 refine pcall_lift hP mixed (ds := [X4 l, X4 l]) Yjs Ypy TOk.nil ?_
 simp [Yst, X4]
 refine ALoop.go (ι := Nat) (fun k => [(0, .d (X4 l)), (1, .d (X4 l)), (5, .d (.int .i64 k))]) (fun _ => []) (fun k => k ≤ l.length) (fun k => l.length - k) 0 (by simp) (by simp [X4]) (by simp) ?_
 intro k hk R rn re rr rp
 by_cases hlt : k < l.length
 ·simp [Xsu, hlt, X4]
  refine rn [] (k + 1) _ _ (by omega) (by omega) ?_ (by simp [young]) (by simp [young]) (by simp [young])
  simp [X4]
  exact IntWalk.i64_in _ (by omega)
 ·obtain rfl : k = l.length := by omega
  simp [Xsu, X4]
  refine re _ _ _ ?_
  simp
  exact h
theorem Xpf {l : List Int} (hl : l.length ≤ 9223372036854775807) {ob : Objs} {K : V → Prop} (h : K (.d (.bool true))) : PCall P 98 [.d (Jl l), .d (Jl l)] ob K := by
 refine pcall_lift hP mixed (ds := [Jl l, Jl l]) Ypl Yr9 TOk.nil ?_
 simp [Yr2, Jl]
 refine ALoop.go (ι := Nat) (fun k => [(0, .d (Jl l)), (1, .d (Jl l)), (5, .d (.int .i64 k))]) (fun _ => []) (fun k => k ≤ l.length) (fun k => l.length - k) 0 (by simp) (by simp [Jl]) (by simp) ?_
 intro k hk R rn re rr rp
 by_cases hlt : k < l.length
 ·simp [Xq9, hlt, Jl]
  refine rn [] (k + 1) _ _ (by omega) (by omega) ?_ (by simp [young]) (by simp [young]) (by simp [young])
  simp [Jl]
  exact IntWalk.i64_in _ (by omega)
 ·obtain rfl : k = l.length := by omega
  simp [Xq9, Jl]
  refine re _ _ _ ?_
  simp
  exact h
theorem Qs : PFn P 28 (X95 Xqn) := by
 rintro vs ⟨d, ⟨l, rfl, hl⟩, rfl⟩ ob K h
 exact Xjo hP hl h
theorem Xo4 : PFn P 98 (X95 Xz2) := by
 rintro vs ⟨d, ⟨l, rfl, hl⟩, rfl⟩ ob K h
 exact Xpf hP hl h
theorem Xp1 {t : RType} (hl : t.names.length ≤ 9223372036854775807) {ob : Objs} {K : V → Prop} (h : K (.d (.bool true))) : PCall P 97 [.d t.enc, .d t.enc] ob K := by
 refine pcall_lift hP mixed (ds := [t.enc, t.enc]) Ypt Yrw (TOk.cons (Qs hP) TOk.nil) ?_
 simp [Ysc, RType.enc, X4, Xab hl]
 exact h
theorem Xo0 : PFn P 97 (X95 X02) := by
 rintro vs ⟨d, ⟨l, rfl, hl⟩, rfl⟩ ob K h
 exact Xp1 hP hl h
theorem Xfg {x : RPurpose} (hs : x.may.length ≤ 9223372036854775807) {ob : Objs} {K : V → Prop} (h : K (.d (.bool true))) : PCall P 32 [.d x.enc, .d x.enc] ob K := by
 refine pcall_lift hP mixed (ds := [x.enc, x.enc]) Yr3 Yqk TOk.nil ?_
 simp [Yqs, RPurpose.enc]
 refine ALoop.go (ι := Nat) (fun k => [(2, .ptr 0 []), (3, .ptr 1 []), (5, .d (.int .i64 k))]) (fun _ => [(1, .box 88 (.d x.enc)), (0, .box 88 (.d x.enc))]) (fun k => k ≤ x.may.length) (fun k => x.may.length - k) 0 (by simp) (by simp) (by simp [RPurpose.enc]) ?_
 intro k hk R rn re rr rp
 have hl := hs
 by_cases hlt : k < x.may.length
 ·simp [Xss, RPurpose.enc, hlt, RRef.enc, KT.fits, KT.fitss, Z0]
  refine rn [] (k + 1) _ _ (by omega) (by omega) ?_ (by simp [young, RPurpose.enc]) (by simp [young]) (by simp [young])
  simp
  exact IntWalk.i64_in _ (by omega)
 obtain rfl : k = x.may.length := by omega
 simp [Xss, RPurpose.enc]
 refine re _ _ _ ?_
 clear rn re rr rp
 simp
 exact h
theorem Xfk {x : RConvert} (hs : x.moves.length ≤ 9223372036854775807) {ob : Objs} {K : V → Prop} (h : K (.d (.bool true))) : PCall P 31 [.d x.enc, .d x.enc] ob K := by
 refine pcall_lift hP mixed (ds := [x.enc, x.enc]) Ynu Ypg TOk.nil ?_
 simp [Yqr, RConvert.enc]
 refine ALoop.go (ι := Nat) (fun k => [(2, .ptr 0 []), (3, .ptr 1 []), (5, .d (.int .i64 k))]) (fun _ => [(1, .box 84 (.d x.enc)), (0, .box 84 (.d x.enc))]) (fun k => k ≤ x.moves.length) (fun k => x.moves.length - k) 0 (by simp) (by simp) (by simp [RConvert.enc]) ?_
 intro k hk R rn re rr rp
 have hl := hs
 by_cases hlt : k < x.moves.length
 ·simp [Xwo, RConvert.enc, hlt, RMove.enc, KT.fits, KT.fitss, Z0]
  refine rn [] (k + 1) _ _ (by omega) (by omega) ?_ (by simp [young, RConvert.enc]) (by simp [young]) (by simp [young])
  simp
  exact IntWalk.i64_in _ (by omega)
 obtain rfl : k = x.moves.length := by omega
 simp [Xwo, RConvert.enc]
 refine re _ _ _ ?_
 clear rn re rr rp
 simp
 exact h
theorem Xpd {x : RRule} (hs : x.small) {ob : Objs} {K : V → Prop} (h : K (.d (.bool true))) : PCall P 30 [.d x.enc, .d x.enc] ob K := by
 refine pcall_lift hP mixed (ds := [x.enc, x.enc]) Yi2 Ypc TOk.nil ?_
 simp [Yno, RRule.enc]
 refine ALoop.go (ι := Nat) (fun k => [(2, .ptr 0 []), (3, .ptr 1 []), (5, .d (.int .i64 k))]) (fun _ => [(1, .box 50 (.d x.enc)), (0, .box 50 (.d x.enc))]) (fun k => k ≤ x.froms.length) (fun k => x.froms.length - k) 0 (by simp) (by simp) (by simp [RRule.enc]) ?_
 intro k hk R rn re rr rp
 have hl := hs.froms
 by_cases hlt : k < x.froms.length
 ·simp [Xv7, RRule.enc, hlt, RFrom.enc, RTerm.enc, KT.fits, KT.fitss, Z0]
  refine rn [] (k + 1) _ _ (by omega) (by omega) ?_ (by simp [young, RRule.enc]) (by simp [young]) (by simp [young])
  simp
  exact IntWalk.i64_in _ (by omega)
 obtain rfl : k = x.froms.length := by omega
 simp [Xv7, RRule.enc]
 refine re _ _ _ ?_
 clear rn re rr rp
 simp
 refine ALoop.go (ι := Nat) (fun k => [(2, .ptr 0 []), (3, .ptr 1 []), (6, .d (.int .i64 k))]) (fun _ => [(1, .box 50 (.d x.enc)), (0, .box 50 (.d x.enc))]) (fun k => k ≤ x.wheres.length) (fun k => x.wheres.length - k) 0 (by simp) (by simp) (by simp [RRule.enc]) ?_
 intro k hk R rn re rr rp
 have hl := hs.wheres
 by_cases hlt : k < x.wheres.length
 ·simp [Xtd, RRule.enc, hlt, RAtom.enc, RTerm.enc, KT.fits, KT.fitss, Z0]
  refine rn [] (k + 1) _ _ (by omega) (by omega) ?_ (by simp [young, RRule.enc]) (by simp [young]) (by simp [young])
  simp
  exact IntWalk.i64_in _ (by omega)
 obtain rfl : k = x.wheres.length := by omega
 simp [Xtd, RRule.enc]
 refine re _ _ _ ?_
 clear rn re rr rp
 simp
 refine ALoop.go (ι := Nat) (fun k => [(2, .ptr 0 []), (3, .ptr 1 []), (7, .d (.int .i64 k))]) (fun _ => [(1, .box 50 (.d x.enc)), (0, .box 50 (.d x.enc))]) (fun k => k ≤ x.sets.length) (fun k => x.sets.length - k) 0 (by simp) (by simp) (by simp [RRule.enc]) ?_
 intro k hk R rn re rr rp
 have hl := hs.sets
 by_cases hlt : k < x.sets.length
 ·simp [Xtu, RRule.enc, hlt, RSet.enc, RTerm.enc, KT.fits, KT.fitss, Z0]
  refine rn [] (k + 1) _ _ (by omega) (by omega) ?_ (by simp [young, RRule.enc]) (by simp [young]) (by simp [young])
  simp
  exact IntWalk.i64_in _ (by omega)
 obtain rfl : k = x.sets.length := by omega
 simp [Xtu, RRule.enc]
 refine re _ _ _ ?_
 clear rn re rr rp
 simp
 exact h
theorem Xg0 {x : RSchema} (hs : x.small) {ob : Objs} {K : V → Prop} (h : K (.d (.bool true))) : PCall P 29 [.d x.enc, .d x.enc] ob K := by
 refine pcall_lift hP mixed (ds := [x.enc, x.enc]) Yq4 Yq2 (TOk.cons (Xo0 hP) (TOk.cons (Qs hP) (TOk.cons (Xo4 hP) TOk.nil))) ?_
 simp [Yon, RSchema.enc]
 refine ALoop.go (ι := Nat) (fun k => [(2, .ptr 0 []), (3, .ptr 1 []), (5, .d (.int .i64 k))]) (fun _ => [(1, .box 79 (.d x.enc)), (0, .box 79 (.d x.enc))]) (fun k => k ≤ x.fields.length) (fun k => x.fields.length - k) 0 (by simp) (by simp) (by simp [RSchema.enc]) ?_
 intro k hk R rn re rr rp
 have hl := hs.fields
 by_cases hlt : k < x.fields.length
 ·have hn := Xsm (hs.names _ (List.getElem_mem hlt))
  simp [Xwf, RSchema.enc, hlt, RField.enc, RType.enc, X4, Z0, hn, KT.fits, KT.fitsA]
  refine rn [] (k + 1) _ _ (by omega) (by omega) ?_ (by simp [young, RSchema.enc]) (by simp [young]) (by simp [young])
  simp
  exact IntWalk.i64_in _ (by omega)
 obtain rfl : k = x.fields.length := by omega
 simp [Xwf, RSchema.enc]
 refine re _ _ _ ?_
 clear rn re rr rp
 simp
 refine ALoop.go (ι := Nat) (fun k => [(2, .ptr 0 []), (3, .ptr 1 []), (6, .d (.int .i64 k))]) (fun _ => [(1, .box 79 (.d x.enc)), (0, .box 79 (.d x.enc))]) (fun k => k ≤ x.depends.length) (fun k => x.depends.length - k) 0 (by simp) (by simp) (by simp [RSchema.enc]) ?_
 intro k hk R rn re rr rp
 have hl := hs.depends
 by_cases hlt : k < x.depends.length
 ·have hd := hs.deps _ (List.getElem_mem hlt)
  have hn1 := Xab hd.names
  have hn2 := Xut hd.from_
  simp [Xst, RSchema.enc, hlt, RDepend.enc, X4, Jl, hn1, hn2]
  refine rn [] (k + 1) _ _ (by omega) (by omega) ?_ (by simp [young, RSchema.enc]) (by simp [young]) (by simp [young])
  simp
  exact IntWalk.i64_in _ (by omega)
 obtain rfl : k = x.depends.length := by omega
 simp [Xst, RSchema.enc]
 refine re _ _ _ ?_
 clear rn re rr rp
 simp
 exact h
theorem X06 {x : RSrc} (hs : x.small) {ob : Objs} {K : V → Prop} (h : K (.d (.bool true))) : PCall P 11 [.d x.enc, .d x.enc] ob K := by
 refine pcall_lift hP mixed (ds := [x.enc, x.enc]) Yg6 Ynt (TOk.cons (Qs hP) TOk.nil) ?_
 simp [Yny, RSrc.enc, X4, Xab hs.issuers]
 refine ALoop.go (ι := Nat) (fun k => [(2, .ptr 0 []), (3, .ptr 1 []), (5, .d (.int .i64 k))]) (fun _ => [(1, .box 30 (.d x.enc)), (0, .box 30 (.d x.enc))]) (fun k => k ≤ x.units.length) (fun k => x.units.length - k) 0 (by simp) (by simp) (by simp [RSrc.enc, X4]) ?_
 intro k hk R rn re rr rp
 have hl := hs.units
 by_cases hlt : k < x.units.length
 ·simp [Xuw, RSrc.enc, X4, hlt, RUnit.enc, KT.fits, KT.fitss, Z0]
  refine rn [] (k + 1) _ _ (by omega) (by omega) ?_ (by simp [young, RSrc.enc, X4]) (by simp [young]) (by simp [young])
  simp
  exact IntWalk.i64_in _ (by omega)
 obtain rfl : k = x.units.length := by omega
 simp [Xuw, RSrc.enc, X4]
 refine re _ _ _ ?_
 clear rn re rr rp
 simp
 refine ALoop.go (ι := Nat) (fun k => [(2, .ptr 0 []), (3, .ptr 1 []), (6, .d (.int .i64 k))]) (fun _ => [(1, .box 30 (.d x.enc)), (0, .box 30 (.d x.enc))]) (fun k => k ≤ x.schemas.length) (fun k => x.schemas.length - k) 0 (by simp) (by simp) (by simp [RSrc.enc, X4]) ?_
 intro k hk R rn re rr rp
 have hl := hs.schemas
 by_cases hlt : k < x.schemas.length
 ·simp [Xui, RSrc.enc, X4, hlt, RSchema.enc]
  refine Xg0 (x := x.schemas[k]) hP (hs.schema _ (List.getElem_mem hlt)) ?_
  simp
  refine rn [] (k + 1) _ _ (by omega) (by omega) ?_ (by simp [young, RSrc.enc, X4]) (by simp [young]) (by simp [young])
  simp
  exact IntWalk.i64_in _ (by omega)
 obtain rfl : k = x.schemas.length := by omega
 simp [Xui, RSrc.enc, X4]
 refine re _ _ _ ?_
 clear rn re rr rp
 simp
 refine ALoop.go (ι := Nat) (fun k => [(2, .ptr 0 []), (3, .ptr 1 []), (7, .d (.int .i64 k))]) (fun _ => [(1, .box 30 (.d x.enc)), (0, .box 30 (.d x.enc))]) (fun k => k ≤ x.rules.length) (fun k => x.rules.length - k) 0 (by simp) (by simp) (by simp [RSrc.enc, X4]) ?_
 intro k hk R rn re rr rp
 have hl := hs.rules
 by_cases hlt : k < x.rules.length
 ·simp [Xu6, RSrc.enc, X4, hlt, RRule.enc]
  refine Xpd (x := x.rules[k]) hP (hs.rule _ (List.getElem_mem hlt)) ?_
  simp
  refine rn [] (k + 1) _ _ (by omega) (by omega) ?_ (by simp [young, RSrc.enc, X4]) (by simp [young]) (by simp [young])
  simp
  exact IntWalk.i64_in _ (by omega)
 obtain rfl : k = x.rules.length := by omega
 simp [Xu6, RSrc.enc, X4]
 refine re _ _ _ ?_
 clear rn re rr rp
 simp
 refine ALoop.go (ι := Nat) (fun k => [(2, .ptr 0 []), (3, .ptr 1 []), (8, .d (.int .i64 k))]) (fun _ => [(1, .box 30 (.d x.enc)), (0, .box 30 (.d x.enc))]) (fun k => k ≤ x.converts.length) (fun k => x.converts.length - k) 0 (by simp) (by simp) (by simp [RSrc.enc, X4]) ?_
 intro k hk R rn re rr rp
 have hl := hs.converts
 by_cases hlt : k < x.converts.length
 ·simp [Xqt, RSrc.enc, X4, hlt, RConvert.enc]
  refine Xfk (x := x.converts[k]) hP (hs.moves _ (List.getElem_mem hlt)) ?_
  simp
  refine rn [] (k + 1) _ _ (by omega) (by omega) ?_ (by simp [young, RSrc.enc, X4]) (by simp [young]) (by simp [young])
  simp
  exact IntWalk.i64_in _ (by omega)
 obtain rfl : k = x.converts.length := by omega
 simp [Xqt, RSrc.enc, X4]
 refine re _ _ _ ?_
 clear rn re rr rp
 simp
 refine ALoop.go (ι := Nat) (fun k => [(2, .ptr 0 []), (3, .ptr 1 []), (9, .d (.int .i64 k))]) (fun _ => [(1, .box 30 (.d x.enc)), (0, .box 30 (.d x.enc))]) (fun k => k ≤ x.purposes.length) (fun k => x.purposes.length - k) 0 (by simp) (by simp) (by simp [RSrc.enc, X4]) ?_
 intro k hk R rn re rr rp
 have hl := hs.purposes
 by_cases hlt : k < x.purposes.length
 ·simp [Xtx, RSrc.enc, X4, hlt, RPurpose.enc]
  refine Xfg (x := x.purposes[k]) hP (hs.may _ (List.getElem_mem hlt)) ?_
  simp
  refine rn [] (k + 1) _ _ (by omega) (by omega) ?_ (by simp [young, RSrc.enc, X4]) (by simp [young]) (by simp [young])
  simp
  exact IntWalk.i64_in _ (by omega)
 obtain rfl : k = x.purposes.length := by omega
 simp [Xtx, RSrc.enc, X4]
 refine re _ _ _ ?_
 clear rn re rr rp
 simp
 exact h
end
end Go.Proofs.YtanpgmgkmfckaaaGreatDoor
/- Plain laws of the lexer: X05, names. No program. -/
namespace Go.Lx
open Go Go.Ab
theorem Vx {p : UInt8 → Bool} : ∀ {r : List UInt8} {x : UInt8}, x ∈ r.takeWhile p → p x = true
 | [], x, h => by simp at h
 | c :: r, x, h => by
  simp only [List.takeWhile_cons] at h
  split at h
  ·rcases List.mem_cons.1 h with rfl | h
   ·assumption
   ·exact Vx h
  ·cases h
theorem Xvi {s : List UInt8} : nameB s = true ↔ ∃ c r, s = c :: r ∧ Zt c = true ∧ (∀ x ∈ r, Yg x = true) ∧ r.length + 1 ≤ 32 := by
 cases s with
 | nil => simp [nameB]
 | cons c r =>
  have hp : Zt c = true → Yg c = true := by
   intro h; simp only [Zt, Yg, Vy] at h ⊢; simp [h]
  simp only [nameB, List.length_cons, List.getD_cons_zero, Bool.and_eq_true, decide_eq_true_eq, List.all_cons, List.all_eq_true, List.cons.injEq, Zt] at *
  constructor
  ·rintro ⟨⟨⟨_, h1⟩, h2⟩, h3, h4⟩
   exact ⟨c, r, ⟨rfl, rfl⟩, h2, h4, h1⟩
  ·rintro ⟨c', r', ⟨rfl, rfl⟩, h2, h4, h1⟩
   exact ⟨⟨⟨by omega, h1⟩, h2⟩, hp h2, h4⟩
end Go.Lx
/- Plain laws of the lexer: words, numbers, what is printed is read again. No program. -/
namespace Go.Lx
open Go Go.Ab
theorem Xcn {c : UInt8} (h : Xw c = true) : 48 ≤ c.toNat ∧ c.toNat ≤ 57 := by
 simp only [Xw, Zm, decide_eq_true_eq] at h; omega
theorem Xrg {c : UInt8} {m : Nat} (h : Xw c = true) (hm : m % 10 = c.toNat - 48) : X6w m = c := by
 have := Xcn h
 apply UInt8.toNat_inj.1
 rw [Xxu]; omega
theorem Xgy : ∀ (t : List UInt8) (m : Nat) (n : Int), (∀ c ∈ t, Xw c = true) → 0 < m → m ≤ 1099511627776 → W5 m t = some n → ∃ N : Nat, n = N ∧ N ≤ 1099511627776 ∧ Lib.decDigits N = Lib.decDigits m ++ t
 | [], m, n, _, _, h1, h => by
  simp only [W5, Option.some.injEq] at h
  exact ⟨m, h.symm, h1, by simp⟩
 | c :: r, m, n, hd, h0, h1, h => by
  have hc := Xcn (hd c (by simp))
  rw [W5] at h
  split at h
  ·cases h
  ·rename_i hle
   have e : (10 * (m : Int) + ((c.toNat : Int) - 48)) = ((10 * m + (c.toNat - 48) : Nat) : Int) := by omega
   rw [e] at h hle
   obtain ⟨N, n1, n2, n3⟩ := Xgy r (10 * m + (c.toNat - 48)) n (fun x hx => hd x (by simp [hx])) (by omega) (by omega) h
   refine ⟨N, n1, n2, ?_⟩
   rw [n3, Yv (10 * m + (c.toNat - 48)), if_neg (by omega), Xrg (hd c (by simp)) (by omega)]
   have : (10 * m + (c.toNat - 48)) / 10 = m := by omega
   rw [this]; simp
theorem Xsy {c : UInt8} {r : List UInt8} {n : Int} (hc : Xw c = true) (hr : ∀ x ∈ r, Xw x = true) (h : Jk (c :: r) = some n) : 0 ≤ n ∧ n ≤ 1099511627776 ∧ Lib.itoa n = c :: r := by
 have hb := Xcn hc
 unfold Jk at h
 split at h
 ·cases h
 ·rename_i n' hg
  split at h
  ·rename_i hz
   simp only [Option.some.injEq] at h
   subst h
   rw [W5] at hg
   split at hg
   ·cases hg
   ·have e : (10 * (0 : Int) + ((c.toNat : Int) - 48)) = ((c.toNat - 48 : Nat) : Int) := by omega
    rw [e] at hg
    by_cases h48 : c.toNat = 48
    ·have hc48 : c = 48 := UInt8.toNat_inj.1 h48
     subst hc48
     simp at hz
     subst hz
     simp [W5] at hg
     subst hg
     refine ⟨by simp, by simp, ?_⟩
     have := Xfw 0
     rw [Yv] at this
     exact this
    ·obtain ⟨N, n1, n2, n3⟩ := Xgy r (c.toNat - 48) n' hr (by omega) (by omega) hg
     subst n1
     refine ⟨by omega, by omega, ?_⟩
     rw [Xfw, n3, Yv (c.toNat - 48), if_pos (by omega), Xrg hc (by omega)]; simp
  ·cases h
theorem Xre {c : UInt8} {r t : List UInt8} {k m : Int} {n : Nat} (h : stp c r = .tok k t m n) (i : Int) : validB ⟨k, t, m, i⟩ = true ∧ U9 ⟨k, t, m, i⟩ = (c :: r).take (n + 1) := by
 unfold stp at h
 split at h
 ·cases h
 ·split at h
  ·cases h
  ·split at h
   ·rename_i hc
    split at h
    ·rename_i hl
     cases h
     refine ⟨?_, ?_⟩
     ·have hN : nameB (c :: r.takeWhile Yg) = true := Xvi.2 ⟨c, _, rfl, hc, fun x hx => Vx hx, hl⟩
      simp [validB, hN]
     ·simp [U9]; exact Y6 Yg r
    ·cases h
   ·split at h
    ·rename_i hc
     split at h
     ·rename_i n' hn
      cases h
      obtain ⟨a1, a2, a3⟩ := Xsy hc (fun x hx => Vx hx) hn
      refine ⟨by simp [validB, a1, a2], ?_⟩
      simp [U9, a3]; exact Y6 Xw r
     ·cases h
    ·split at h
     ·rename_i hc
      cases h
      exact ⟨by simp [validB, hc], by simp [U9]⟩
     ·cases h
theorem Xfc (t : Tok) (l : List Tok) : (Zj (t :: l)).length ≤ (U9 t).length + 1 + (Zj l).length := by
 cases l with
 | nil => simp [Zj]
 | cons u l => simp only [Zj, List.length_append, List.length_cons]; omega
theorem Xps : ∀ s off, ∀ l, Wi s off = .ok l → (∀ t ∈ l, validB t = true) ∧ (Zj l).length ≤ 2 * s.length := by
 apply Xk7
 ·intro off l h; rw [J0] at h; cases h; simp [Zj]
 ·intro c r n off h hn ih l hl
  rw [Jb h] at hl
  obtain ⟨a, b⟩ := ih l hl
  refine ⟨a, ?_⟩
  simp at b ⊢; omega
 ·intro c r k t m n off h hn ih l hl
  rw [Xb3 h] at hl
  cases hr : Wi (r.drop n) (off + n + 1) with
  | err e => rw [hr] at hl; cases hl
  | ok l' =>
   rw [hr] at hl
   simp only [Xw4, Res.ok.injEq] at hl
   subst hl
   obtain ⟨a, b⟩ := ih l' hr
   obtain ⟨v1, v2⟩ := Xre h off
   refine ⟨fun u hu => ?_, ?_⟩
   ·rcases List.mem_cons.1 hu with rfl | hu
    ·exact v1
    ·exact a u hu
   ·have := Xfc ⟨k, t, m, off⟩ l'
    rw [v2] at this
    simp at this b ⊢; omega
 ·intro c r off h l hl; rw [Xfd h] at hl; cases hl
end Go.Lx
/- The abstract statements that stand for the code of these functions, written by a program from the translation; that they do is checked by the kernel. No condition. -/
namespace Go.Proofs.YtanpgmgkmfckaaaGreatDoor
open Go Go.Ab
set_option maxRecDepth 100000
end Go.Proofs.YtanpgmgkmfckaaaGreatDoor
/- The same statements with their regions folded into expressions, printed by the fold itself; that they are that is checked by the kernel. No condition. -/
namespace Go.Proofs.YtanpgmgkmfckaaaGreatDoor
open Go Go.Ab
set_option maxRecDepth 100000
end Go.Proofs.YtanpgmgkmfckaaaGreatDoor
/- The law SyntaxJoins. Condition: the program is the seat's; its package variables are laid. -/
namespace Go.Sx
open Go Go.Ab Go.Lx
theorem Xxv {x : Src} (h : x.wf) : x.raw.small := by
 have hf := h.few
 refine ⟨?_, ?_, ?_, ?_, ?_, ?_, ?_, ?_, ?_, ?_⟩
 ·have := hf.issuers; simp only [Src.raw]; omega
 ·have := hf.units; simp only [Src.raw, List.length_map]; omega
 ·have := hf.schemas; simp only [Src.raw, List.length_map]; omega
 ·have := hf.rules; simp only [Src.raw, List.length_map]; omega
 ·have := hf.converts; simp only [Src.raw, List.length_map]; omega
 ·have := hf.purposes; simp only [Src.raw, List.length_map]; omega
 ·intro y hy
  simp only [Src.raw, List.mem_map] at hy
  obtain ⟨s, hs, rfl⟩ := hy
  have hw := h.schemas s hs
  refine ⟨?_, ?_, ?_, ?_⟩
  ·have := hw.few; simp only [Schema.raw, List.length_map]; omega
  ·have := hw.less; simp only [Schema.raw, List.length_map]; omega
  ·intro f hf'
   simp only [Schema.raw, List.mem_map] at hf'
   obtain ⟨g, hg, rfl⟩ := hf'
   have ht := (hw.fields g hg).type
   obtain ⟨n, t, w⟩ := g
   cases t with
   | choice l =>
    have := ht.2.1
    simp only [Field.raw, TypeT.raw]; omega
   | _ => simp [Field.raw, TypeT.raw]
  ·intro f hf'
   simp only [Schema.raw, List.mem_map] at hf'
   obtain ⟨g, hg, rfl⟩ := hf'
   have := (hw.depends g hg).names.2.1
   exact ⟨by simp only [Depend.raw]; omega, by simp [Depend.raw]⟩
 ·intro y hy
  simp only [Src.raw, List.mem_map] at hy
  obtain ⟨s, hs, rfl⟩ := hy
  have hw := h.rules s hs
  refine ⟨?_, ?_, ?_⟩
  ·have := hw.few; simp only [Rule.raw, List.length_map]; omega
  ·have := hw.less; simp only [Rule.raw, List.length_map]; omega
  ·have := hw.least; simp only [Rule.raw, List.length_map]; omega
 ·intro y hy
  simp only [Src.raw, List.mem_map] at hy
  obtain ⟨s, hs, rfl⟩ := hy
  have := (h.converts s hs).few
  simp only [Convert.raw, List.length_map]; omega
 ·intro y hy
  simp only [Src.raw, List.mem_map] at hy
  obtain ⟨s, hs, rfl⟩ := hy
  have := (h.purposes s hs).few
  simp only [Purpose.raw, List.length_map]; omega
theorem Ydy {x : Src} (h : x.wf) : D.le x.enc x.raw.enc := Src.raw_le fun s hs f hf => ((h.schemas s hs).fields f hf).four
theorem Xiz (s : B) (hs : s.length ≤ 65536) : ∃ (d : D) (i e : Int), Qg s = .tup [.d d, .d (.int .i64 i), .d (.int .i64 e)] ∧ d.shape = .node [.leaf, .leaf, .leaf, .leaf, .leaf, .leaf] ∧
  ((e = 0 ∧ i = 0 ∧ ∃ l x, Wi s 0 = .ok l ∧ Zn l = .ok x [] ∧ d = x.enc ∧ x.wf) ∨ (e ≠ 0 ∧ d = Ua)) := by
 unfold Qg
 rw [if_neg (by omega)]
 cases hl : Wi s 0 with
 | err e => exact ⟨_, _, _, rfl, by simp [D.shape, D.shapes], .inr ⟨by decide, rfl⟩⟩
 | ok l =>
  cases hp : Zn l with
  | ok x r =>
   obtain rfl := Xa2 _ _ _ _ _ hp
   exact ⟨x.enc, 0, 0, by simp only [hp]; rfl, by simp [Src.enc, D.shape, D.shapes], .inl ⟨rfl, rfl, l, x, rfl, hp, rfl, Xyh (Xps _ _ _ hl).1 hp⟩⟩
  | err r e =>
   refine ⟨Ua, atI s.length r, Xch r e, by simp only [hp]; rfl, by simp [D.shape, D.shapes], .inr ⟨?_, rfl⟩⟩
   have he := (X05 hl hp).1
   cases r with
   | nil => simp [Xch]
   | cons t p => simp only [Xch]; rcases he with rfl | rfl <;> decide
end Go.Sx
namespace Go.Proofs.YtanpgmgkmfckaaaGreatDoor
open Go Go.Ab Go.Lx Go.Sx
set_option maxRecDepth 100000
section
variable {P : Prg} (hP : P.p = Tryz.prog)
include hP
theorem Xpo {x : Src} (hx : x.wf) {ob : Objs} {K : V → Prop} (h : K (.d (.bool true))) : PCall P 11 [.d x.enc, .d x.enc] ob K := by
 have hle := Ydy hx
 exact PCall.le (xs := [x.enc, x.enc]) (ys := [x.raw.enc, x.raw.enc]) (.cons hle (.cons hle .nil)) (X06 hP (Xxv hx) h)
variable (hI : Ivl P) (hG : Pow P)
include hI hG
end
end Go.Proofs.YtanpgmgkmfckaaaGreatDoor
/- The printer of sources: parts and their tokens. No program. -/
namespace Go.Sx
open Go Go.Ab Go.Lx
@[simp] theorem strsD_agg (l : List B) : (X4 l).isAgg = false := rfl
@[simp] theorem RTerm.enc_shape (t : RTerm) : t.enc.shape = .node [.leaf, .leaf, .leaf, .leaf, .leaf] := rfl
@[simp] theorem RType.enc_shape (t : RType) : t.enc.shape = .node [.leaf, .leaf, .leaf, .leaf, .leaf, .leaf] := rfl
def nmT (s : B) : Tok := ⟨1, s, 0, 0⟩
def sgT (s : B) : Tok := ⟨3, s, 0, 0⟩
def nuT (n : Int) : Tok := ⟨2, [], n, 0⟩
inductive Part where
 | word (s : B)
 | name (s : B)
 | sign (s : B)
 | num (n : Int)
 | names (l : List B)
 | weights (a b c d : Int)
 | type (t : RType)
 | term (t : RTerm)
def Part.few : Part → Prop
 | .names l => l.length ≤ 1000
 | .type t => t.names.length ≤ 1000
 | _ => True
def Part.enc : Part → D
 | .word s => .iface 101 (.str s)
 | .name s => .iface 9 (.str s)
 | .sign s => .iface 102 (.str s)
 | .num n => .iface 3 (iD n)
 | .names l => .iface 23 (X4 l)
 | .weights a b c d => .iface 91 (.agg [iD a, iD b, iD c, iD d])
 | .type t => .iface 90 t.enc
 | .term t => .iface 52 t.enc
def Xvf : List B → List Tok
 | [] => []
 | [a] => [nmT a]
 | a :: r => nmT a :: sgT [44] :: Xvf r
def Ydi (t : RTerm) : List Tok := if t.name = [] then [nuT t.n] else [nmT t.name, sgT [46], nmT t.path]
def Ybv (t : RType) : List Tok :=
 if t.kind = 1 then [nmT [110, 117, 109, 98, 101, 114], nuT t.lo, nmT [116, 111], nuT t.hi] ++ (if t.of_ = [] then [] else [nmT [105, 110], nmT t.of_])
 else if t.kind = 2 then [nmT [100, 97, 116, 101]]
 else if t.kind = 3 then [nmT [112, 101, 114, 115, 111, 110]]
 else if t.kind = 4 then nmT [99, 104, 111, 105, 99, 101] :: Xvf t.names
 else []
def Part.toks : Part → List Tok
 | .word s => [nmT s]
 | .name s => [nmT s]
 | .sign s => [sgT s]
 | .num n => [nuT n]
 | .names l => Xvf l
 | .weights a b c d => [nuT a, nuT b, nuT c, nuT d]
 | .type t => Ybv t
 | .term t => Ydi t
abbrev prO (ob : Objs) (p q : Nat) (ts : List Tok) : Objs := setO (setO ob q (.arr 44 4 (ts.map Tok.enc))) p (.box 99 (.agg [.sl q ts.length]))
structure Pr (ob : Objs) (p q : Nat) (ts : List Tok) : Prop where
 ne : p ≠ q
 p : lookO ob p = some (.box 99 (.agg [.sl q ts.length]))
 q : lookO ob q = some (.arr 44 4 (ts.map Tok.enc))
theorem Pr.self {ob : Objs} {p q : Nat} {ts : List Tok} (h : Pr ob p q ts) : prO ob p q ts = ob := by
 have h1 : setO ob q (.arr 44 4 (ts.map Tok.enc)) = ob := Ye h.q
 simp only [prO, h1]
 exact Ye h.p
theorem Xg2 {o o' : Ob} {i j : Nat} (h : i ≠ j) : ∀ ob : Objs, setO (setO ob i o) j o' = setO (setO ob j o') i o
 | [] => rfl
 | (k, y) :: r => by
  simp only [setO]
  by_cases h1 : k = i
  ·subst h1; simp [setO, h]
  ·by_cases h2 : k = j
   ·subst h2; simp [setO, h1]
   ·simp [setO, h1, h2, Xg2 h r]
theorem Pr.step {ob : Objs} {p q : Nat} {ts ts' : List Tok} (h : p ≠ q) : prO (prO ob p q ts) p q ts' = prO ob p q ts' := by
 simp only [prO]
 rw [Xg2 h, Xn7, Xn7]
theorem Pr.look {ob : Objs} {p q : Nat} {ts ts' : List Tok} (h : Pr ob p q ts) : Pr (prO ob p q ts') p q ts' := by
 have e : (p == q) = false := by simp [h.ne]
 have e' : (q == p) = false := by simpa using Ne.symm h.ne
 refine ⟨h.ne, ?_, ?_⟩
 ·simp [prO, e', h.p]
 ·simp [prO, e, h.q]
theorem Pr.cons {ob : Objs} {p q : Nat} {ts : List Tok} (h : Pr ob p q ts) (o : Ob) : Pr ((fresh ob, o) :: ob) p q ts := by
 have h1 := Xmv h.p
 have h2 := Xmv h.q
 have e1 : (fresh ob == p) = false := by simp; omega
 have e2 : (fresh ob == q) = false := by simp; omega
 exact ⟨h.ne, by rw [Xn6 _ _ _ _ e1]; exact h.p, by rw [Xn6 _ _ _ _ e2]; exact h.q⟩
end Go.Sx
/- The abstract statements that stand for the code of these functions, written by a program from the translation; that they do is checked by the kernel. No condition. -/
namespace Go.Proofs.YtanpgmgkmfckaaaGreatDoor
open Go Go.Ab
set_option maxRecDepth 100000
end Go.Proofs.YtanpgmgkmfckaaaGreatDoor
/- The same statements with their regions folded into expressions, printed by the fold itself; that they are that is checked by the kernel. No condition. -/
namespace Go.Proofs.YtanpgmgkmfckaaaGreatDoor
open Go Go.Ab
set_option maxRecDepth 100000
end Go.Proofs.YtanpgmgkmfckaaaGreatDoor
/- Contracts: the printer's put and kind. Condition: the program is the seat's. -/
namespace Go.Proofs.YtanpgmgkmfckaaaGreatDoor
open Go Go.Ab Go.Lx Go.Sx
set_option maxRecDepth 100000
set_option maxHeartbeats 4000000
section
variable {P : Prg} (hP : P.p = Tryz.prog)
include hP
end
end Go.Proofs.YtanpgmgkmfckaaaGreatDoor
/- The tokens of definitions; loops that print. No program. -/
namespace Go.Sx
open Go Go.Ab Go.Lx
abbrev wD (s : B) : Tok := nmT s
def Q3 (f : RField) : List Tok := [nmT [102, 105, 101, 108, 100], nmT f.name, sgT [58]] ++ Ybv f.type ++ [nuT f.w0, nuT f.w1, nuT f.w2, nuT f.w3, sgT [59]]
end Go.Sx
/- Contracts: the printer of schemas. Condition: the program is the seat's. -/
namespace Go.Proofs.YtanpgmgkmfckaaaGreatDoor
open Go Go.Ab Go.Lx Go.Sx
set_option maxRecDepth 100000
set_option maxHeartbeats 4000000
section
variable {P : Prg} (hP : P.p = Tryz.prog)
include hP
end
end Go.Proofs.YtanpgmgkmfckaaaGreatDoor
/- Contracts: the printers of rules and conversions. Condition: the program is the seat's. -/
namespace Go.Proofs.YtanpgmgkmfckaaaGreatDoor
open Go Go.Ab Go.Lx Go.Sx
set_option maxRecDepth 100000
set_option maxHeartbeats 4000000
section
variable {P : Prg} (hP : P.p = Tryz.prog)
include hP
end
end Go.Proofs.YtanpgmgkmfckaaaGreatDoor
/- What can be printed. No program. -/
namespace Go.Sx
open Go Go.Ab Go.Lx
def inB (lo hi n : Int) : Bool := decide (lo ≤ n) && decide (n ≤ hi)
def Ydr : Ab.Fn := ⟨fun vs => ∃ lo hi n, vs = [.d (.agg [iD lo, iD hi]), .d (iD n)], fun vs => match vs with | [.d (.agg [.int _ lo, .int _ hi]), .d (.int _ n)] => .d (.bool (inB lo hi n)) | _ => .any⟩
@[simp] theorem fnHas_val (lo hi n : Int) (a b c : IntKind) : Ydr.val [.d (.agg [.int a lo, .int b hi]), .d (.int c n)] = .d (.bool (inB lo hi n)) := rfl
end Go.Sx
/- The statements of syntax.all at its element types; that they stand for the code is checked by the kernel. No condition. -/
namespace Go.Proofs.YtanpgmgkmfckaaaGreatDoor
open Go Go.Ab
set_option maxRecDepth 100000
end Go.Proofs.YtanpgmgkmfckaaaGreatDoor
/- Contracts: syntax.all at its element types. Condition: the program is the seat's. -/
namespace Go.Proofs.YtanpgmgkmfckaaaGreatDoor
open Go Go.Ab Go.Lx Go.Sx
set_option maxRecDepth 100000
set_option maxHeartbeats 4000000
section
variable {P : Prg} (hP : P.p = Tryz.prog)
include hP
end
end Go.Proofs.YtanpgmgkmfckaaaGreatDoor
/- Contracts: what can be printed. Condition: the program is the seat's; its intervals are laid. -/
namespace Go.Proofs.YtanpgmgkmfckaaaGreatDoor
open Go Go.Ab Go.Lx Go.Sx
set_option maxRecDepth 100000
set_option maxHeartbeats 4000000
section
variable {P : Prg} (hP : P.p = Tryz.prog)
include hP
variable (hI : Ivl P)
include hI
end
end Go.Proofs.YtanpgmgkmfckaaaGreatDoor
/- The abstract statements that stand for the code of these functions, written by a program from the translation; that they do is checked by the kernel. No condition. -/
namespace Go.Proofs.YtanpgmgkmfckaaaGreatDoor
open Go Go.Ab
set_option maxRecDepth 100000
end Go.Proofs.YtanpgmgkmfckaaaGreatDoor
/- The same statements with their regions folded into expressions, printed by the fold itself; that they are that is checked by the kernel. No condition. -/
namespace Go.Proofs.YtanpgmgkmfckaaaGreatDoor
open Go Go.Ab
set_option maxRecDepth 100000
end Go.Proofs.YtanpgmgkmfckaaaGreatDoor
/- Contract: Print. Condition: the program is the seat's; its package variables are laid. -/
namespace Go.Sx
open Go Go.Ab Go.Lx
structure Pb (x : RSrc) : Prop where
 issuers : x.issuers.length ≤ 8
 units : x.units.length ≤ 16
 schemas : x.schemas.length ≤ 16
 rules : x.rules.length ≤ 16
 converts : x.converts.length ≤ 16
 purposes : x.purposes.length ≤ 8
 schema : ∀ s ∈ x.schemas, s.fields ≠ [] ∧ s.fields.length ≤ 12 ∧ (∀ f ∈ s.fields, f.type.names.length ≤ 16) ∧ s.depends.length ≤ 8 ∧ ∀ d ∈ s.depends, d.names.length ≤ 11
 rule : ∀ r ∈ x.rules, r.froms.length ≤ 3 ∧ r.wheres.length ≤ 8 ∧ r.sets.length ≤ 11
 convert : ∀ c ∈ x.converts, c.moves.length ≤ 11 ∧ ∀ m ∈ c.moves, -1048576 ≤ m.shift ∧ m.shift ≤ 1048576
 purpose : ∀ p ∈ x.purposes, p.may.length ≤ 32
end Go.Sx
namespace Go.Proofs.YtanpgmgkmfckaaaGreatDoor
open Go Go.Ab Go.Lx Go.Sx
set_option maxRecDepth 100000
set_option maxHeartbeats 4000000
section
variable {P : Prg} (hP : P.p = Tryz.prog) (hI : Ivl P) (hG : Pow P)
include hP hI hG
end
end Go.Proofs.YtanpgmgkmfckaaaGreatDoor
/- The abstract statements that stand for the code of these functions, written by a program from the translation; that they do is checked by the kernel. No condition. -/
namespace Go.Proofs.YtanpgmgkmfckaaaGreatDoor
open Go Go.Ab
set_option maxRecDepth 100000
end Go.Proofs.YtanpgmgkmfckaaaGreatDoor
/- The same statements with their regions folded into expressions, printed by the fold itself; that they are that is checked by the kernel. No condition. -/
namespace Go.Proofs.YtanpgmgkmfckaaaGreatDoor
open Go Go.Ab
set_option maxRecDepth 100000
end Go.Proofs.YtanpgmgkmfckaaaGreatDoor
/- Contracts: the reference's Unnumbered. Condition: the program is the seat's. -/
namespace Go.Sx
open Go Go.Ab Go.Lx
def Ybh : Ab.Fn := ⟨fun vs => ∃ t : RTerm, vs = [.d t.enc], fun vs => match vs with | [.d (.agg [.str a, .str b, _, _, .int _ n])] => .d (.agg [.str a, .str b, iD (if a = [] ∧ b = [] then -1 else 0), iD 0, iD n]) | _ => .any⟩
@[simp] theorem fnTerm_val (a b : B) (x y : D) (k : IntKind) (n : Int) : Ybh.val [.d (.agg [.str a, .str b, x, y, .int k n])] = .d (.agg [.str a, .str b, iD (if a = [] ∧ b = [] then -1 else 0), iD 0, iD n]) := rfl
end Go.Sx
namespace Go.Proofs.YtanpgmgkmfckaaaGreatDoor
open Go Go.Ab Go.Lx Go.Sx
set_option maxRecDepth 100000
set_option maxHeartbeats 4000000
section
variable {P : Prg} (hP : P.p = Tryz.prog)
include hP
end
end Go.Proofs.YtanpgmgkmfckaaaGreatDoor
/- What is printed of well-formed definitions is parsed back. No program. -/
namespace Go.Sx
open Go Go.Ab Go.Lx
end Go.Sx
/- Well-formed definitions can be printed; their text is read as they are. No program. -/
namespace Go.Sx
open Go Go.Ab Go.Lx
def Vd (l : List Tok) : Prop := ∀ t ∈ l, validB t = true
theorem Vd.nil : Vd [] := fun _ h => by cases h
theorem Vd.cons {t : Tok} {l : List Tok} (h : validB t = true) (h' : Vd l) : Vd (t :: l) := fun u hu => by
 rcases List.mem_cons.1 hu with rfl | hu
 ·exact h
 ·exact h' u hu
theorem Vd.app {a b : List Tok} (h : Vd a) (h' : Vd b) : Vd (a ++ b) := fun u hu => by
 rcases List.mem_append.1 hu with hu | hu
 ·exact h u hu
 ·exact h' u hu
theorem Vd.flat {α : Type} {f : α → List Tok} {l : List α} (h : ∀ x ∈ l, Vd (f x)) : Vd (l.flatMap f) := fun u hu => by
 obtain ⟨x, hx, hu⟩ := List.mem_flatMap.1 hu
 exact h x hx u hu
end Go.Sx
/- The abstract statements that stand for the code of these functions, written by a program from the translation; that they do is checked by the kernel. No condition. -/
namespace Go.Proofs.YtanpgmgkmfckaaaGreatDoor
open Go Go.Ab
set_option maxRecDepth 100000
end Go.Proofs.YtanpgmgkmfckaaaGreatDoor
/- The same statements with their regions folded into expressions, printed by the fold itself; that they are that is checked by the kernel. No condition. -/
namespace Go.Proofs.YtanpgmgkmfckaaaGreatDoor
open Go Go.Ab
set_option maxRecDepth 100000
end Go.Proofs.YtanpgmgkmfckaaaGreatDoor
/- The law SyntaxAgain. Condition: the program is the seat's; its package variables are laid. -/
namespace Go.Sx
open Go Go.Ab Go.Lx
def Xnu : RSrc := ⟨[], [], [], [], [], []⟩
theorem zero_le : D.le Ua Xnu.enc := D.le.agg (.cons (D.le.nil _) (.cons (D.le.nil _) (.cons (D.le.nil _) (.cons (D.le.nil _) (.cons (D.le.nil _) (.cons (D.le.nil _) .nil))))))
theorem Xpm : Xnu.small := ⟨by simp [Xnu], by simp [Xnu], by simp [Xnu], by simp [Xnu], by simp [Xnu], by simp [Xnu], by simp [Xnu], by simp [Xnu], by simp [Xnu], by simp [Xnu]⟩
end Go.Sx
namespace Go.Proofs.YtanpgmgkmfckaaaGreatDoor
open Go Go.Ab Go.Lx Go.Sx
set_option maxRecDepth 100000
set_option maxHeartbeats 1000000
section
variable {P : Prg} (hP : P.p = Tryz.prog)
include hP
theorem Xkj {ob : Objs} {K : V → Prop} (h : K (.d (.bool true))) : PCall P 11 [.d Ua, .d Ua] ob K :=
 PCall.le (xs := [Ua, Ua]) (ys := [Xnu.enc, Xnu.enc]) (.cons zero_le (.cons zero_le .nil)) (X06 hP Xpm h)
variable (hI : Ivl P) (hG : Pow P)
include hI hG
end
end Go.Proofs.YtanpgmgkmfckaaaGreatDoor
/- The reference's parser as plain functions of its state, and how it follows the parser of tokens. No program. -/
namespace Go.Sx
open Go Go.Ab Go.Lx
structure RP where
 l : List Tok
 n : Nat
 en : Int
 e : Int
 at_ : Int
def RP.enc (p : RP) : D := .agg [.list 4 (p.l.map Tok.enc), .int .i64 p.n, .int .i64 p.en, .int .i64 p.e, .int .i64 p.at_]
def RP.fail (p : RP) (e : Int) : RP := if p.e = 0 then (match p.l[p.n]? with | some t => ⟨p.l, p.n, p.en, e, t.at_⟩ | none => ⟨p.l, p.n, p.en, 100, p.en⟩) else p
def RP.is (p : RP) (k : Int) (t : B) : Bool := p.e == 0 && (match p.l[p.n]? with | some x => x.kind == k && x.text == t | none => false)
def RP.isK (p : RP) (k : Int) : Bool := p.e == 0 && (match p.l[p.n]? with | some x => x.kind == k | none => false)
def RP.next (p : RP) : RP := ⟨p.l, p.n + 1, p.en, p.e, p.at_⟩
def RP.expect (p : RP) (k : Int) (t : B) : RP := if p.is k t then p.next else p.fail 100
def RP.tok (p : RP) : Tok := p.l[p.n]?.getD default
def RP.name (p : RP) : B × RP := if p.isK 1 then (p.tok.text, p.next) else ([], p.fail 100)
def RP.number (p : RP) (lo hi : Int) : Int × RP := if p.isK 2 && decide (lo ≤ p.tok.n) && decide (p.tok.n ≤ hi) then (p.tok.n, p.next) else (0, p.fail 100)
def RP.room (p : RP) (many most : Int) : RP := if most ≤ many then p.fail 2 else p
abbrev RP.word (p : RP) (t : B) : RP := p.expect 1 t
abbrev RP.sign (p : RP) (t : B) : RP := p.expect 3 t
structure RP.At (L : List Tok) (en : Int) (p : RP) (ts : List Tok) : Prop where
 l : p.l = L
 en : p.en = en
 e : p.e = 0
 n : p.n ≤ L.length
 d : L.drop p.n = ts
structure RP.Er (p : RP) (e a : Int) : Prop where
 ne : e ≠ 0
 e : p.e = e
 at_ : p.at_ = a
structure Sim {α : Type} (L : List Tok) (en : Int) (f : RP → α × RP) (m : M α) : Prop where
 err : ∀ p, p.e ≠ 0 → (f p).2.Er p.e p.at_
 run : ∀ p ts, RP.At L en p ts → match m ts with
  | .ok a r => (f p).1 = a ∧ RP.At L en (f p).2 r
  | .err r e => (f p).2.Er (Xch r e) (atI en r)
section
variable {α β : Type} {L : List Tok} {en : Int}
theorem RP.At.look {p : RP} {ts : List Tok} (h : RP.At L en p ts) : p.l[p.n]? = ts.head? := by rw [h.l, ← h.d, List.head?_drop]
theorem RP.At.nxt {p : RP} {x : Tok} {r : List Tok} (h : RP.At L en p (x :: r)) : RP.At L en p.next r := by
 have hd := h.d
 have hn : p.n < L.length := by
  rcases Nat.lt_or_ge p.n L.length with h1 | h1
  ·exact h1
  ·rw [List.drop_of_length_le h1] at hd; cases hd
 refine ⟨h.l, h.en, h.e, hn, ?_⟩
 rw [List.drop_eq_getElem_cons hn] at hd
 injection hd
theorem RP.At.fail {p : RP} {ts : List Tok} (h : RP.At L en p ts) {e : Int} (he : e ≠ 0) : (p.fail e).Er (Xch ts e) (atI en ts) := by
 have hl := h.look
 simp only [RP.fail, h.e, if_true]
 rw [hl]
 cases ts with
 | nil => exact ⟨by simp [Xch], rfl, h.en⟩
 | cons x r => exact ⟨he, rfl, rfl⟩
theorem RP.Er.fail {p : RP} (h : p.e ≠ 0) (e : Int) : (p.fail e).Er p.e p.at_ := by
 simp only [RP.fail, h, if_false]
 exact ⟨h, rfl, rfl⟩
theorem RP.is_err {p : RP} (h : p.e ≠ 0) (k : Int) (t : B) : p.is k t = false := by simp [RP.is, h]
theorem RP.isK_err {p : RP} (h : p.e ≠ 0) (k : Int) : p.isK k = false := by simp [RP.isK, h]
theorem RP.At.is {p : RP} {ts : List Tok} (h : RP.At L en p ts) {k : Int} {t : B} (ht : t ≠ []) : p.is k t = Xf k t ts := by
 simp only [RP.is, h.e, h.look]
 cases ts with
 | nil => simp [Xf]
 | cons x r => simp [Xf, ht]; rfl
theorem RP.At.isK {p : RP} {ts : List Tok} (h : RP.At L en p ts) {k : Int} : p.isK k = Xf k [] ts := by
 simp only [RP.isK, h.e, h.look]
 cases ts with
 | nil => simp [Xf]
 | cons x r => simp [Xf]; rfl
theorem RP.At.tok {p : RP} {ts : List Tok} (h : RP.At L en p ts) : p.tok = ts.headD default := by
 rw [RP.tok, h.look]
 cases ts <;> rfl
theorem Sim.bind {f : RP → α × RP} {m : M α} {g : α → RP → β × RP} {k : α → M β} (hf : Sim L en f m) (hg : ∀ a, Sim L en (g a) (k a)) : Sim L en (fun p => g (f p).1 (f p).2) (m >>= k) := by
 refine ⟨fun p hp => ?_, fun p ts h => ?_⟩
 ·have h1 := hf.err p hp
  have h2 := (hg (f p).1).err (f p).2 (by rw [h1.e]; exact h1.ne)
  rw [h1.e, h1.at_] at h2
  exact h2
 ·have h1 := hf.run p ts h
  rw [Xd]
  cases hm : m ts with
  | ok a r =>
   rw [hm] at h1
   simp only at h1 ⊢
   obtain ⟨h1, h2⟩ := h1
   rw [h1]
   exact (hg a).run _ _ h2
  | err r e =>
   rw [hm] at h1
   simp only at h1 ⊢
   have h2 := (hg (f p).1).err (f p).2 (by rw [h1.e]; exact h1.ne)
   rw [h1.e, h1.at_] at h2
   exact h2
theorem Sim.ret (a : α) : Sim L en (fun p => (a, p)) (pure a : M α) := ⟨fun _ hp => ⟨hp, rfl, rfl⟩, fun _ _ h => ⟨rfl, h⟩⟩
theorem Sim.fail {f : RP → α × RP} {e : Int} (he : e ≠ 0) (hf : ∀ p, (f p).2 = p.fail e) : Sim L en f (Sx.fail e : M α) :=
 ⟨fun p hp => by rw [hf]; exact RP.Er.fail hp e, fun p ts h => by simp only [Sx.fail]; rw [hf]; exact h.fail he⟩
theorem Sim.expect {k : Int} {t : B} (ht : t ≠ []) : Sim L en (fun p => ((), p.expect k t)) (do let _ ← Wf k t; pure () : M Unit) := by
 refine ⟨fun p hp => ?_, fun p ts h => ?_⟩
 ·simp only [RP.expect, RP.is_err hp, Bool.false_eq_true, if_false]
  exact RP.Er.fail hp _
 ·simp only [RP.expect, h.is ht, Xd, Wf]
  cases hb : Xf k t ts with
  | true =>
   cases ts with
   | nil => simp [Xf] at hb
   | cons x r => exact ⟨trivial, h.nxt⟩
  | false => simp only [Bool.false_eq_true, if_false]; exact h.fail (by decide)
theorem Sim.word {t : B} (ht : t ≠ []) : Sim L en (fun p => ((), p.word t)) (X7 t) := Sim.expect ht
theorem Sim.sign {t : B} (ht : t ≠ []) : Sim L en (fun p => ((), p.sign t)) (X0 t) := Sim.expect ht
theorem Sim.name : Sim L en RP.name X5 := by
 refine ⟨fun p hp => ?_, fun p ts h => ?_⟩
 ·simp only [RP.name, RP.isK_err hp, Bool.false_eq_true, if_false]
  exact RP.Er.fail hp _
 ·simp only [RP.name, h.isK, X5, Xd, Wf, h.tok]
  cases hb : Xf 1 [] ts with
  | true =>
   cases ts with
   | nil => simp [Xf] at hb
   | cons x r => exact ⟨rfl, h.nxt⟩
  | false => simp only [Bool.false_eq_true, if_false]; exact h.fail (by decide)
theorem Sim.number (lo hi : Int) : Sim L en (fun p => p.number lo hi) (Xv lo hi) := by
 refine ⟨fun p hp => ?_, fun p ts h => ?_⟩
 ·simp only [RP.number, RP.isK_err hp, Bool.false_and, Bool.false_eq_true, if_false]
  exact RP.Er.fail hp _
 ·simp only [RP.number, h.isK, Xv, h.tok]
  cases hb : (Xf 2 [] ts && decide (lo ≤ (ts.headD default).n) && decide ((ts.headD default).n ≤ hi)) with
  | true =>
   cases ts with
   | nil => simp [Xf] at hb
   | cons x r => exact ⟨rfl, h.nxt⟩
  | false => simp only [Bool.false_eq_true, if_false]; exact h.fail (by decide)
theorem Sim.room {many most : Nat} (hm : many ≤ most) : Sim L en (fun p => ((), p.room many most)) (Ym many most) := by
 refine ⟨fun p hp => ?_, fun p ts h => ?_⟩
 ·simp only [RP.room]
  split
  ·exact RP.Er.fail hp _
  ·exact ⟨hp, rfl, rfl⟩
 ·simp only [Ym, RP.room]
  by_cases e : many = most
  ·subst e
   simp only [if_true, Int.le_refl]
   exact h.fail (by decide)
  ·rw [if_neg e, if_neg (by omega)]
   exact ⟨trivial, h⟩
theorem Sim.ite {k : Int} {t : B} (ht : t ≠ []) {f g : RP → α × RP} {a b : M α} (hf : Sim L en f a) (hg : Sim L en g b) : Sim L en (fun p => if p.is k t then f p else g p) (fun ts => if Xf k t ts then a ts else b ts) := by
 refine ⟨fun p hp => ?_, fun p ts h => ?_⟩
 ·simp only [RP.is_err hp, Bool.false_eq_true, if_false]
  exact hg.err p hp
 ·simp only [h.is ht]
  cases Xf k t ts with
  | true => exact hf.run p ts h
  | false => exact hg.run p ts h
theorem Sim.iteK {k : Int} {f g : RP → α × RP} {a b : M α} (hf : Sim L en f a) (hg : Sim L en g b) : Sim L en (fun p => if p.isK k then f p else g p) (fun ts => if Xf k [] ts then a ts else b ts) := by
 refine ⟨fun p hp => ?_, fun p ts h => ?_⟩
 ·simp only [RP.isK_err hp, Bool.false_eq_true, if_false]
  exact hg.err p hp
 ·simp only [h.isK]
  cases Xf k [] ts with
  | true => exact hf.run p ts h
  | false => exact hg.run p ts h
theorem Sim.acc {k : Int} {t : B} (ht : t ≠ []) {f g : RP → α × RP} {a b : M α} (hf : Sim L en f a) (hg : Sim L en g b) : Sim L en (fun p => if p.is k t then f (p.expect k t) else g p) (do let x ← Xo k t; if x then a else b) := by
 refine ⟨fun p hp => ?_, fun p ts h => ?_⟩
 ·simp only [RP.is_err hp, Bool.false_eq_true, if_false]
  exact hg.err p hp
 ·simp only [Xd, Xo, RP.expect, h.is ht]
  cases hb : Xf k t ts with
  | true =>
   cases ts with
   | nil => simp [Xf] at hb
   | cons x r => simp only [if_true]; exact hf.run _ _ h.nxt
  | false => simp only [Bool.false_eq_true, if_false]; exact hg.run p ts h
def RP.rep (b : RP → Bool) (f : RP → α × RP) (most : Nat) : Nat → List α → RP → List α × RP
 | 0, acc, p => (acc, p)
 | n + 1, acc, p => if b p then RP.rep b f most n (acc ++ [(f (p.room acc.length most)).1]) (f (p.room acc.length most)).2 else (acc, p)
theorem Qy {b : RP → Bool} {f : RP → α × RP} {most : Nat} {p : RP} (h : b p = false) : ∀ (n : Nat) (acc : List α), RP.rep b f most n acc p = (acc, p)
 | 0, _ => rfl
 | n + 1, acc => by simp [RP.rep, h]
theorem Sim.rep {b : RP → Bool} {c : List Tok → Bool} {f : RP → α × RP} {m : M α} {most : Nat} (hb : ∀ p, p.e ≠ 0 → b p = false) (hc : ∀ p ts, RP.At L en p ts → b p = c ts) (hf : Sim L en f m) : ∀ (n : Nat) (acc : List α), acc.length + n = most + 1 → 0 < n → Sim L en (fun p => RP.rep b f most n acc p) (do let l ← Xp c m (most - acc.length); pure (acc ++ l)) := by
 intro n
 induction n with
 | zero => intro acc _ h; omega
 | succ n ih =>
  intro acc ha _
  refine ⟨fun p hp => ?_, fun p ts h => ?_⟩
  ·rw [Qy (hb p hp)]; exact ⟨hp, rfl, rfl⟩
  ·have hcp := hc p ts h
   simp only [RP.rep, hcp]
   cases hct : c ts with
   | false =>
    have : Xp c m (most - acc.length) ts = .ok [] ts := by
     cases most - acc.length <;> simp [Xp, hct]
    rw [Xd, this]
    simp only [Bool.false_eq_true, if_false, List.append_nil]
    exact ⟨rfl, h⟩
   | true =>
    simp only [if_true]
    have hr := (Sim.room (L := L) (en := en) (many := acc.length) (most := most) (by omega)).run p ts h
    rcases Nat.lt_or_ge acc.length most with hlt | hge
    ·obtain ⟨k, hk⟩ : ∃ k, most - acc.length = k + 1 := ⟨most - acc.length - 1, by omega⟩
     have e1 : Ym acc.length most ts = .ok () ts := by simp only [Ym, if_neg (show ¬ acc.length = most by omega)]
     rw [e1] at hr
     have h2 := hf.run _ _ hr.2
     rw [Xd, hk]
     simp only [Xp, hct, if_true, Xd]
     cases hm : m ts with
     | err r e =>
      rw [hm] at h2
      simp only at h2 ⊢
      rw [Qy (hb _ (by rw [h2.e]; exact h2.ne))]
      exact h2
     | ok a r =>
      rw [hm] at h2
      simp only at h2 ⊢
      obtain ⟨h3, h4⟩ := h2
      have h5 := (ih (acc ++ [a]) (by simp; omega) (by omega)).run _ _ h4
      rw [h3]
      have ek : most - (acc ++ [a]).length = k := by simp; omega
      rw [Xd, ek] at h5
      cases hl : Xp c m k r with
      | ok l r' => rw [hl] at h5; simpa using h5
      | err r' e => rw [hl] at h5; exact h5
    ·have em : acc.length = most := by omega
     have e1 : Ym acc.length most ts = .err ts 2 := by simp only [Ym, if_pos em]
     rw [e1] at hr
     simp only at hr
     have h2 := hf.err _ (show (p.room acc.length most).e ≠ 0 by rw [hr.e]; exact hr.ne)
     rw [hr.e, hr.at_] at h2
     rw [Qy (hb _ (by rw [h2.e]; exact h2.ne)), Xd]
     have : Xp c m (most - acc.length) ts = .err ts 2 := by
      rw [show most - acc.length = 0 by omega]; simp [Xp, hct]
     rw [this]
     exact h2
end
end Go.Sx
