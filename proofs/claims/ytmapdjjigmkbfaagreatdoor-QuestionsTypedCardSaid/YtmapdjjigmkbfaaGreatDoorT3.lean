/- Texts of this claim joined by a program, part 3 of 13; the last is: Regions folded into expressions: the fold of a whole region, and that it Xex what is shown. Over any program; no condition. -/
import Derived.Test.YtmapdjjigmkbfaaGreatDoorT2
import Derived.Tactics
set_option linter.unusedSimpArgs false
set_option linter.unusedVariables false
set_option linter.unusedSectionVars false
set_option linter.defProp false
/- Statements Xr7 abstract states, and that what is shown of them holds of the program's code. Over any program; no condition. -/
namespace Go.Ab
open Go

def put (sl : Xb) (d : Option Nat) (v : V) : Xb := match d with
  | some k => (k, v) :: sl
  | none => sl

inductive It where
  | op (d : Option Nat) (i : I)
  | gop (s : Nat) (want : Bool) (d : Option Nat) (i : I)

def gdK (s : Nat) (want : Bool) (sl : Xb) (Y N : Xb → Prop) : V → Prop
  | .d (.bool b) => (b = want → Y ((s, .d (.bool want)) :: sl)) ∧ (b = !want → N ((s, .d (.bool (!want))) :: sl))
  | .undef => N sl
  | _ => False

def rwp (P : Prg) (K : Xb → Objs → Prop) (Pn : V → Xb → Objs → Prop) : List It → Xb → Objs → Prop
  | [], sl, ob => K sl ob
  | .op d i :: r, sl, ob => i.wp P sl ob (fun v ob' => rwp P K Pn r (put sl d v) ob') (fun v ob' => Pn v sl ob')
  | .gop s want d i :: r, sl, ob => gdK s want sl (fun sl => i.wp P sl ob (fun v ob' => rwp P K Pn r (put sl d v) ob') (fun v ob' => Pn v sl ob')) (fun sl => rwp P K Pn r (put sl d .undef) ob) (look sl s)

mutual
inductive Ot where
  | done
  | one (i : Nat) (x : It) (r : Ot)
  | br (l : Ots)
inductive Ots where
  | nil
  | cons (i : Nat) (x : It) (r : Ot) (l : Ots)
end
def itK (P : Prg) (next : Xb → Objs → Prop) (Pn : V → Xb → Objs → Prop) : It → Xb → Objs → Prop
  | .op d i, sl, ob => i.wp P sl ob (fun v ob' => next (put sl d v) ob') (fun v ob' => Pn v sl ob')
  | .gop s want d i, sl, ob => gdK s want sl (fun sl => i.wp P sl ob (fun v ob' => next (put sl d v) ob') (fun v ob' => Pn v sl ob')) (fun sl => next (put sl d .undef) ob) (look sl s)
mutual
def owp (P : Prg) (K : Xb → Objs → Prop) (Pn : V → Xb → Objs → Prop) : Ot → Xb → Objs → Prop
  | .done, sl, ob => K sl ob
  | .one _ x r, sl, ob => itK P (owp P K Pn r) Pn x sl ob
  | .br l, sl, ob => Xc5 P K Pn l sl ob
def Xc5 (P : Prg) (K : Xb → Objs → Prop) (Pn : V → Xb → Objs → Prop) : Ots → Xb → Objs → Prop
  | .nil, _, _ => True
  | .cons _ x r l, sl, ob => itK P (owp P K Pn r) Pn x sl ob ∧ Xc5 P K Pn l sl ob
end

inductive S where
  | rg (ord : List Nat) (l : List It) (keep pk : List Nat)
  | rgT (n : Nat) (t : Ot) (keep pk : List Nat)
  | seq (a b : S)
  | skip
  | cond (c : A) (a b : S)
  | block (n : Nat) (a : S)
  | loop (keep : List Nat) (a : S)
  | exit (n : Nat)
  | ret

inductive AExit where
  | normal
  | exit (n : Nat)
  | ret
  | panic (v : V)

abbrev Zt := AExit → Xb → Objs → Prop

def Zn (next : Xb → Objs → Prop) (Q : Zt) : Zt
  | .normal, sl, ob => next sl ob
  | .exit n, sl, ob => Q (.exit n) sl ob
  | .ret, sl, ob => Q .ret sl ob
  | .panic v, sl, ob => Q (.panic v) sl ob
def Yj (id : Nat) (Q : Zt) : Zt
  | .normal, sl, ob => Q .normal sl ob
  | .exit n, sl, ob => if n = id then Q .normal sl ob else Q (.exit n) sl ob
  | .ret, sl, ob => Q .ret sl ob
  | .panic v, sl, ob => Q (.panic v) sl ob
def Us (Y N : Prop) : V → Prop
  | .d (.bool t) => (t = true → Y) ∧ (t = false → N)
  | _ => False
def Xc (sl : Xb) : List Nat → Xb
  | [] => []
  | k :: r => (k, look sl k) :: Xc sl r

mutual
def V.men (ids : Nat → Bool) : V → Bool
  | .ptr id _ => ids id
  | .sl id _ => ids id
  | .sd id _ => ids id
  | .mp id => ids id
  | .ep id _ _ _ _ _ => ids id
  | .bs id _ _ _ => ids id
  | .fn _ a b => V.mens ids a || V.mens ids b
  | .agg xs => V.mens ids xs
  | .iface _ v => V.men ids v
  | .tup xs => V.mens ids xs
  | _ => false
def V.mens (ids : Nat → Bool) : List V → Bool
  | [] => false
  | x :: r => V.men ids x || V.mens ids r
end
def Ys (ids : Nat → Bool) : Objs → Objs
  | [] => []
  | (j, x) :: r => if ids j then Ys ids r else (j, x) :: Ys ids r
def V1 (ids : Nat → Bool) : Xb → Bool
  | [] => true
  | (_, v) :: r => !V.men ids v && V1 ids r
def Ul (ids : Nat → Bool) : List (D × V) → Bool
  | [] => false
  | (_, v) :: r => V.men ids v || Ul ids r
def noMenO (ids : Nat → Bool) : Objs → Bool
  | [] => true
  | (_, .box _ t) :: r => !V.men ids t && noMenO ids r
  | (_, .vec _ _ xs) :: r => !V.mens ids xs && noMenO ids r
  | (_, .map es) :: r => !Ul ids es && noMenO ids r
  | _ :: r => noMenO ids r
def young (n : Nat) (kp : List Nat) (id : Nat) : Bool := decide (n ≤ id) && !kp.contains id
def sub (keep : List Nat) (n : Nat) (K : Xb → Objs → Prop) (sl : Xb) (ob : Objs) : Prop :=
  ∃ kp : List Nat, V1 (young n kp) (Xc sl keep) = true ∧ noMenO (young n kp) (Ys (young n kp) ob) = true ∧ K (Xc sl keep) (Ys (young n kp) ob)

structure ALoop (keep : List Nat) (body : Zt → Xb → Objs → Prop) (Q : Zt) (sl : Xb) (ob : Objs) : Prop where
  run : ∃ (ι : Type) (S : ι → Xb) (O : ι → Objs) (I : ι → Prop) (μ : ι → Nat) (i0 : ι), I i0 ∧ Xc sl keep = S i0 ∧ ob = O i0 ∧
    ∀ i, I i → body (Zn (sub keep (fresh (O i)) fun sl' ob' => ∃ j, I j ∧ μ j < μ i ∧ sl' = S j ∧ ob' = O j) Q) (S i) (O i)

def cwp (P : Prg) : S → Zt → Xb → Objs → Prop
  | .rg _ l keep pk, Q, sl, ob => rwp P (fun sl ob => Q .normal (Xc sl keep) ob) (fun v sl ob => Q (.panic v) (Xc sl pk) ob) l sl ob
  | .rgT _ t keep pk, Q, sl, ob => owp P (fun sl ob => Q .normal (Xc sl keep) ob) (fun v sl ob => Q (.panic v) (Xc sl pk) ob) t sl ob
  | .seq a b, Q, sl, ob => cwp P a (Zn (cwp P b Q) Q) sl ob
  | .skip, Q, sl, ob => Q .normal sl ob
  | .cond c a b, Q, sl, ob => Us (cwp P a Q sl ob) (cwp P b Q sl ob) (c.ev sl)
  | .block n a, Q, sl, ob => cwp P a (Yj n Q) sl ob
  | .loop keep a, Q, sl, ob => ALoop keep (cwp P a) Q sl ob
  | .exit n, Q, sl, ob => Q (.exit n) sl ob
  | .ret, Q, sl, ob => Q .ret sl ob


def Uj (N : Nat) : Option Nat → Option Nat → Bool
  | some k, some j => k == j && decide (k < N)
  | none, none => true
  | _, _ => false

def It.chk (P : Program) (N : Nat) (ops : Array Oper) (o : Oper) : It → Bool
  | .op d i => Uj N o.dst d && o.guard.isNone && i.chk P o.op
  | .gop s want d i => Uj N o.dst d && (match o.guard with
    | some (j, b) => b == want && (match ops[j]? with | some o' => o'.dst == some s | none => false)
    | none => false) && i.chk P o.op

def Y3 (P : Program) (N : Nat) (ops : Array Oper) : List Oper → List It → Bool
  | [], [] => true
  | o :: r, i :: s => i.chk P N ops o && Y3 P N ops r s
  | _, _ => false

def It.kind : It → Nat
  | .op _ i => i.kind
  | .gop _ _ _ i => i.kind
def Xrg : List Nat → List It → Nat → Nat
  | i :: r, x :: s, j => if i = j then x.kind else Xrg r s j
  | _, _, _ => 3
def Xgf (P : Program) (N : Nat) (ops : Array Oper) (kd : Nat → Nat) (listed : Array Bool) : List Nat → List It → Bool
  | [], [] => (Region.ready .any ops listed).isEmpty
  | i :: r, x :: s => (Region.ready .any ops listed).contains i && (match ops[i]? with | some o => x.chk P N ops o | none => false) && x.kind == kd i &&
      (match x.kind with
        | 0 => Region.free .any ops listed i
        | 1 => Region.free .any ops listed i && (List.range ops.size).all (fun j => kd j != 3 || j == i || Qf .any ops i ops.size j)
        | _ => (Region.ready .any ops listed) == [i]) &&
      Xgf P N ops kd (listed.setIfInBounds i true) r s
  | _, _ => false
mutual
def Ot.kinds : Ot → List (Nat × Nat)
  | .done => []
  | .one i x r => (i, x.kind) :: r.kinds
  | .br l => l.kinds
def Ots.kinds : Ots → List (Nat × Nat)
  | .nil => []
  | .cons i x r l => (i, x.kind) :: (r.kinds ++ l.kinds)
end
def Xre : List (Nat × Nat) → Nat → Nat
  | [], _ => 3
  | (i, k) :: r, j => if i = j then k else Xre r j
def Ots.has (j : Nat) : Ots → Bool
  | .nil => false
  | .cons i _ _ l => i == j || l.has j
mutual
def Wh (P : Program) (N : Nat) (ops : Array Oper) (kd : Nat → Nat) : Nat → Array Bool → Ot → Bool
  | 0, listed, .done => (Region.ready .any ops listed).isEmpty
  | n + 1, listed, .one i x r => (Region.ready .any ops listed).contains i && (match ops[i]? with | some o => x.chk P N ops o | none => false) && x.kind == kd i &&
      (match x.kind with
        | 0 => Region.free .any ops listed i
        | 1 => Region.free .any ops listed i && (List.range ops.size).all (fun j => kd j != 3 || j == i || Qf .any ops i ops.size j)
        | _ => (Region.ready .any ops listed) == [i]) &&
      Wh P N ops kd n (listed.setIfInBounds i true) r
  | n + 1, listed, .br l => !(Region.ready .any ops listed).isEmpty && (Region.ready .any ops listed).all (fun j => l.has j) && Xcl P N ops kd n listed l
  | _, _, _ => false
def Xcl (P : Program) (N : Nat) (ops : Array Oper) (kd : Nat → Nat) : Nat → Array Bool → Ots → Bool
  | _, _, .nil => true
  | n, listed, .cons i x r l => (Region.ready .any ops listed).contains i && (match ops[i]? with | some o => x.chk P N ops o | none => false) && x.kind == kd i && Wh P N ops kd n (listed.setIfInBounds i true) r && Xcl P N ops kd n listed l
end
def Qs (pk : List Nat) (ops : Array Oper) : Bool := ops.toList.all fun o => match o.dst with
  | some d => !pk.contains d
  | none => true

def S.chk (P : Program) (N : Nat) : Code → S → Bool
  | .skip, .skip => true
  | .region _ ops draw, .rg ord l _ pk => if draw then decide (ord.length ≤ ops.size) && Region.noSelect ops && Qs pk ops && Xgf P N ops (Xrg ord l) (Array.replicate ops.size false) ord l else Y3 P N ops ops.toList l
  | .region _ ops draw, .rgT n t _ pk => draw && decide (n ≤ ops.size) && Region.noSelect ops && Qs pk ops && Wh P N ops (Xre t.kinds) n (Array.replicate ops.size false) t
  | .seq a b, .seq x y => S.chk P N a x && S.chk P N b y
  | .cond c a b, .cond d x y => A.chk c d && S.chk P N a x && S.chk P N b y
  | .block n a, .block m x => n == m && S.chk P N a x
  | .loop a, .loop _ x => S.chk P N a x
  | .exit n, .exit m => n == m
  | .ret, .ret => true
  | _, _ => false


structure Ctx where
  w0 : World
  ex : Nat → Prop
  N : Nat
  df : List Deferred
  g : Nat → Option Obj
  m0 : Nat → Option RO
  ev : List (V × Value)

structure Base (c : Ctx) (w : World) (ρ : Env) : Prop where
  size : c.w0.heap.size ≤ w.heap.size
  keep : ∀ b, b < c.w0.heap.size → ¬ c.ex b → w.heap[b]? = c.w0.heap[b]?
  owns : ∀ b, Xh5 ρ b → c.w0.heap.size ≤ b ∨ c.ex b
  tape : w.tape = c.w0.tape
  os : w.os = c.w0.os
  out : w.output = c.w0.output
  same : ∀ id o, c.m0 id = some o → ∃ o', ρ.m id = some o' ∧ o.le o'
  ext : ∀ p ∈ c.ev, p.1.rep w ρ p.2

theorem Base.tr {c : Ctx} {w w' : World} {ρ ρ' : Env} (h : Base c w ρ) (t : Tr w ρ w' ρ') : Base c w' ρ' := by
  refine ⟨Nat.le_trans h.size t.size, fun b h1 h2 => ?_, fun b h1 => ?_, t.tape.trans h.tape, t.os.trans h.os, t.out.trans h.out, fun id o h1 => ?_, fun p hp => V.rep_tr t (h.ext p hp)⟩
  · refine (t.keep b (fun h3 => ?_) (Nat.lt_of_lt_of_le h1 h.size)).trans (h.keep b h1 h2)
    exact (h.owns b h3).elim (fun h => by omega) h2
  · rcases t.owns b h1 with h3 | h3
    · exact h.owns b h3
    · exact .inl (Nat.le_trans h.size h3)
  · obtain ⟨o', h2, h3⟩ := h.same id o h1
    obtain ⟨o'', h4, h5⟩ := t.same id o' h2
    exact ⟨o'', h4, h3.trans h5⟩

structure Mod (c : Ctx) (xo : Nat → Prop) (ρ : Env) (sl : Xb) (ob : Objs) (a : Act) (w : World) : Prop where
  base : Base c w ρ
  om : OM w ρ ob
  sm : SM w ρ sl a
  size : a.tmps.size = c.N
  df : a.defers = c.df
  xo : ρ.xo = xo
  gl : ρ.gl = c.g

def exM (w : World) (ρ : Env) : Exit → AExit → Prop
  | .normal, .normal => True
  | .exit n, .exit m => n = m
  | .ret, .ret => True
  | .panic ch, .panic v => ∃ u, ch = [{ v := u, recovered := false }] ∧ v.rep w ρ u
  | _, _ => False

def lift (c : Ctx) (xo : Nat → Prop) (Q : Zt) : Exit → Act → World → Prop :=
  fun e a w => ∃ ae sl ob ρ, Q ae sl ob ∧ exM w ρ e ae ∧ Mod c xo ρ sl ob a w

theorem Xf {w : World} {ρ : Env} {sl : Xb} {a : Act} {d : Option Nat} {x : V} {v : Value} {N : Nat} {o : Option Nat} (hd : Uj N o d = true) (hN : a.tmps.size = N) (hs : SM w ρ sl a) (hx : x.rep w ρ v) :
    SM w ρ (put sl d x) (a.put o v) ∧ (a.put o v).tmps.size = N ∧ (a.put o v).defers = a.defers := by
  cases o with
  | none =>
    cases d with
    | none => exact ⟨hs, hN, rfl⟩
    | some j => simp [Uj] at hd
  | some k =>
    cases d with
    | none => simp [Uj] at hd
    | some j =>
      simp only [Uj, Bool.and_eq_true, beq_iff_eq, decide_eq_true_eq] at hd
      obtain ⟨rfl, hk⟩ := hd
      refine ⟨fun i => ?_, by simpa [Act.put] using hN, rfl⟩
      simp only [put, look, Act.put]
      split
      · rename_i e; subst e
        have : k < a.tmps.size := by omega
        simpa [this] using hx
      · rename_i e
        have := hs i
        simpa [Array.getElem?_setIfInBounds, e] using this

theorem Xdi {ops : Array Oper} {a : Act} {j s : Nat} {o' : Oper} {b : Bool} (h1 : ops[j]? = some o') (h2 : o'.dst = some s) (h3 : a.tmps.getD s undef = .bool b) : yielded ops a.tmps j = some b := by
  have hs : s < a.tmps.size := by
    rcases Nat.lt_or_ge s a.tmps.size with h | h
    · exact h
    · simp [Array.getD, Nat.not_lt.2 h, undef] at h3
  simp only [Array.getD, hs, dif_pos] at h3
  have : a.tmps[s]? = some (.bool b) := by rw [Array.getElem?_eq_getElem hs]; exact congrArg some h3
  simp [yielded, h1, h2, this]

theorem Xb4 {ops : Array Oper} {a : Act} {j s : Nat} {o' : Oper} (h1 : ops[j]? = some o') (h2 : o'.dst = some s) (h3 : a.tmps.getD s undef = undef) : yielded ops a.tmps j = none := by
  rcases Nat.lt_or_ge s a.tmps.size with hs | hs
  · simp only [Array.getD, hs, dif_pos] at h3
    have : a.tmps[s]? = some (.tuple #[]) := by rw [Array.getElem?_eq_getElem hs]; exact congrArg some h3
    simp [yielded, h1, h2, this]
  · have : a.tmps[s]? = none := Array.getElem?_eq_none hs
    simp [yielded, h1, h2, this]

theorem Yx {w : World} {ρ : Env} {sl : Xb} {a : Act} {ops : Array Oper} {o : Oper} {s : Nat} {want : Bool} {Y N : Xb → Prop} (hs : SM w ρ sl a)
    (hg : (match o.guard with | some (j, b) => b == want && (match ops[j]? with | some o' => o'.dst == some s | none => false) | none => false) = true)
    (h : gdK s want sl Y N (look sl s)) :
    (Region.wanted o (yielded ops a.tmps) = true ∧ ∃ sl', SM w ρ sl' a ∧ Y sl') ∨ (Region.wanted o (yielded ops a.tmps) = false ∧ ∃ sl', SM w ρ sl' a ∧ N sl') := by
  split at hg
  · rename_i j b hj
    simp only [Bool.and_eq_true, beq_iff_eq] at hg
    obtain ⟨rfl, hg⟩ := hg
    split at hg
    · rename_i o' ho
      have hd : o'.dst = some s := by simpa using hg
      have hv := hs s
      have key : ∀ c : Bool, a.tmps.getD s undef = .bool c → SM w ρ ((s, .d (.bool c)) :: sl) a := fun c hc k => by
        simp only [look]
        split
        · rename_i e; subst e; rw [hc]; exact rep_bool.2 rfl
        · exact hs k
      unfold gdK at h
      split at h
      · rename_i c e
        rw [e, rep_bool] at hv
        have hy := Xdi (a := a) ho hd hv
        by_cases hcb : c = b
        · subst hcb
          exact .inl ⟨by simp [Region.wanted, hj, hy], _, key c hv, h.1 rfl⟩
        · have hcn : c = !b := by cases c <;> cases b <;> simp_all
          subst hcn
          exact .inr ⟨by simp [Region.wanted, hj, hy], _, key _ hv, h.2 rfl⟩
      · rename_i e
        rw [e, Yk] at hv
        have hy := Xb4 (a := a) ho hd hv
        exact .inr ⟨by simp [Region.wanted, hj, hy], _, hs, h⟩
      · exact h.elim
    · simp at hg
  · simp at hg

theorem Uu {P : Prg} {c : Ctx} (hg : P.g = c.g) {xo : Nat → Prop} {ops : Array Oper} {Q : Exit → Act → World → Prop} {K : Xb → Objs → Prop} {Pn : V → Xb → Objs → Prop}
    (hK : ∀ sl ob ρ a w, K sl ob → Mod c xo ρ sl ob a w → Q .normal a w)
    (hP : ∀ v sl ob ρ a w u, Pn v sl ob → Mod c xo ρ sl ob a w → v.rep w ρ u → Q (.panic [{ v := u, recovered := false }]) a w) :
    ∀ (l : List Oper) (its : List It) (sl : Xb) (ob : Objs) (ρ : Env) (a : Act) (w : World), Y3 P.p c.N ops l its = true → rwp P K Pn its sl ob → Mod c xo ρ sl ob a w → wpList P.p ops Q l a w
  | [], [], sl, ob, ρ, a, w, _, h, m => by simp only [wpList]; exact hK sl ob ρ a w h m
  | o :: r, i :: s, sl, ob, ρ, a, w, hc, h, m => by
    simp only [Y3, Bool.and_eq_true] at hc
    obtain ⟨h1, h2⟩ := hc
    have step : ∀ (d : Option Nat) (x : I) (sl : Xb), SM w ρ sl a → Uj c.N o.dst d = true → x.chk P.p o.op = true → x.wp P sl ob (fun v ob' => rwp P K Pn s (put sl d v) ob') (fun v ob' => Pn v sl ob') → o.wp P.p a w (wpList P.p ops Q r) Q := by
      intro d x sl hs hd hx hw
      refine I.sound (m.gl.trans hg.symm) hs m.om hx hw o rfl _ _ (fun v y ob' w' ρ' hk hr ho t => ?_) (fun u y ob' w' ρ' hk hr ho t => ?_)
      · obtain ⟨g1, g2, g3⟩ := Xf hd m.size (hs.tr t) hr
        exact Uu hg hK hP r s _ ob' ρ' _ w' h2 hk ⟨m.base.tr t, ho, g1, g2, g3.trans m.df, t.xo.trans m.xo, t.gl.trans m.gl⟩
      · exact hP y sl ob' ρ' a w' u hk ⟨m.base.tr t, ho, hs.tr t, m.size, m.df, t.xo.trans m.xo, t.gl.trans m.gl⟩ hr
    cases i with
    | op d x =>
      simp only [It.chk, Bool.and_eq_true, Option.isNone_iff_eq_none] at h1
      simp only [rwp] at h
      simp only [wpList, Region.wanted, h1.1.2, if_true]
      exact .inl (step d x sl m.sm h1.1.1 h1.2 h)
    | gop g want d x =>
      simp only [It.chk, Bool.and_eq_true] at h1
      simp only [rwp] at h
      simp only [wpList]
      rcases Yx (ops := ops) m.sm h1.1.2 h with ⟨hw, sl', hs, h⟩ | ⟨hw, sl', hs, h⟩
      · rw [if_pos hw]
        exact .inl (step d x sl' hs h1.1.1 h1.2 h)
      · rw [hw]
        simp only [Bool.false_eq_true, if_false]
        obtain ⟨g1, g2, g3⟩ := Xf h1.1.1 m.size hs (Yk.2 rfl)
        exact Uu hg hK hP r s _ ob ρ _ w h2 h ⟨m.base, m.om, g1, g2, g3.trans m.df, m.xo, m.gl⟩
  | [], _ :: _, _, _, _, _, _, hc, _, _ => by simp [Y3] at hc
  | _ :: _, [], _, _, _, _, _, hc, _, _ => by simp [Y3] at hc

theorem SM.keep {w : World} {ρ : Env} {sl : Xb} {a : Act} (hs : SM w ρ sl a) (l : List Nat) : SM w ρ (Xc sl l) a := by
  intro k
  induction l with
  | nil => exact Jq
  | cons j r ih =>
    simp only [Xc, look]
    split
    · rename_i e; subst e; exact hs j
    · exact ih

def Env.del (ρ : Env) (ids : Nat → Bool) : Env := ⟨fun j => if ids j then none else ρ.m j, ρ.xo, ρ.gl⟩

theorem W2 {ρ : Env} {ids : Nat → Bool} {b : Nat} (h : Xh5 (ρ.del ids) b) : Xh5 ρ b := by
  obtain ⟨j, o, h1, h2⟩ := h
  simp only [Env.del] at h1
  split at h1
  · cases h1
  · exact ⟨j, o, h1, h2⟩

theorem Xcj (w : World) (ρ : Env) (ids : Nat → Bool) : Xc6 w (own ρ) w (own (ρ.del ids)) := fun _ h _ =>
  ⟨rfl, fun h' => h (h'.elim (fun h => .inl (W2 h)) .inr)⟩

mutual
theorem V.repC_del {w : World} {ρ : Env} {ids : Nat → Bool} : ∀ (x : V) (cs : List Value), V.men ids x = false → x.repC w ρ cs → x.repC w (ρ.del ids) cs
  | .d x, cs, _, h => by simp only [V.repC] at h ⊢; exact D.rep_mono (Xcj w ρ ids) x cs h
  | .ptr id p, cs, hm, h => by
    simp only [V.repC] at h ⊢
    simp only [V.men] at hm
    rcases h with ⟨b, sh, h1, h2⟩ | ⟨h1, h2⟩
    · exact .inl ⟨b, sh, by simp only [Env.del, hm]; exact h1, h2⟩
    · exact .inr ⟨by simp only [Env.del, hm]; exact h1, h2⟩
  | .sl id n, cs, hm, h => by
    simp only [V.repC] at h ⊢
    simp only [V.men] at hm
    obtain ⟨o, u, h1, h2⟩ := h
    exact ⟨o, u, by simp only [Env.del, hm]; exact h1, h2⟩
  | .sd id n, cs, hm, h => by
    simp only [V.repC] at h ⊢
    simp only [V.men] at hm
    obtain ⟨o, u, h1, h2⟩ := h
    exact ⟨o, u, by simp only [Env.del, hm]; exact h1, h2⟩
  | .mp id, cs, hm, h => by
    simp only [V.repC] at h ⊢
    simp only [V.men] at hm
    rcases h with ⟨b, h1, h2⟩ | ⟨h1, h2⟩
    · exact .inl ⟨b, by simp only [Env.del, hm]; exact h1, h2⟩
    · exact .inr ⟨by simp only [Env.del, hm]; exact h1, h2⟩
  | .bs id p lo n, cs, hm, h => by
    simp only [V.repC] at h ⊢
    simp only [V.men] at hm
    rcases h with ⟨b, sh, cap, f, h1, h2⟩ | ⟨h1, h2⟩
    · exact .inl ⟨b, sh, cap, f, by simp only [Env.del, hm]; exact h1, h2⟩
    · exact .inr ⟨by simp only [Env.del, hm]; exact h1, h2⟩
  | .ep id n z i f p, cs, hm, h => by
    simp only [V.repC] at h ⊢
    simp only [V.men] at hm
    obtain ⟨o, u, h1, h2⟩ := h
    exact ⟨o, u, by simp only [Env.del, hm]; exact h1, h2⟩
  | .fn f fi ca, cs, hm, h => by
    simp only [V.repC] at h ⊢
    simp only [V.men, Bool.or_eq_false_iff] at hm
    obtain ⟨fs, gs, e, h1, h2⟩ := h
    exact ⟨fs, gs, e, V.reps_del fi fs hm.1 h1, V.reps_del ca gs hm.2 h2⟩
  | .agg xs, cs, hm, h => by
    simp only [V.repC] at h ⊢
    simp only [V.men] at hm
    exact V.repCs_del xs cs hm h
  | .iface ty x, cs, hm, h => by
    simp only [V.repC] at h ⊢
    simp only [V.men] at hm
    obtain ⟨u, e, h1⟩ := h
    refine ⟨u, e, ?_⟩
    rcases h1 with h1 | ⟨p, ds, q, r⟩ | ⟨p, r⟩
    · exact .inl h1
    · exact .inr (.inl ⟨p, ds, q, V.repC_del x ds hm r⟩)
    · exact .inr (.inr ⟨p, V.repC_del x _ hm r⟩)
  | .tup xs, cs, hm, h => by
    simp only [V.repC] at h ⊢
    simp only [V.men] at hm
    obtain ⟨vs, e, h1⟩ := h
    exact ⟨vs, e, V.reps_del xs vs hm h1⟩
  | .undef, cs, _, h => by simpa only [V.repC] using h
  | .any, cs, _, h => by simpa only [V.repC] using h
theorem V.repCs_del {w : World} {ρ : Env} {ids : Nat → Bool} : ∀ (xs : List V) (cs : List Value), V.mens ids xs = false → V.repCs w ρ xs cs → V.repCs w (ρ.del ids) xs cs
  | [], cs, _, h => by simpa only [V.repCs] using h
  | x :: r, cs, hm, h => by
    simp only [V.repCs] at h ⊢
    simp only [V.mens, Bool.or_eq_false_iff] at hm
    obtain ⟨c1, c2, e, h1, h2⟩ := h
    exact ⟨c1, c2, e, V.repC_del x c1 hm.1 h1, V.repCs_del r c2 hm.2 h2⟩
theorem V.reps_del {w : World} {ρ : Env} {ids : Nat → Bool} : ∀ (xs : List V) (vs : List Value), V.mens ids xs = false → V.reps w ρ xs vs → V.reps w (ρ.del ids) xs vs
  | [], vs, _, h => by simpa only [V.reps] using h
  | x :: r, vs, hm, h => by
    simp only [V.reps] at h ⊢
    simp only [V.mens, Bool.or_eq_false_iff] at hm
    obtain ⟨u, us, e, h1, h2⟩ := h
    refine ⟨u, us, e, ?_, V.reps_del r us hm.2 h2⟩
    rcases h1 with h1 | ⟨p, ds, q, r⟩ | ⟨p, r⟩
    · exact .inl h1
    · exact .inr (.inl ⟨p, ds, q, V.repC_del x ds hm.1 r⟩)
    · exact .inr (.inr ⟨p, V.repC_del x _ hm.1 r⟩)
end

theorem V.rep_del {w : World} {ρ : Env} {ids : Nat → Bool} {x : V} {u : Value} (hm : V.men ids x = false) (h : x.rep w ρ u) : x.rep w (ρ.del ids) u := by
  rcases h with h1 | ⟨p, ds, q, r⟩ | ⟨p, r⟩
  · exact .inl h1
  · exact .inr (.inl ⟨p, ds, q, V.repC_del x ds hm r⟩)
  · exact .inr (.inr ⟨p, V.repC_del x _ hm r⟩)

theorem Yb.del {w : World} {ρ : Env} {ids : Nat → Bool} : ∀ (l : List (D × V)) (es : List MapEntry), Ul ids l = false → Yb w ρ l es → Yb w (ρ.del ids) l es
  | [], es, _, h => h
  | (k, v) :: r, es, hm, h => by
    simp only [Ul, Bool.or_eq_false_iff] at hm
    obtain ⟨e, es', h1, h2, h3, h4⟩ := h
    exact ⟨e, es', h1, h2, V.rep_del hm.1 h3, Yb.del r es' hm.2 h4⟩

theorem Z0 {ids : Nat → Bool} : ∀ (ob : Objs) (j : Nat), lookO (Ys ids ob) j = if ids j then none else lookO ob j
  | [], j => by simp [Ys, lookO]
  | (k, x) :: r, j => by
    simp only [Ys]
    split
    · rename_i h
      rw [Z0 r j]
      simp only [lookO]
      by_cases e : k = j
      · subst e; rw [if_pos h, if_pos h]
      · simp [e]
    · rename_i h
      simp only [lookO, Z0 r j]
      by_cases e : k = j
      · subst e; rw [if_pos rfl, if_neg h, if_pos rfl]
      · simp [e]

theorem Xfx.drop {ids : Nat → Bool} : ∀ {ob : Objs}, Xfx ob → Xfx (Ys ids ob)
  | [], h => h
  | (k, x) :: r, h => by
    simp only [Ys]
    split
    · exact Xfx.drop h.2
    · refine ⟨?_, Xfx.drop h.2⟩
      rw [Z0, h.1]; split <;> rfl

theorem Yt {ids : Nat → Bool} : ∀ (ob : Objs) (j E : Nat) (t : V), noMenO ids ob = true → lookO ob j = some (.box E t) → V.men ids t = false
  | [], j, E, t, _, h => by simp [lookO] at h
  | (k, x) :: r, j, E, t, hm, h => by
    simp only [lookO] at h
    split at h
    · simp at h; subst h
      simp only [noMenO, Bool.and_eq_true] at hm
      simpa using hm.1
    · cases x with
      | box _ y => simp only [noMenO, Bool.and_eq_true] at hm; exact Yt r j E t hm.2 h
      | vec _ _ y => simp only [noMenO, Bool.and_eq_true] at hm; exact Yt r j E t hm.2 h
      | map y => simp only [noMenO, Bool.and_eq_true] at hm; exact Yt r j E t hm.2 h
      | arr _ z xs => simp only [noMenO] at hm; exact Yt r j E t hm h
      | gone => simp only [noMenO] at hm; exact Yt r j E t hm h
theorem Y9 {ids : Nat → Bool} : ∀ (ob : Objs) (j E sz : Nat) (t : List V), noMenO ids ob = true → lookO ob j = some (.vec E sz t) → V.mens ids t = false
  | [], j, E, sz, t, _, h => by simp [lookO] at h
  | (k, x) :: r, j, E, sz, t, hm, h => by
    simp only [lookO] at h
    split at h
    · simp at h; subst h
      simp only [noMenO, Bool.and_eq_true] at hm
      simpa using hm.1
    · cases x with
      | box _ y => simp only [noMenO, Bool.and_eq_true] at hm; exact Y9 r j E sz t hm.2 h
      | vec _ _ y => simp only [noMenO, Bool.and_eq_true] at hm; exact Y9 r j E sz t hm.2 h
      | map y => simp only [noMenO, Bool.and_eq_true] at hm; exact Y9 r j E sz t hm.2 h
      | arr _ z xs => simp only [noMenO] at hm; exact Y9 r j E sz t hm h
      | gone => simp only [noMenO] at hm; exact Y9 r j E sz t hm h
theorem Y8 {ids : Nat → Bool} : ∀ (ob : Objs) (j : Nat) (t : List (D × V)), noMenO ids ob = true → lookO ob j = some (.map t) → Ul ids t = false
  | [], j, t, _, h => by simp [lookO] at h
  | (k, x) :: r, j, t, hm, h => by
    simp only [lookO] at h
    split at h
    · simp at h; subst h
      simp only [noMenO, Bool.and_eq_true] at hm
      simpa using hm.1
    · cases x with
      | box _ y => simp only [noMenO, Bool.and_eq_true] at hm; exact Y8 r j t hm.2 h
      | vec _ _ y => simp only [noMenO, Bool.and_eq_true] at hm; exact Y8 r j t hm.2 h
      | map y => simp only [noMenO, Bool.and_eq_true] at hm; exact Y8 r j t hm.2 h
      | arr _ z xs => simp only [noMenO] at hm; exact Y8 r j t hm h
      | gone => simp only [noMenO] at hm; exact Y8 r j t hm h

theorem Jp {ids : Nat → Bool} : ∀ (sl : Xb) (k : Nat), V1 ids sl = true → V.men ids (look sl k) = false
  | [], k, _ => by simp [look, V.men]
  | (j, v) :: r, k, hm => by
    simp only [V1, Bool.and_eq_true] at hm
    simp only [look]
    split
    · simpa using hm.1
    · exact Jp r k hm.2

theorem OM.del {w : World} {ρ : Env} {ob : Objs} {ids : Nat → Bool} (h : OM w ρ ob) (hm : noMenO ids (Ys ids ob) = true) : OM w (ρ.del ids) (Ys ids ob) := by
  refine ⟨fun j x hx => ?_, fun j o hj => ?_, fun i j o p b h1 h2 h3 h4 => ?_, h.xlt, fun b o hb => ⟨(h.glb b o hb).1, (Xcj w ρ ids b (h.glb b o hb).2 (Xh (h.glb b o hb).1)).2⟩, fun b hb => h.xdis b (W2 hb), Xfx.drop h.once⟩
  · have hx0 := hx
    rw [Z0] at hx
    split at hx
    · cases hx
    · rename_i hn
      have h1 := h.one j x hx
      cases x with
      | box E t =>
        obtain ⟨b, cs, g1, g2, g3⟩ := h1
        exact ⟨b, cs, by simp only [Env.del, hn]; exact g1, g2, V.repC_del t cs (Yt _ j E t hm hx0) g3⟩
      | gone => exact (by simp only [Env.del, hn]; exact h1 : (ρ.del ids).m j = some .gone)
      | arr E sz xs =>
        rcases h1 with ⟨g1, g2⟩ | ⟨b, cap, cs, sp, g1, g2, g3, g4⟩
        · exact .inl ⟨by simp only [Env.del, hn]; exact g1, g2⟩
        · exact .inr ⟨b, cap, cs, sp, by simp only [Env.del, hn]; exact g1, g2, D.repL_mono (Xcj w ρ ids) _ _ g3, g4⟩
      | vec E sz xs =>
        rcases h1 with ⟨g1, g2⟩ | ⟨b, cap, cs, sp, g1, g2, g3, g4⟩
        · exact .inl ⟨by simp only [Env.del, hn]; exact g1, g2⟩
        · exact .inr ⟨b, cap, cs, sp, by simp only [Env.del, hn]; exact g1, g2, V.repCs_del xs cs (Y9 _ j E sz xs hm hx0) g3, g4⟩
      | map es =>
        obtain ⟨b, l, clk, g1, g2, g3⟩ := h1
        exact ⟨b, l, clk, by simp only [Env.del, hn]; exact g1, g2, Yb.del es l (Y8 _ j es hm hx0) g3⟩
  · simp only [Env.del] at hj
    rw [Z0]
    split at hj
    · cases hj
    · rename_i hn
      rw [if_neg hn]
      exact h.dom j o hj
  · simp only [Env.del] at h1 h2
    split at h1
    · cases h1
    · split at h2
      · cases h2
      · exact h.inj i j o p b h1 h2 h3 h4

section
variable {w : World} {ρ : Env}
mutual
theorem V.men_dom {ids : Nat → Bool} (hd : ∀ id o, ρ.m id = some o → ids id = false) : ∀ (v : V) (cs : List Value), v.repC w ρ cs → V.men ids v = false
  | .d _, _, _ => rfl
  | .ptr id p, cs, h => by
    simp only [V.repC] at h
    simp only [V.men]
    rcases h with ⟨_, _, h, _⟩ | ⟨h, _⟩ <;> exact hd _ _ h
  | .sl id n, cs, h => by simp only [V.repC] at h; obtain ⟨_, _, h, _⟩ := h; exact hd _ _ h
  | .sd id n, cs, h => by simp only [V.repC] at h; obtain ⟨_, _, h, _⟩ := h; exact hd _ _ h
  | .mp id, cs, h => by
    simp only [V.repC] at h
    simp only [V.men]
    rcases h with ⟨_, h, _⟩ | ⟨h, _⟩ <;> exact hd _ _ h
  | .bs id p lo n, cs, h => by
    simp only [V.repC] at h
    simp only [V.men]
    rcases h with ⟨_, _, _, _, h, _⟩ | ⟨h, _⟩ <;> exact hd _ _ h
  | .ep id n z i f p, cs, h => by simp only [V.repC] at h; obtain ⟨_, _, h, _⟩ := h; exact hd _ _ h
  | .fn f fi ca, cs, h => by
    simp only [V.repC] at h
    obtain ⟨fs, gs, _, h1, h2⟩ := h
    simp only [V.men, V.mens_dom hd fi fs h1, V.mens_dom hd ca gs h2, Bool.or_self]
  | .agg xs, cs, h => by simp only [V.repC] at h; simp only [V.men]; exact V.menCs_dom hd xs cs h
  | .iface t x, cs, h => by
    simp only [V.repC] at h
    obtain ⟨u, _, h⟩ := h
    simp only [V.men]
    rcases h with h | ⟨_, ds, _, h⟩ | ⟨_, h⟩
    · subst h; rfl
    · exact V.men_dom hd x ds h
    · exact V.men_dom hd x _ h
  | .tup xs, cs, h => by simp only [V.repC] at h; obtain ⟨vs, _, h⟩ := h; simp only [V.men]; exact V.mens_dom hd xs vs h
  | .undef, _, _ => rfl
  | .any, _, _ => rfl
theorem V.menCs_dom {ids : Nat → Bool} (hd : ∀ id o, ρ.m id = some o → ids id = false) : ∀ (xs : List V) (cs : List Value), V.repCs w ρ xs cs → V.mens ids xs = false
  | [], _, _ => rfl
  | x :: r, cs, h => by
    simp only [V.repCs] at h
    obtain ⟨c1, c2, _, h1, h2⟩ := h
    simp only [V.mens, V.men_dom hd x c1 h1, V.menCs_dom hd r c2 h2, Bool.or_self]
theorem V.mens_dom {ids : Nat → Bool} (hd : ∀ id o, ρ.m id = some o → ids id = false) : ∀ (xs : List V) (vs : List Value), V.reps w ρ xs vs → V.mens ids xs = false
  | [], _, _ => rfl
  | x :: r, vs, h => by
    simp only [V.reps] at h
    obtain ⟨u, us, _, h1, h2⟩ := h
    have : V.men ids x = false := by
      rcases h1 with h | ⟨_, ds, _, h⟩ | ⟨_, h⟩
      · subst h; rfl
      · exact V.men_dom hd x ds h
      · exact V.men_dom hd x _ h
    simp only [V.mens, this, V.mens_dom hd r us h2, Bool.or_self]
end
theorem V.men_temp {ids : Nat → Bool} (hd : ∀ id o, ρ.m id = some o → ids id = false) {v : V} {u : Value} (h : v.rep w ρ u) : V.men ids v = false := by
  rcases h with h | ⟨_, ds, _, h⟩ | ⟨_, h⟩
  · subst h; rfl
  · exact V.men_dom hd v ds h
  · exact V.men_dom hd v _ h
end

theorem Mod.sub {c : Ctx} {xo : Nat → Prop} {ρ : Env} {sl : Xb} {ob : Objs} {a : Act} {w : World} {keep : List Nat} {drp : Nat → Bool} (m : Mod c xo ρ sl ob a w) (hd : ∀ id o, c.m0 id = some o → drp id = false) (hv : ∀ p ∈ c.ev, V.men drp p.1 = false)
    (h1 : V1 drp (Xc sl keep) = true) (h2 : noMenO drp (Ys drp ob) = true) : Mod c xo (ρ.del drp) (Xc sl keep) (Ys drp ob) a w :=
  ⟨⟨m.base.size, m.base.keep, fun b hb => m.base.owns b (W2 hb), m.base.tape, m.base.os, m.base.out, fun id o h => (m.base.same id o h).elim fun o' q => ⟨o', by simp only [Env.del, hd id o h]; exact q.1, q.2⟩, fun p hp => V.rep_del (hv p hp) (m.base.ext p hp)⟩, m.om.del h2, fun k => V.rep_del (Jp _ k h1) (m.sm.keep keep k), m.size, m.df, m.xo, m.gl⟩

def J2 (c : Ctx) (xo : Nat → Prop) (pk : List Nat) (Q : Zt) (ch : List PanicEntry) (a : Act) (w : World) : Prop :=
  ∃ v sl ob ρ u, Q (.panic v) (Xc sl pk) ob ∧ ch = [{ v := u, recovered := false }] ∧ v.rep w ρ u ∧ Mod c xo ρ (Xc sl pk) ob a w

theorem Xe1 (sl : Xb) : ∀ (pk : List Nat) (k : Nat), k ∉ pk → look (Xc sl pk) k = .any
  | [], k, _ => by simp [Xc, look]
  | j :: r, k, h => by
    simp only [Xc, look]
    have : j ≠ k := fun e => h (by simp [e])
    rw [if_neg this]
    exact Xe1 sl r k (fun h' => h (by simp [h']))

theorem Xez {c : Ctx} {xo : Nat → Prop} {pk : List Nat} {Q : Zt} {ch : List PanicEntry} {a : Act} {w : World} {d : Option Nat} {v : Value} (hd : ∀ k, d = some k → k ∉ pk) (h : J2 c xo pk Q ch (a.put d v) w) : J2 c xo pk Q ch a w := by
  obtain ⟨x, sl, ob, ρ, u, h1, h2, h3, m⟩ := h
  refine ⟨x, sl, ob, ρ, u, h1, h2, h3, m.base, m.om, fun k => ?_, ?_, ?_, m.xo, m.gl⟩
  · by_cases hk : k ∈ pk
    · have := m.sm k
      cases d with
      | none => exact this
      | some j =>
        have hne : j ≠ k := fun e => hd j rfl (e ▸ hk)
        simpa [Act.put, Array.getElem?_setIfInBounds, hne] using this
    · rw [Xe1 sl pk k hk]; exact Jq
  · have := m.size
    cases d <;> simpa [Act.put] using this
  · have := m.df
    cases d <;> simpa [Act.put] using this

theorem Yd {P : Prg} {c : Ctx} (hg : P.g = c.g) {xo : Nat → Prop} {ops : Array Oper} {Q : Exit → Act → World → Prop} {QP : Zt} {pk : List Nat} {K : Xb → Objs → Prop} {kd : Nat → Nat}
    (hsel : Region.noSelect ops = true) (hpk : Qs pk ops = true)
    (hK : ∀ sl ob ρ a w, K sl ob → Mod c xo ρ sl ob a w → Q .normal a w)
    (hQ : ∀ ch a w, Q (.panic ch) a w ↔ J2 c xo pk QP ch a w) :
    ∀ (ord : List Nat) (its : List It) (listed : Array Bool) (sl : Xb) (ob : Objs) (ρ : Env) (a : Act) (w : World), Xgf P.p c.N ops kd listed ord its = true → U3 .any ops listed →
      rwp P K (fun v sl ob => QP (.panic v) (Xc sl pk) ob) its sl ob → Mod c xo ρ sl ob a w → Zc P.p .any ops Q Ext (fun j => kd j == 3) ord.length listed a w
  | [], [], listed, sl, ob, ρ, a, w, hc, _, h, m => by
    simp only [Xgf] at hc
    simp only [List.length_nil, Zc]
    exact ⟨by simpa using hc, hK sl ob ρ a w h m⟩
  | i :: r, x :: s, listed, sl, ob, ρ, a, w, hc, hcl, h, m => by
    simp only [Xgf, Bool.and_eq_true] at hc
    obtain ⟨⟨⟨⟨hr, hx⟩, hkd⟩, hkind⟩, hrest⟩ := hc
    have hr' : i ∈ Region.ready .any ops listed := by simpa using hr
    cases ho : ops[i]? with
    | none => simp [ho] at hx
    | some o =>
      simp only [ho] at hx
      have hkd' : x.kind = kd i := by simpa using hkd
      have hpko : ∀ k, o.dst = some k → k ∉ pk := by
        intro k hk
        have := List.all_eq_true.1 hpk o (by simpa using Array.mem_of_getElem? ho)
        simpa [hk] using this
      have hQo : ∀ v : Value, ∀ ch a w, Q (.panic ch) (a.put o.dst v) w → Q (.panic ch) a w := fun v ch a w hq => (hQ ch a w).2 (Xez hpko ((hQ ch _ w).1 hq))
      have hcl' := hcl.step hr'
      simp only [List.length_cons]
      -- the operation's state and text, whichever way its guard goes
      have hd : ∃ (d : Option Nat) (y : I), Uj c.N o.dst d = true ∧ y.chk P.p o.op = true ∧ x.kind = y.kind ∧
          ((Region.wanted o (yielded ops a.tmps) = true ∧ ∃ sl', SM w ρ sl' a ∧ y.wp P sl' ob (fun v ob' => rwp P K (fun v sl ob => QP (.panic v) (Xc sl pk) ob) s (put sl' d v) ob') (fun v ob' => QP (.panic v) (Xc sl' pk) ob')) ∨
           (Region.wanted o (yielded ops a.tmps) = false ∧ ∃ sl', SM w ρ sl' a ∧ rwp P K (fun v sl ob => QP (.panic v) (Xc sl pk) ob) s (put sl' d .undef) ob)) := by
        cases x with
        | op d y =>
          simp only [It.chk, Bool.and_eq_true, Option.isNone_iff_eq_none] at hx
          simp only [rwp] at h
          exact ⟨d, y, hx.1.1, hx.2, rfl, .inl ⟨by simp [Region.wanted, hx.1.2], sl, m.sm, h⟩⟩
        | gop g want d y =>
          simp only [It.chk, Bool.and_eq_true] at hx
          simp only [rwp] at h
          exact ⟨d, y, hx.1.1, hx.2, rfl, Yx (ops := ops) m.sm hx.1.2 h⟩
      obtain ⟨d, y, hdst, hy, hky, hways⟩ := hd
      -- an operation that may be taken first
      have first : ∀ l : Bool, (∀ cc, y = .c cc → cc.isLd = l) → (∃ cc, y = .c cc) → Region.free .any ops listed i = true →
          (l = true → ∀ j, j < ops.size → (kd j == 3) = true → j ≠ i → ∃ fuel, Qf .any ops i fuel j = true) → Zc P.p .any ops Q Ext (fun j => kd j == 3) (r.length + 1) listed a w := by
        intro l hld hcc hfree hwt
        obtain ⟨cc, rfl⟩ := hcc
        have hld := hld cc rfl
        rcases hways with ⟨hw, sl', hs, hwp⟩ | ⟨hw, sl', hs, hwp⟩
        · simp only [I.wp] at hwp
          obtain ⟨v, z, hk, hrep, hrun⟩ := C.sound hs m.om hy hwp
          obtain ⟨g1, g2, g3⟩ := Xf hdst m.size hs hrep
          refine Zi (l := l) Ext.refl (fun _ _ _ => Ext.trans) ho (Region.noSelect_spec hsel) (hQo v) hwt _ listed a w hcl (Region.free_spec ho hfree) hr' (.inl ⟨hw, fun w' hw' => hrun o rfl w' (fun e => hw' (by rw [← hld]; exact e))⟩) ?_
          exact Yd hg hsel hpk hK hQ r s _ _ ob ρ _ w hrest hcl' hk ⟨m.base, m.om, g1, g2, g3.trans m.df, m.xo, m.gl⟩
        · obtain ⟨g1, g2, g3⟩ := Xf hdst m.size hs (Yk.2 rfl)
          refine Zi (l := l) Ext.refl (fun _ _ _ => Ext.trans) ho (Region.noSelect_spec hsel) (hQo undef) hwt _ listed a w hcl (Region.free_spec ho hfree) hr' (.inr ⟨hw, rfl⟩) ?_
          exact Yd hg hsel hpk hK hQ r s _ _ ob ρ _ w hrest hcl' hwp ⟨m.base, m.om, g1, g2, g3.trans m.df, m.xo, m.gl⟩
      -- the only one that may come up
      have alone : Region.ready .any ops listed = [i] → (y.kind = 2 ∨ y.kind = 3 ∨ y.kind = 4) → Zc P.p .any ops Q Ext (fun j => kd j == 3) (r.length + 1) listed a w := by
        intro hra hk23
        refine ⟨fun h0 => (by rw [hra] at h0; cases h0), fun j hj => ?_⟩
        rw [hra] at hj
        simp at hj; subst hj
        unfold wpOp
        simp only [ho]
        rcases hways with ⟨hw, sl', hs, hwp⟩ | ⟨hw, sl', hs, hwp⟩
        · rw [if_pos hw]
          refine .inl ?_
          rcases hk23 with hk2 | hk3 | hk4
          · refine I.soundE (m.gl.trans hg.symm) hs m.om hk2 hy hwp o rfl _ _ (fun v z w' hk hrep he => ⟨fun _ => he, ?_⟩)
            obtain ⟨g1, g2, g3⟩ := Xf hdst m.size (hs.tr he.tr) hrep
            exact Yd hg hsel hpk hK hQ r s _ _ ob ρ _ w' hrest hcl' hk ⟨m.base.tr he.tr, m.om.ext he, g1, g2, g3.trans m.df, m.xo, m.gl⟩
          · refine I.sound (m.gl.trans hg.symm) hs m.om hy hwp o rfl _ _ (fun v z ob' w' ρ' hk hrep ho' t => ⟨fun hf => ?_, ?_⟩) (fun u z ob' w' ρ' hk hrep ho' t => ?_)
            · rw [← hkd', hky, hk3] at hf; cases hf
            · obtain ⟨g1, g2, g3⟩ := Xf hdst m.size (hs.tr t) hrep
              exact Yd hg hsel hpk hK hQ r s _ _ ob' ρ' _ w' hrest hcl' hk ⟨m.base.tr t, ho', g1, g2, g3.trans m.df, t.xo.trans m.xo, t.gl.trans m.gl⟩
            · exact (hQ _ _ _).2 ⟨z, sl', ob', ρ', u, hk, rfl, hrep, m.base.tr t, ho', (hs.tr t).keep pk, m.size, m.df, t.xo.trans m.xo, t.gl.trans m.gl⟩
          · refine I.soundX hs m.om hk4 hy hwp o rfl _ _ (fun v z ob' w' ρ' hk hrep ho' t he => ⟨fun _ => he, ?_⟩)
            obtain ⟨g1, g2, g3⟩ := Xf hdst m.size (hs.tr t) hrep
            exact Yd hg hsel hpk hK hQ r s _ _ ob' ρ' _ w' hrest hcl' hk ⟨m.base.tr t, ho', g1, g2, g3.trans m.df, t.xo.trans m.xo, t.gl.trans m.gl⟩
        · rw [hw]
          simp only [Bool.false_eq_true, if_false]
          refine ⟨fun _ => Ext.refl w, ?_⟩
          obtain ⟨g1, g2, g3⟩ := Xf hdst m.size hs (Yk.2 rfl)
          exact Yd hg hsel hpk hK hQ r s _ _ ob ρ _ w hrest hcl' hwp ⟨m.base, m.om, g1, g2, g3.trans m.df, m.xo, m.gl⟩
      have hkl : y.kind = 0 ∨ y.kind = 1 ∨ y.kind = 2 ∨ y.kind = 3 ∨ y.kind = 4 := by
        cases y with
        | c cc => simp only [I.kind]; split <;> simp
        | _ => simp [I.kind]
      have hcc : ∀ n, (n = 0 ∨ n = 1) → y.kind = n → (∃ cc, y = .c cc) ∧ ∀ cc, y = .c cc → cc.isLd = (n == 1) := by
        intro n hn hyn
        cases y with
        | c cc =>
          refine ⟨⟨cc, rfl⟩, fun c' e => ?_⟩
          cases e
          simp only [I.kind] at hyn
          cases hl : cc.isLd <;> simp [hl] at hyn <;> subst hyn <;> rfl
        | _ => simp [I.kind] at hyn; subst hyn; simp at hn
      rcases hkl with h0 | h1 | h2 | h3 | h4
      · rw [hky, h0] at hkind
        obtain ⟨c1, c2⟩ := hcc 0 (.inl rfl) h0
        exact first false (fun cc e => by simpa using c2 cc e) c1 hkind (by simp)
      · rw [hky, h1] at hkind
        simp only [Bool.and_eq_true] at hkind
        obtain ⟨c1, c2⟩ := hcc 1 (.inr rfl) h1
        refine first true (fun cc e => by simpa using c2 cc e) c1 hkind.1 (fun _ j hj hk3 hne => ⟨ops.size, ?_⟩)
        have := List.all_eq_true.1 hkind.2 j (by simpa using hj)
        have hk3' : kd j = 3 := by simpa using hk3
        simpa [hk3', hne] using this
      · rw [hky, h2] at hkind
        exact alone (by simpa using hkind) (.inl h2)
      · rw [hky, h3] at hkind
        exact alone (by simpa using hkind) (.inr (.inl h3))
      · rw [hky, h4] at hkind
        exact alone (by simpa using hkind) (.inr (.inr h4))
  | [], _ :: _, _, _, _, _, _, _, hc, _, _, _ => by simp [Xgf] at hc
  | _ :: _, [], _, _, _, _, _, _, hc, _, _, _ => by simp [Xgf] at hc

theorem Xh2 {P : Prg} {c : Ctx} (hg : P.g = c.g) {xo : Nat → Prop} {ops : Array Oper} {Q : Exit → Act → World → Prop} {QP : Zt} {pk : List Nat} {next : Xb → Objs → Prop} {i : Nat} {o : Oper} {x : It} {sl : Xb} {ob : Objs} {ρ : Env} {a : Act} {w : World} {N : Act → World → Prop}
    (hQ : ∀ ch a w, Q (.panic ch) a w ↔ J2 c xo pk QP ch a w) (ho : ops[i]? = some o) (hx : x.chk P.p c.N ops o = true) (h : itK P next (fun v sl ob => QP (.panic v) (Xc sl pk) ob) x sl ob) (m : Mod c xo ρ sl ob a w)
    (hN : ∀ sl' ob' ρ' a' w', next sl' ob' → Mod c xo ρ' sl' ob' a' w' → N a' w') : wpOp P.p ops Q i (fun a' w' => (x.kind ≠ 3 → Ext w w') ∧ N a' w') a w := by
  have hd : ∃ (d : Option Nat) (y : I), Uj c.N o.dst d = true ∧ y.chk P.p o.op = true ∧ x.kind = y.kind ∧
      ((Region.wanted o (yielded ops a.tmps) = true ∧ ∃ sl', SM w ρ sl' a ∧ y.wp P sl' ob (fun v ob' => next (put sl' d v) ob') (fun v ob' => QP (.panic v) (Xc sl' pk) ob')) ∨
       (Region.wanted o (yielded ops a.tmps) = false ∧ ∃ sl', SM w ρ sl' a ∧ next (put sl' d .undef) ob)) := by
    cases x with
    | op d y =>
      simp only [It.chk, Bool.and_eq_true, Option.isNone_iff_eq_none] at hx
      exact ⟨d, y, hx.1.1, hx.2, rfl, .inl ⟨by simp [Region.wanted, hx.1.2], sl, m.sm, h⟩⟩
    | gop g want d y =>
      simp only [It.chk, Bool.and_eq_true] at hx
      simp only [itK] at h
      exact ⟨d, y, hx.1.1, hx.2, rfl, Yx (ops := ops) m.sm hx.1.2 h⟩
  obtain ⟨d, y, hdst, hy, hky, hways⟩ := hd
  unfold wpOp
  simp only [ho]
  rcases hways with ⟨hw, sl', hs, hwp⟩ | ⟨hw, sl', hs, hwp⟩
  · rw [if_pos hw]
    refine .inl ?_
    by_cases hk3 : y.kind = 3
    · refine I.sound (m.gl.trans hg.symm) hs m.om hy hwp o rfl _ _ (fun v z ob' w' ρ' hk hrep ho' t => ⟨fun hf => ?_, ?_⟩) (fun u z ob' w' ρ' hk hrep ho' t => ?_)
      · rw [hky] at hf; exact absurd hk3 hf
      · obtain ⟨g1, g2, g3⟩ := Xf hdst m.size (hs.tr t) hrep
        exact hN _ ob' ρ' _ w' hk ⟨m.base.tr t, ho', g1, g2, g3.trans m.df, t.xo.trans m.xo, t.gl.trans m.gl⟩
      · exact (hQ _ _ _).2 ⟨z, sl', ob', ρ', u, hk, rfl, hrep, m.base.tr t, ho', (hs.tr t).keep pk, m.size, m.df, t.xo.trans m.xo, t.gl.trans m.gl⟩
    · by_cases hk2 : y.kind = 2
      · refine I.soundE (m.gl.trans hg.symm) hs m.om hk2 hy hwp o rfl _ _ (fun v z w' hk hrep he => ⟨fun _ => he, ?_⟩)
        obtain ⟨g1, g2, g3⟩ := Xf hdst m.size (hs.tr he.tr) hrep
        exact hN _ ob ρ _ w' hk ⟨m.base.tr he.tr, m.om.ext he, g1, g2, g3.trans m.df, m.xo, m.gl⟩
      · by_cases hk4 : y.kind = 4
        · refine I.soundX hs m.om hk4 hy hwp o rfl _ _ (fun v z ob' w' ρ' hk hrep ho' t he => ⟨fun _ => he, ?_⟩)
          obtain ⟨g1, g2, g3⟩ := Xf hdst m.size (hs.tr t) hrep
          exact hN _ ob' ρ' _ w' hk ⟨m.base.tr t, ho', g1, g2, g3.trans m.df, t.xo.trans m.xo, t.gl.trans m.gl⟩
        cases y with
        | c cc =>
          simp only [I.wp] at hwp
          obtain ⟨v, z, hk, hrep, hrun⟩ := C.sound hs m.om hy hwp
          obtain ⟨g1, g2, g3⟩ := Xf hdst m.size hs hrep
          unfold Oper.wp
          rw [hrun o rfl w (fun _ => Ext.refl w)]
          exact ⟨fun _ => Ext.refl w, hN _ ob ρ _ w hk ⟨m.base, m.om, g1, g2, g3.trans m.df, m.xo, m.gl⟩⟩
        | _ => exfalso; simp [I.kind] at hk2 hk3 hk4
  · rw [hw]
    simp only [Bool.false_eq_true, if_false]
    refine ⟨fun _ => Ext.refl w, ?_⟩
    obtain ⟨g1, g2, g3⟩ := Xf hdst m.size hs (Yk.2 rfl)
    exact hN _ ob ρ _ w hwp ⟨m.base, m.om, g1, g2, g3.trans m.df, m.xo, m.gl⟩

theorem Y0 {P : Prg} {c : Ctx} (hg : P.g = c.g) {xo : Nat → Prop} {ops : Array Oper} {Q : Exit → Act → World → Prop} {QP : Zt} {pk : List Nat} {K : Xb → Objs → Prop} {kd : Nat → Nat}
    (hsel : Region.noSelect ops = true) (hpk : Qs pk ops = true)
    (hK : ∀ sl ob ρ a w, K sl ob → Mod c xo ρ sl ob a w → Q .normal a w)
    (hQ : ∀ ch a w, Q (.panic ch) a w ↔ J2 c xo pk QP ch a w) :
    ∀ (n : Nat) (t : Ot) (listed : Array Bool) (sl : Xb) (ob : Objs) (ρ : Env) (a : Act) (w : World), Wh P.p c.N ops kd n listed t = true → U3 .any ops listed →
      owp P K (fun v sl ob => QP (.panic v) (Xc sl pk) ob) t sl ob → Mod c xo ρ sl ob a w → Zc P.p .any ops Q Ext (fun j => kd j == 3) n listed a w
  | 0, .done, listed, sl, ob, ρ, a, w, hc, _, h, m => by
    simp only [Wh] at hc
    simp only [owp] at h
    simp only [Zc]
    exact ⟨by simpa using hc, hK sl ob ρ a w h m⟩
  | n + 1, .br l, listed, sl, ob, ρ, a, w, hc, hcl, h, m => by
    simp only [Wh, Bool.and_eq_true, Bool.not_eq_true'] at hc
    obtain ⟨⟨hne, hall⟩, hcs⟩ := hc
    simp only [owp] at h
    simp only [Zc]
    refine ⟨fun h0 => by rw [h0] at hne; simp at hne, fun j hj => ?_⟩
    have hh := List.all_eq_true.1 hall j hj
    obtain ⟨x, r, o, g1, g2, g3, g4, g5⟩ : ∃ x r o, ops[j]? = some o ∧ x.chk P.p c.N ops o = true ∧ x.kind = kd j ∧ Wh P.p c.N ops kd n (listed.setIfInBounds j true) r = true ∧ itK P (owp P K (fun v sl ob => QP (.panic v) (Xc sl pk) ob) r) (fun v sl ob => QP (.panic v) (Xc sl pk) ob) x sl ob := by
      clear hne hall
      revert h hcs hh
      generalize l = l
      intro hh hcs h
      have go : ∀ (l : Ots), l.has j = true → Xcl P.p c.N ops kd n listed l = true → Xc5 P K (fun v sl ob => QP (.panic v) (Xc sl pk) ob) l sl ob → ∃ x r o, ops[j]? = some o ∧ x.chk P.p c.N ops o = true ∧ x.kind = kd j ∧ Wh P.p c.N ops kd n (listed.setIfInBounds j true) r = true ∧ itK P (owp P K (fun v sl ob => QP (.panic v) (Xc sl pk) ob) r) (fun v sl ob => QP (.panic v) (Xc sl pk) ob) x sl ob := by
        intro l
        induction l using Ots.rec (motive_1 := fun _ => True) with
        | nil => intro h; simp [Ots.has] at h
        | cons i x r l _ ih =>
          intro h1 h2 h3
          simp only [Ots.has, Bool.or_eq_true, beq_iff_eq] at h1
          simp only [Xcl, Bool.and_eq_true] at h2
          simp only [Xc5] at h3
          by_cases e : i = j
          · subst e
            obtain ⟨⟨⟨⟨_, hx⟩, hk⟩, hr⟩, _⟩ := h2
            cases ho : ops[i]? with
            | none => simp [ho] at hx
            | some o => simp only [ho] at hx; exact ⟨x, r, o, rfl, hx, by simpa using hk, hr, h3.1⟩
          · exact ih (h1.resolve_left e) h2.2 h3.2
        | done => trivial
        | one i x r _ => trivial
        | br l _ => trivial
      first | exact go _ hh hcs h | exact go _ h hcs hh
    have hst := Xh2 (Q := Q) (N := fun a' w' => Zc P.p .any ops Q Ext (fun j => kd j == 3) n (listed.setIfInBounds j true) a' w') hg hQ g1 g2 g5 m (fun sl' ob' ρ' a' w' hk m' => Y0 hg hsel hpk hK hQ n r _ sl' ob' ρ' a' w' g4 (hcl.step hj) hk m')
    refine wpOp_mono (fun a' w' h' => ⟨fun hf => h'.1 ?_, h'.2⟩) hst
    rw [g3]; intro e; simp [e] at hf
  | n + 1, .one i x r, listed, sl, ob, ρ, a, w, hc, hcl, h, m => by
    simp only [Wh, Bool.and_eq_true] at hc
    obtain ⟨⟨⟨⟨hr, hx⟩, hkd⟩, hkind⟩, hrest⟩ := hc
    have hr' : i ∈ Region.ready .any ops listed := by simpa using hr
    simp only [owp] at h
    cases ho : ops[i]? with
    | none => simp [ho] at hx
    | some o =>
      simp only [ho] at hx
      have hkd' : x.kind = kd i := by simpa using hkd
      have hcl' := hcl.step hr'
      -- the only one that may come up
      have alone : Region.ready .any ops listed = [i] → Zc P.p .any ops Q Ext (fun j => kd j == 3) (n + 1) listed a w := by
        intro hra
        refine ⟨fun h0 => (by rw [hra] at h0; cases h0), fun j hj => ?_⟩
        rw [hra] at hj
        simp at hj; subst hj
        have hst := Xh2 (Q := Q) (N := fun a' w' => Zc P.p .any ops Q Ext (fun j => kd j == 3) n (listed.setIfInBounds j true) a' w') hg hQ ho hx h m (fun sl' ob' ρ' a' w' hk m' => Y0 hg hsel hpk hK hQ n r _ sl' ob' ρ' a' w' hrest hcl' hk m')
        refine wpOp_mono (fun a' w' h' => ⟨fun hf => h'.1 ?_, h'.2⟩) hst
        rw [hkd']; intro e; simp [e] at hf
      have hpko : ∀ k, o.dst = some k → k ∉ pk := by
        intro k hk
        have := List.all_eq_true.1 hpk o (by simpa using Array.mem_of_getElem? ho)
        simpa [hk] using this
      have hQo : ∀ v : Value, ∀ ch a w, Q (.panic ch) (a.put o.dst v) w → Q (.panic ch) a w := fun v ch a w hq => (hQ ch a w).2 (Xez hpko ((hQ ch _ w).1 hq))
      have hd : ∃ (d : Option Nat) (y : I), Uj c.N o.dst d = true ∧ y.chk P.p o.op = true ∧ x.kind = y.kind ∧
          ((Region.wanted o (yielded ops a.tmps) = true ∧ ∃ sl', SM w ρ sl' a ∧ y.wp P sl' ob (fun v ob' => owp P K (fun v sl ob => QP (.panic v) (Xc sl pk) ob) r (put sl' d v) ob') (fun v ob' => QP (.panic v) (Xc sl' pk) ob')) ∨
           (Region.wanted o (yielded ops a.tmps) = false ∧ ∃ sl', SM w ρ sl' a ∧ owp P K (fun v sl ob => QP (.panic v) (Xc sl pk) ob) r (put sl' d .undef) ob)) := by
        cases x with
        | op d y =>
          simp only [It.chk, Bool.and_eq_true, Option.isNone_iff_eq_none] at hx
          exact ⟨d, y, hx.1.1, hx.2, rfl, .inl ⟨by simp [Region.wanted, hx.1.2], sl, m.sm, h⟩⟩
        | gop g want d y =>
          simp only [It.chk, Bool.and_eq_true] at hx
          simp only [itK] at h
          exact ⟨d, y, hx.1.1, hx.2, rfl, Yx (ops := ops) m.sm hx.1.2 h⟩
      obtain ⟨d, y, hdst, hy, hky, hways⟩ := hd
      have first : ∀ l : Bool, (∀ cc, y = .c cc → cc.isLd = l) → (∃ cc, y = .c cc) → Region.free .any ops listed i = true →
          (l = true → ∀ j, j < ops.size → (kd j == 3) = true → j ≠ i → ∃ fuel, Qf .any ops i fuel j = true) → Zc P.p .any ops Q Ext (fun j => kd j == 3) (n + 1) listed a w := by
        intro l hld hcc hfree hwt
        obtain ⟨cc, rfl⟩ := hcc
        have hld := hld cc rfl
        rcases hways with ⟨hw, sl', hs, hwp⟩ | ⟨hw, sl', hs, hwp⟩
        · simp only [I.wp] at hwp
          obtain ⟨v, z, hk, hrep, hrun⟩ := C.sound hs m.om hy hwp
          obtain ⟨g1, g2, g3⟩ := Xf hdst m.size hs hrep
          refine Zi (l := l) Ext.refl (fun _ _ _ => Ext.trans) ho (Region.noSelect_spec hsel) (hQo v) hwt _ listed a w hcl (Region.free_spec ho hfree) hr' (.inl ⟨hw, fun w' hw' => hrun o rfl w' (fun e => hw' (by rw [← hld]; exact e))⟩) ?_
          exact Y0 hg hsel hpk hK hQ n r _ _ ob ρ _ w hrest hcl' hk ⟨m.base, m.om, g1, g2, g3.trans m.df, m.xo, m.gl⟩
        · obtain ⟨g1, g2, g3⟩ := Xf hdst m.size hs (Yk.2 rfl)
          refine Zi (l := l) Ext.refl (fun _ _ _ => Ext.trans) ho (Region.noSelect_spec hsel) (hQo undef) hwt _ listed a w hcl (Region.free_spec ho hfree) hr' (.inr ⟨hw, rfl⟩) ?_
          exact Y0 hg hsel hpk hK hQ n r _ _ ob ρ _ w hrest hcl' hwp ⟨m.base, m.om, g1, g2, g3.trans m.df, m.xo, m.gl⟩
      have hcc : ∀ n, (n = 0 ∨ n = 1) → y.kind = n → (∃ cc, y = .c cc) ∧ ∀ cc, y = .c cc → cc.isLd = (n == 1) := by
        intro n hn hyn
        cases y with
        | c cc =>
          refine ⟨⟨cc, rfl⟩, fun c' e => ?_⟩
          cases e
          simp only [I.kind] at hyn
          cases hl : cc.isLd <;> simp [hl] at hyn <;> subst hyn <;> rfl
        | _ => simp [I.kind] at hyn; subst hyn; simp at hn
      have hkl : y.kind = 0 ∨ y.kind = 1 ∨ y.kind = 2 ∨ y.kind = 3 ∨ y.kind = 4 := by
        cases y with
        | c cc => simp only [I.kind]; split <;> simp
        | _ => simp [I.kind]
      rcases hkl with h0 | h1 | h2 | h3 | h4
      · rw [hky, h0] at hkind
        obtain ⟨c1, c2⟩ := hcc 0 (.inl rfl) h0
        exact first false (fun cc e => by simpa using c2 cc e) c1 hkind (by simp)
      · rw [hky, h1] at hkind
        simp only [Bool.and_eq_true] at hkind
        obtain ⟨c1, c2⟩ := hcc 1 (.inr rfl) h1
        refine first true (fun cc e => by simpa using c2 cc e) c1 hkind.1 (fun _ j hj hk3 hne => ⟨ops.size, ?_⟩)
        have := List.all_eq_true.1 hkind.2 j (by simpa using hj)
        have hk3' : kd j = 3 := by simpa using hk3
        simpa [hk3', hne] using this
      · rw [hky, h2] at hkind
        exact alone (by simpa using hkind)
      · rw [hky, h3] at hkind
        exact alone (by simpa using hkind)
      · rw [hky, h4] at hkind
        exact alone (by simpa using hkind)
  | 0, .one _ _ _, _, _, _, _, _, _, hc, _, _, _ => by simp [Wh] at hc
  | 0, .br _, _, _, _, _, _, _, hc, _, _, _ => by simp [Wh] at hc
  | _ + 1, .done, _, _, _, _, _, _, hc, _, _, _ => by simp [Wh] at hc

theorem Uw {P : Program} {ops : Array Oper} {Q : Exit → Act → World → Prop} {md : Region.Mode} : ∀ (n m : Nat) (listed : Array Bool) (a : Act) (w : World), n ≤ m → wpAny P md ops Q n listed a w → wpAny P md ops Q m listed a w
  | 0, 0, _, _, _, _, h => h
  | 0, m + 1, listed, a, w, _, h => ⟨fun _ => h.2, fun i hi => by rw [h.1] at hi; cases hi⟩
  | n + 1, m + 1, listed, a, w, hle, h => ⟨h.1, fun i hi => wpOp_mono (fun a' w' h' => Uw n m _ a' w' (by omega) h') (h.2 i hi)⟩
  | n + 1, 0, _, _, _, hle, _ => by omega

theorem U7 {p : Nat → Prop} : ∀ n, p n → ∃ m, p m ∧ ∀ k, p k → m ≤ k := by
  intro n
  induction n using Nat.strongRecOn with
  | _ n ih =>
    intro hn
    by_cases h : ∃ k, p k ∧ k < n
    · obtain ⟨k, hk, hlt⟩ := h; exact ih k hlt hk
    · exact ⟨n, hn, fun k hk => Nat.le_of_not_lt fun hlt => h ⟨k, hk, hlt⟩⟩

theorem X2 {P : Prg} (hm : P.p.follows .mixedOrders = true) {c : Ctx} (hg : P.g = c.g) {xo : Nat → Prop} : ∀ (code : Code) (s : S) (Q : Zt) (sl : Xb) (ob : Objs) (ρ : Env) (a : Act) (w : World),
    S.chk P.p c.N code s = true → cwp P s Q sl ob → Mod c xo ρ sl ob a w → code.wp P.p (lift c xo Q) a w
  | .skip, s, Q, sl, ob, ρ, a, w, hc, h, m => by
    cases s <;> simp [S.chk] at hc
    exact wp_skip ⟨.normal, sl, ob, ρ, h, trivial, m⟩
  | .region id ops draw, s, Q, sl, ob, ρ, a, w, hc, h, m => by
    cases s <;> simp only [S.chk, Bool.false_eq_true] at hc
    case rgT n t keep pk =>
      simp only [cwp] at h
      simp only [Bool.and_eq_true] at hc
      obtain ⟨⟨⟨⟨hdr, hlen⟩, hsel⟩, hpk⟩, hcan⟩ := hc
      subst hdr
      have hlen : n ≤ ops.size := by simpa using hlen
      let Q' : Exit → Act → World → Prop := fun e a w => match e with
        | .panic ch => J2 c xo pk Q ch a w
        | e => lift c xo Q e a w
      have hx : Ext w { w with drawn := w.drawn + 1 } := Ext.drew w _
      have key := Y0 (Q := Q') (QP := Q) (K := fun sl ob => Q .normal (Xc sl keep) ob) hg hsel hpk
        (fun sl ob ρ a w hk m => (⟨.normal, _, ob, ρ, hk, trivial, m.base, m.om, m.sm.keep keep, m.size, m.df, m.xo, m.gl⟩ : lift c xo Q .normal a w))
        (fun ch a w => Iff.rfl) n t (Array.replicate ops.size false) sl ob ρ a { w with drawn := w.drawn + 1 } hcan
        (fun k o _ hl => by
          rcases Nat.lt_or_ge k ops.size with h' | h'
          · simp [h'] at hl
          · simp [h'] at hl) h ⟨m.base.tr hx.tr, m.om.ext hx, m.sm.tr hx.tr, m.size, m.df, m.xo, m.gl⟩
      have hany := Uc _ _ _ _ key
      refine wp_mono (wp_region_any hm (Uw _ _ _ _ _ hlen hany)) (fun e a' w' he => ?_)
      cases e with
      | panic ch =>
        obtain ⟨v, sl', ob', ρ', u, h1, h2, h3, m'⟩ := he
        exact ⟨.panic v, _, ob', ρ', h1, ⟨u, h2, h3⟩, m'⟩
      | _ => exact he
    rename_i ord l keep pk
    simp only [cwp] at h
    cases draw with
    | false =>
      simp only [Bool.false_eq_true, if_false] at hc
      refine wp_region_list (Uu (c := c) (xo := xo) hg (fun sl ob ρ a w hk m => ?_) (fun v sl ob ρ a w u hk m hr => ?_) ops.toList l sl ob ρ a w hc h m)
      · exact ⟨.normal, _, ob, ρ, hk, trivial, m.base, m.om, m.sm.keep keep, m.size, m.df, m.xo, m.gl⟩
      · exact ⟨.panic v, _, ob, ρ, hk, ⟨u, rfl, hr⟩, m.base, m.om, m.sm.keep pk, m.size, m.df, m.xo, m.gl⟩
    | true =>
      simp only [if_true, Bool.and_eq_true] at hc
      obtain ⟨⟨⟨hlen, hsel⟩, hpk⟩, hcan⟩ := hc
      have hlen : ord.length ≤ ops.size := by simpa using hlen
      let Q' : Exit → Act → World → Prop := fun e a w => match e with
        | .panic ch => J2 c xo pk Q ch a w
        | e => lift c xo Q e a w
      have hx : Ext w { w with drawn := w.drawn + 1 } := Ext.drew w _
      have key := Yd (Q := Q') (QP := Q) (K := fun sl ob => Q .normal (Xc sl keep) ob) hg hsel hpk
        (fun sl ob ρ a w hk m => (⟨.normal, _, ob, ρ, hk, trivial, m.base, m.om, m.sm.keep keep, m.size, m.df, m.xo, m.gl⟩ : lift c xo Q .normal a w))
        (fun ch a w => Iff.rfl) ord l (Array.replicate ops.size false) sl ob ρ a { w with drawn := w.drawn + 1 } hcan
        (fun k o _ hl => by
          rcases Nat.lt_or_ge k ops.size with h' | h'
          · simp [h'] at hl
          · simp [h'] at hl) h ⟨m.base.tr hx.tr, m.om.ext hx, m.sm.tr hx.tr, m.size, m.df, m.xo, m.gl⟩
      have hany := Uc _ _ _ _ key
      refine wp_mono (wp_region_any hm (Uw _ _ _ _ _ hlen hany)) (fun e a' w' he => ?_)
      cases e with
      | panic ch =>
        obtain ⟨v, sl', ob', ρ', u, h1, h2, h3, m'⟩ := he
        exact ⟨.panic v, _, ob', ρ', h1, ⟨u, h2, h3⟩, m'⟩
      | _ => exact he
  | .seq x y, s, Q, sl, ob, ρ, a, w, hc, h, m => by
    cases s <;> simp [S.chk] at hc
    simp only [cwp] at h
    refine wp_seq (wp_mono (X2 hm hg x _ _ sl ob ρ a w hc.1 h m) ?_)
    rintro e a' w' ⟨ae, sl', ob', ρ', hq, he, m'⟩
    cases ae with
    | normal =>
      cases e <;> simp only [exM] at he
      exact X2 hm hg y _ Q sl' ob' ρ' a' w' hc.2 hq m'
    | exit n =>
      cases e <;> simp only [exM] at he
      exact ⟨.exit n, sl', ob', ρ', hq, he, m'⟩
    | ret =>
      cases e <;> simp only [exM] at he
      exact ⟨.ret, sl', ob', ρ', hq, trivial, m'⟩
    | panic v =>
      cases e <;> simp only [exM] at he
      exact ⟨.panic v, sl', ob', ρ', hq, he, m'⟩
  | .cond d x y, s, Q, sl, ob, ρ, a, w, hc, h, m => by
    cases s <;> simp [S.chk] at hc
    obtain ⟨⟨h1, h2⟩, h3⟩ := hc
    simp only [cwp] at h
    have r1 := A.sound m.sm h1
    unfold Us at h
    split at h
    · rename_i t e
      rw [e, rep_bool] at r1
      exact wp_cond_split r1 (fun ht => X2 hm hg x _ Q sl ob ρ a w h2 (h.1 ht) m) (fun ht => X2 hm hg y _ Q sl ob ρ a w h3 (h.2 ht) m)
    · exact h.elim
  | .block n x, s, Q, sl, ob, ρ, a, w, hc, h, m => by
    cases s <;> simp [S.chk] at hc
    obtain ⟨rfl, h1⟩ := hc
    simp only [cwp] at h
    refine wp_block (wp_mono (X2 hm hg x _ _ sl ob ρ a w h1 h m) ?_)
    rintro e a' w' ⟨ae, sl', ob', ρ', hq, he, m'⟩
    cases ae with
    | normal =>
      cases e <;> simp only [exM] at he
      exact ⟨.normal, sl', ob', ρ', hq, trivial, m'⟩
    | exit k =>
      cases e <;> simp only [exM] at he
      subst he
      simp only [Yj] at hq
      simp only [Exit.inBlock]
      split
      · rename_i e; rw [if_pos e] at hq; exact ⟨.normal, sl', ob', ρ', hq, trivial, m'⟩
      · rename_i e; rw [if_neg e] at hq; exact ⟨.exit _, sl', ob', ρ', hq, rfl, m'⟩
    | ret =>
      cases e <;> simp only [exM] at he
      exact ⟨.ret, sl', ob', ρ', hq, trivial, m'⟩
    | panic v =>
      cases e <;> simp only [exM] at he
      exact ⟨.panic v, sl', ob', ρ', hq, he, m'⟩
  | .loop x, s, Q, sl, ob, ρ, a, w, hc, h, m => by
    cases s <;> simp [S.chk] at hc
    simp only [cwp] at h
    obtain ⟨ι, St, Ot, I, μ, i0, hi0, he0, he1, hstep⟩ := h.run
    let G : Act → World → Nat → Prop := fun a w n => ∃ i ρ, I i ∧ μ i = n ∧ Mod c xo ρ (St i) (Ot i) a w
    let M : Act → World → Nat := fun a w => open Classical in if h : ∃ n, G a w n then Classical.choose (U7 (p := G a w) (Classical.choose h) (Classical.choose_spec h)) else 0
    have hM : ∀ a w n, G a w n → G a w (M a w) ∧ M a w ≤ n := by
      intro a w n hn
      have hex : ∃ n, G a w n := ⟨n, hn⟩
      have := Classical.choose_spec (U7 (p := G a w) (Classical.choose hex) (Classical.choose_spec hex))
      simp only [M, hex, dif_pos]
      exact ⟨this.1, this.2 n hn⟩
    refine wp_loop (I := fun a w => ∃ n, G a w n) (μ := M) ⟨μ i0, i0, ρ, hi0, rfl, by rw [← he0, ← he1]; exact ⟨m.base, m.om, m.sm.keep _, m.size, m.df, m.xo, m.gl⟩⟩ ?_
    rintro a1 w1 ⟨n, hn⟩
    obtain ⟨⟨i, ρ1, hi, hmu, m1⟩, _⟩ := hM a1 w1 n hn
    refine wp_mono (X2 hm hg x _ _ _ _ ρ1 a1 w1 hc (hstep i hi) m1) ?_
    rintro e a' w' ⟨ae, sl', ob', ρ', hq, he, m'⟩
    cases ae with
    | normal =>
      cases e <;> simp only [exM] at he
      simp only [Zn] at hq
      obtain ⟨drp, q1, q2, j, hj, hlt, hSj, hOj⟩ := hq
      have hold1 : ∀ id o, ρ1.m id = some o → young (fresh (Ot i)) drp id = false := fun id o h0 => by
        obtain ⟨x, hx⟩ := m1.om.dom id o h0
        have hlt : ¬ fresh (Ot i) ≤ id := fun hle => by rw [Xv _ _ hle] at hx; cases hx
        simp [young, hlt]
      have hold : ∀ id o, c.m0 id = some o → young (fresh (Ot i)) drp id = false := fun id o h0 => by
        obtain ⟨o', h1, _⟩ := m1.base.same id o h0
        exact hold1 id o' h1
      have hev : ∀ p ∈ c.ev, V.men (young (fresh (Ot i)) drp) p.1 = false := fun p hp => V.men_temp hold1 (m1.base.ext p hp)
      have hg : G a' w' (μ j) := ⟨j, _, hj, rfl, by rw [← hSj, ← hOj]; exact m'.sub hold hev q1 q2⟩
      have := hM a' w' _ hg
      exact ⟨⟨_, hg⟩, by omega⟩
    | exit k =>
      cases e <;> simp only [exM] at he
      exact ⟨.exit k, sl', ob', ρ', hq, he, m'⟩
    | ret =>
      cases e <;> simp only [exM] at he
      exact ⟨.ret, sl', ob', ρ', hq, trivial, m'⟩
    | panic v =>
      cases e <;> simp only [exM] at he
      exact ⟨.panic v, sl', ob', ρ', hq, he, m'⟩
  | .exit n, s, Q, sl, ob, ρ, a, w, hc, h, m => by
    cases s <;> simp [S.chk] at hc
    subst hc
    exact wp_exit ⟨.exit n, sl, ob, ρ, h, rfl, m⟩
  | .ret, s, Q, sl, ob, ρ, a, w, hc, h, m => by
    cases s <;> simp [S.chk] at hc
    exact wp_ret ⟨.ret, sl, ob, ρ, h, trivial, m⟩
  | .rangeFunc _ _ _ _, s, Q, sl, ob, ρ, a, w, hc, h, m => by cases s <;> simp [S.chk] at hc
  | .scope _, s, Q, sl, ob, ρ, a, w, hc, h, m => by cases s <;> simp [S.chk] at hc
  | .label _, s, Q, sl, ob, ρ, a, w, hc, h, m => by cases s <;> simp [S.chk] at hc
  | .goto _, s, Q, sl, ob, ρ, a, w, hc, h, m => by cases s <;> simp [S.chk] at hc
  | .refuse _, s, Q, sl, ob, ρ, a, w, hc, h, m => by cases s <;> simp [S.chk] at hc
end Go.Ab
/- Functions: what is shown of a body is a fact on the call. Over any program; no condition. -/
namespace Go.Ab
open Go

inductive RV where
 | t (k : Nat)
 | c (k n : Nat) (ag : Bool)

def RV.chk (P : Program) : ResultVar → RV → Bool
 | .tmp j, .t k => j == k
 | .cell a ty, .c k n ag => a == k && Xr P ty == some n && (P.underlying ty).isSome && agT P ty == ag
 | _, _ => false
def Va (P : Program) : List ResultVar → List RV → Bool
 | [], [] => true
 | x :: r, y :: s => y.chk P x && Va P r s
 | _, _ => false

def RV.wp (sl : Xb) (ob : Objs) (K : V → Prop) : RV → Prop
 | .t k => K (look sl k)
 | .c k n ag => ldK ob n ag K (look sl k)
def Zu (sl : Xb) (ob : Objs) : List RV → (List V → Prop) → Prop
 | [], K => K []
 | x :: r, K => x.wp sl ob fun v => Zu sl ob r fun vs => K (v :: vs)

def Wb : List V → V
 | [v] => v
 | vs => .tup vs

def Zg (K : List D → Objs → Prop) : Option (List D × Objs) → Prop
 | some (l, ob) => K l ob
 | none => False

def J7 (rs : List RV) (K : V → Prop) : Zt
 | .normal, sl, ob => Zu sl ob rs fun vs => Zg (fun l _ => K (Wb (l.map .d))) (V.givs ob vs)
 | .ret, sl, ob => Zu sl ob rs fun vs => Zg (fun l _ => K (Wb (l.map .d))) (V.givs ob vs)
 | .exit _, _, _ => False
 | .panic _, _, _ => False

def gvO (v : V) (ob : Objs) (K : V → Objs → Prop) : Option (D × Objs) → Prop
 | some (d, ob') => K (.d d) ob'
 | none => K v ob
def Xcb : List V → Objs → (List V → Objs → Prop) → Prop
 | [], ob, K => K [] ob
 | v :: r, ob, K => gvO v ob (fun v' ob' => Xcb r ob' fun vs ob'' => K (v' :: vs) ob'') (V.giv ob v)
def Xx (n : Nat) (K : Objs → Prop) (vs : List V) (ob : Objs) : Prop :=
 ∃ kp : List Nat, V.mens (young n kp) vs = false ∧ noMenO (young n kp) (Ys (young n kp) ob) = true ∧ K (Ys (young n kp) ob)
def Wj (n : Nat) (rs : List RV) (K : Out → Objs → Prop) : Zt
 | .normal, sl, ob => Zu sl ob rs fun vs => Xcb vs ob fun vs ob => Xx n (K (.ret (Wb vs))) vs ob
 | .ret, sl, ob => Zu sl ob rs fun vs => Xcb vs ob fun vs ob => Xx n (K (.ret (Wb vs))) vs ob
 | .panic v, _, ob => Xx n (K (.panic v)) [v] ob
 | .exit _, _, _ => False

def Ua (k : Nat) : List V → Xb
 | [] => []
 | v :: r => (k, v) :: Ua (k + 1) r

def Xt (P : Program) (f n : Nat) (s : S) (rs : List RV) : Bool := match P.funcs[f]? with
 | some fn => match fn.body with
  | some code => decide (n ≤ fn.ntmps) && S.chk P fn.ntmps code s && Va P fn.results.toList rs
  | none => false
 | none => false

section
variable {P : Program} {w : World} {ρ : Env}

def Xaj (a : Act) (r : ResultVar) : Sem Value := match r with
 | .tmp t => pure (a.tmps.getD t undef)
 | .cell x t => do loadVar t (← asAddr (a.tmps.getD x undef))

theorem Xdj {a : Act} {sl : Xb} {ob : Objs} (hs : SM w ρ sl a) (hO : OM w ρ ob) : ∀ (xs : List ResultVar) (rs : List RV) (K : List V → Prop), Va P xs rs = true → Zu sl ob rs K →
  ∃ vs us, K vs ∧ V.reps w ρ vs us ∧ (xs.mapM (Xaj a)).run P w = .ok us w
 | [], [], K, _, h => ⟨[], [], h, by simp [V.reps], by simp⟩
 | x :: r, y :: s, K, hc, h => by
  simp only [Va, Bool.and_eq_true] at hc
  simp only [Zu] at h
  have one : ∃ v u, Zu sl ob s (fun vs => K (v :: vs)) ∧ v.rep w ρ u ∧ (Xaj a x).run P w = .ok u w := by
   cases x with
   | tmp t =>
    cases y with
    | t k => simp [RV.chk] at hc; obtain ⟨rfl, _⟩ := hc; exact ⟨_, _, h, hs t, by simp [Xaj]⟩
    | c k n ag => simp [RV.chk] at hc
   | cell z t =>
    cases y with
    | t k => simp [RV.chk] at hc
    | c k n ag =>
     simp only [RV.chk, Bool.and_eq_true, beq_iff_eq] at hc
     obtain ⟨⟨⟨⟨rfl, h1⟩, h2⟩, h3⟩, _⟩ := hc
     simp only [RV.wp] at h
     obtain ⟨v, y, hK, hr, hrun⟩ := Qp (P := P) (a := a) (n := n) (ag := ag) (x := .t z) (op := .load t (.tmp z)) hs hO (by simp [C.chk, h1, h2, h3, A.chk]) (by simpa [A.ev] using h)
     refine ⟨y, v, hK, hr, ?_⟩
     have := hrun ⟨none, .load t (.tmp z), 0, "", #[], none⟩ rfl w (fun _ => Ext.refl w)
     simp only [execOp, Act.eval, Sem.run_bind, Instr.loadAt] at this
     simp only [Xaj, Sem.run_bind]
     generalize hv : a.tmps.getD z undef = pv at *
     cases pv with
     | pointer ad =>
      cases ad with
      | none => simp [Instr.sureAddr] at this
      | some ad =>
       simp only [Instr.sureAddr, Sem.run_pure, Result.andThen_ok] at this
       simp only [asAddr, Sem.run_pure, Result.andThen_ok]
       revert this
       generalize (loadVar t ad).run P w = res
       intro this
       cases res with
       | ok x w' => simp at this; obtain ⟨rfl, rfl⟩ := this; rfl
       | halt x w' => simp at this
     | _ => simp [Instr.sureAddr] at this
  obtain ⟨v, u, h1, h2, h3⟩ := one
  obtain ⟨vs, us, k, h4, h5⟩ := Xdj hs hO r s _ hc.2 h1
  refine ⟨v :: vs, u :: us, k, ?_, ?_⟩
  ·simp only [V.reps]; exact ⟨u, us, rfl, h2, h4⟩
  ·simp only [List.mapM_cons, Sem.run_bind, h3, Result.andThen_ok, h5, Sem.run_pure]
 | [], _ :: _, _, hc, _ => by simp [Va] at hc
 | _ :: _, [], _, hc, _ => by simp [Va] at hc

def Xmn : List Value → Value
 | [u] => u
 | us => .tuple us.toArray

theorem Z7 {fn : Func} {a : Act} {sl : Xb} {ob : Objs} {rs : List RV} {K : List V → Prop} (hs : SM w ρ sl a) (hO : OM w ρ ob) (hc : Va P fn.results.toList rs = true) (h : Zu sl ob rs K) :
  ∃ vs us, K vs ∧ V.reps w ρ vs us ∧ (results fn a.tmps).run P w = .ok (Xmn us) w := by
 obtain ⟨vs, us, k, h1, h2⟩ := Xdj (P := P) hs hO _ _ _ hc h
 refine ⟨vs, us, k, h1, ?_⟩
 have h3 : (fn.results.mapM (Xaj a)).run P w = .ok us.toArray w := by
  rw [Array.mapM_eq_mapM_toList]
  simp only [Sem.run_map, h2, Result.andThen_ok]
 have h4 : results fn a.tmps = (fn.results.mapM (Xaj a) >>= fun vs => pure (if h : vs.size = 1 then vs[0] else .tuple vs)) := rfl
 rw [h4, Sem.run_bind]
 simp only [h3, Result.andThen_ok, Sem.run_pure]
 congr 1
 cases us with
 | nil => simp [Xmn]
 | cons u r =>
  cases r with
  | nil => simp [Xmn]
  | cons u' r' => simp [Xmn]

theorem V0 {vs : List V} {us : List Value} (h : V.reps w ρ vs us) : (Wb vs).rep w ρ (Xmn us) := by
 cases vs with
 | nil =>
  simp only [V.reps] at h; subst h
  rw [show Wb [] = .tup [] from rfl, rep_tup]; exact ⟨[], rfl, by simp [V.reps]⟩
 | cons v r =>
  simp only [V.reps] at h
  obtain ⟨u, us', rfl, h1, h2⟩ := h
  cases r with
  | nil => simp only [V.reps] at h2; subst h2; exact h1
  | cons v' r' =>
   have h2' := h2
   simp only [V.reps] at h2
   obtain ⟨u', us'', rfl, h3, h4⟩ := h2
   show (V.tup _).rep w ρ _
   rw [rep_tup]
   refine ⟨_, rfl, ?_⟩
   simp only [V.reps]
   exact ⟨u, _, rfl, h1, u', us'', rfl, h3, h4⟩

theorem Ur : ∀ (vs : List V) (us : List Value) {ρ : Env} {ob ob' : Objs} {l : List D}, OM w ρ ob → V.reps w ρ vs us → V.givs ob vs = some (l, ob') → ∃ ρ', Tr w ρ w ρ' ∧ OM w ρ' ob' ∧ V.reps w ρ' (l.map .d) us
 | [], us, ρ, ob, ob', l, hO, h, e => by
  simp only [V.givs, Option.some.injEq, Prod.mk.injEq] at e
  obtain ⟨rfl, rfl⟩ := e
  exact ⟨ρ, Tr.refl _ _, hO, by simpa only [List.map_nil, V.reps] using h⟩
 | x :: r, us, ρ, ob, ob', l, hO, h, e => by
  simp only [V.givs] at e
  simp only [V.reps] at h
  obtain ⟨u, us', rfl, h1, h2⟩ := h
  split at e
  ·rename_i dd ob1 hg
   obtain ⟨ρ1, t1, o1, hr⟩ := Qq hO (u := u) h1 hg
   cases hg2 : V.givs ob1 r with
   | none => simp [hg2, Qh] at e
   | some q =>
    obtain ⟨l2, ob2⟩ := q
    simp only [hg2, Qh, Option.some.injEq, Prod.mk.injEq] at e
    obtain ⟨rfl, rfl⟩ := e
    obtain ⟨ρ2, t2, o2, hr2⟩ := Ur r us' o1 (V.reps_tr t1 _ _ h2) hg2
    exact ⟨ρ2, t1.trans t2, o2, by simp only [List.map_cons, V.reps]; exact ⟨u, us', rfl, V.rep_tr t2 hr, hr2⟩⟩
  ·cases e
theorem Ji : ∀ (vs : List V) (us : List Value) {ρ : Env} {ob : Objs} {K : List V → Objs → Prop}, OM w ρ ob → V.reps w ρ vs us → Xcb vs ob K → ∃ vs' ob' ρ', K vs' ob' ∧ Tr w ρ w ρ' ∧ OM w ρ' ob' ∧ V.reps w ρ' vs' us
 | [], us, ρ, ob, K, hO, h, e => by
  simp only [Xcb] at e
  exact ⟨[], ob, ρ, e, Tr.refl _ _, hO, h⟩
 | x :: r, us, ρ, ob, K, hO, h, e => by
  simp only [Xcb] at e
  simp only [V.reps] at h
  obtain ⟨u, us', rfl, h1, h2⟩ := h
  cases hg : V.giv ob x with
  | none =>
   simp only [hg, gvO] at e
   obtain ⟨vs', ob', ρ', k, t, o, hr⟩ := Ji r us' hO h2 e
   exact ⟨_, ob', ρ', k, t, o, by simp only [V.reps]; exact ⟨u, us', rfl, V.rep_tr (u := u) t h1, hr⟩⟩
  | some q =>
   obtain ⟨dd, ob1⟩ := q
   simp only [hg, gvO] at e
   obtain ⟨ρ1, t1, o1, hr⟩ := Qq hO (u := u) h1 hg
   obtain ⟨vs', ob', ρ', k, t, o, hr2⟩ := Ji r us' o1 (V.reps_tr t1 _ _ h2) e
   exact ⟨_, ob', ρ', k, t1.trans t, o, by simp only [V.reps]; exact ⟨u, us', rfl, V.rep_tr t hr, hr2⟩⟩

theorem V4 {vs : List V} {us : List Value} (h : V.reps w ρ vs us) : ∀ (k : Nat) (t : Array Value), (∀ i (hi : i < us.length), t.getD (k + i) undef = us[i]) → ∀ j, (look (Ua k vs) j).rep w ρ (t.getD j undef) := by
 induction vs generalizing us with
 | nil => intro k t _ j; exact Jq
 | cons v r ih =>
  simp only [V.reps] at h
  obtain ⟨u, us', rfl, h1, h2⟩ := h
  intro k t ht j
  simp only [Ua, look]
  split
  ·rename_i e; subst e
   have := ht 0 (by simp)
   simp only [Nat.add_zero, List.getElem_cons_zero] at this
   rw [this]; exact h1
  ·refine ih h2 (k + 1) t (fun i hi => ?_) j
   have := ht (i + 1) (by simpa using hi)
   simp only [List.getElem_cons_succ] at this
   rw [← this]; congr 1; omega

theorem Wr {ρ1 : Env} (mo : Xc6 w (own ρ) w (own ρ1)) : ∀ (vs : List V) (us : List Value) (ds : List D), vs = ds.map .d → V.reps w ρ vs us → V.reps w ρ1 vs us
 | [], us, ds, _, h => by simpa [V.reps] using h
 | v :: r, us, [], e, h => by simp at e
 | v :: r, us, d :: ds, e, h => by
  simp only [List.map_cons, List.cons.injEq] at e
  obtain ⟨rfl, e⟩ := e
  simp only [V.reps] at h ⊢
  obtain ⟨u, us', rfl, h1, h2⟩ := h
  refine ⟨u, us', rfl, ?_, Wr mo r us' ds e h2⟩
  rcases h1 with h1 | ⟨p, x, q, r⟩ | ⟨p, r⟩
  ·cases h1
  ·exact .inr (.inl ⟨p, x, q, by simp only [V.repC] at r ⊢; exact D.rep_mono mo d x r⟩)
  ·exact .inr (.inr ⟨p, by simp only [V.repC] at r ⊢; exact D.rep_mono mo d _ r⟩)

theorem Yq : ∀ {vs : List V} {us : List Value}, V.reps w ρ vs us → us.length = vs.length
 | [], us, h => by simp [V.reps] at h; simp [h]
 | v :: r, us, h => by
  simp only [V.reps] at h
  obtain ⟨u, us', rfl, _, h2⟩ := h
  simp [Yq h2]

theorem Xas {P : Prg} (hm : P.p.follows .mixedOrders = true) {f : Nat} {s : S} {rs : List RV} {ds : List D} {ob0 : Objs} {K : V → Prop} (hc : Xt P.p f ds.length s rs = true)
  (h : cwp P s (J7 rs K) (Ua 0 (ds.map .d)) []) : PCall P f (ds.map .d) ob0 K := by
 unfold Xt at hc
 split at hc
 ·rename_i fn hf
  split at hc
  ·rename_i code hb
   simp only [Bool.and_eq_true, decide_eq_true_eq] at hc
   obtain ⟨⟨hn, h1⟩, h2⟩ := hc
   refine ⟨fun w ρ args hO hg hr => calls_of_wp hf hb ?_⟩
   let ρ0 : Env := ⟨fun _ => none, own ρ, ρ.gl⟩
   let c : Ctx := ⟨w, fun _ => False, fn.ntmps, [], P.g, fun _ => none, []⟩
   have hnone : ∀ b, ¬ Xh5 ρ0 b := fun b ⟨_, _, h, _⟩ => by cases h
   have hlt : ∀ b, own ρ b → b < w.heap.size := fun b h => h.elim (fun ⟨_, _, h1, h2⟩ => Wt hO h1 h2) (hO.xlt b)
   have mo : Xc6 w (own ρ) w (own ρ0) := fun b h1 _ => ⟨rfl, fun h2 => h2.elim (hnone b) h1⟩
   have hr0 := Wr mo _ _ ds rfl hr
   have hlen : args.length = ds.length := by simpa using Yq hr
   have m : Mod c (own ρ) ρ0 (Ua 0 (ds.map .d)) [] { tmps := args.toArray ++ Array.replicate (fn.ntmps - args.toArray.size) undef, defers := [] } w := by
    refine ⟨⟨Nat.le_refl _, fun _ _ _ => rfl, fun b h => absurd h (hnone b), rfl, rfl, rfl, (fun id o h => by cases h), (fun p hp => by cases hp)⟩, ⟨fun j x hx => (by simp [lookO] at hx), fun j o hj => (by cases hj), fun i j o p b hi => (by cases hi), fun b hb => hlt b hb, fun b o hb => ⟨(hO.glb b o hb).1, fun h => h.elim (hnone b) (hO.glb b o hb).2⟩, fun b hb => absurd hb (hnone b), trivial⟩, ?_, ?_, rfl, rfl, hg⟩
    ·refine V4 hr0 0 _ (fun i hi => ?_)
     simp [Array.getElem?_append, hi]
    ·simp [c]; omega
   refine wp_mono (X2 hm rfl code s _ _ _ ρ0 _ w h1 h m) ?_
   rintro e a' w' ⟨ae, sl', ob', ρ', hq, he, m'⟩
   have hfin : Zu sl' ob' rs (fun vs => Zg (fun l _ => K (Wb (l.map .d))) (V.givs ob' vs)) → a'.defers = [] ∧ ∃ v, (results fn a'.tmps).run P.p w' = .ok v w' ∧ ∃ x u, K x ∧ Ending.returned v = .returned u ∧ x.rep w' ρ u ∧ Ext w w' := by
    intro hq
    obtain ⟨vs, us, hk, hrep, hrun⟩ := Z7 (P := P.p) (fn := fn) m'.sm m'.om h2 hq
    cases hgv : V.givs ob' vs with
    | none => simp [hgv, Zg] at hk
    | some q =>
     obtain ⟨l, ob2⟩ := q
     simp only [hgv, Zg] at hk
     obtain ⟨ρ2, t2, o2, hr2⟩ := Ur vs us m'.om hrep hgv
     have mo2 : Xc6 w' (own ρ2) w' (own ρ) := fun b h1 _ => ⟨rfl, fun h2 => h1 (.inr (by rw [t2.xo, m'.xo]; exact h2))⟩
     have hrep' := Wr mo2 _ _ l rfl hr2
     have hext : Ext w w' := ⟨m'.base.size, fun b hb => m'.base.keep b hb (fun h => h), m'.base.tape, m'.base.os, m'.base.out⟩
     exact ⟨m'.df, Xmn us, hrun, Wb (l.map .d), Xmn us, hk, rfl, V0 hrep', hext⟩
   cases ae with
   | normal =>
    cases e <;> simp only [exM] at he
    exact hfin hq
   | ret =>
    cases e <;> simp only [exM] at he
    exact hfin hq
   | exit n => exact hq.elim
   | panic v => exact hq.elim
  ·simp at hc
 ·simp at hc

theorem Xdr {ids : Nat → Bool} {vs : List V} {us : List Value} (hm : V.mens ids vs = false) (h : V.reps w ρ vs us) : V.reps w (ρ.del ids) vs us := V.reps_del vs us hm h

def Ob.noMen (ids : Nat → Bool) : Ob → Prop
 | .box _ t => V.men ids t = false
 | .vec _ _ xs => V.mens ids xs = false
 | .map es => Ul ids es = false
 | _ => True
theorem Ze {ids : Nat → Bool} : ∀ (ob : Objs), (∀ e ∈ ob, e.2.noMen ids) → noMenO ids ob = true
 | [], _ => rfl
 | (j, .box E t) :: r, h => by
  simp only [noMenO, Bool.and_eq_true, Bool.not_eq_true']
  exact ⟨h (j, .box E t) (by simp), Ze r fun e he => h e (by simp [he])⟩
 | (j, .vec E z t) :: r, h => by
  simp only [noMenO, Bool.and_eq_true, Bool.not_eq_true']
  exact ⟨h (j, .vec E z t) (by simp), Ze r fun e he => h e (by simp [he])⟩
 | (j, .map t) :: r, h => by
  simp only [noMenO, Bool.and_eq_true, Bool.not_eq_true']
  exact ⟨h (j, .map t) (by simp), Ze r fun e he => h e (by simp [he])⟩
 | (j, .arr _ _ _) :: r, h => by simp only [noMenO]; exact Ze r fun e he => h e (by simp [he])
 | (j, .gone) :: r, h => by simp only [noMenO]; exact Ze r fun e he => h e (by simp [he])
theorem Xc9 {ids : Nat → Bool} (hd : ∀ id o, ρ.m id = some o → ids id = false) : ∀ (l : List (D × V)) (es : List MapEntry), Yb w ρ l es → Ul ids l = false
 | [], _, _ => rfl
 | (k, v) :: r, es, h => by
  obtain ⟨e, es', _, _, h3, h4⟩ := h
  simp only [Ul, V.men_temp hd h3, Xc9 hd r es' h4, Bool.or_self]
theorem Jm.noMen {ids : Nat → Bool} (hd : ∀ id o, ρ.m id = some o → ids id = false) {j : Nat} {x : Ob} (h : Jm w ρ j x) : x.noMen ids := by
 cases x with
 | box E t => obtain ⟨b, cs, _, _, h3⟩ := h; exact V.men_dom hd _ _ h3
 | vec E sz xs =>
  rcases h with ⟨_, rfl⟩ | ⟨b, cap, cs, sp, _, _, h3, _⟩
  ·rfl
  ·exact V.menCs_dom hd _ _ h3
 | map es => obtain ⟨b, l, clk, _, _, h3⟩ := h; exact Xc9 hd _ _ h3
 | arr E sz xs => trivial
 | gone => trivial
theorem Xbb {P : Prg} (hm : P.p.follows .mixedOrders = true) {f : Nat} {s : S} {rs : List RV} {vs : List V} {ob : Objs} {K : Out → Objs → Prop} (hc : Xt P.p f vs.length s rs = true)
  (h : cwp P s (Wj (fresh ob) rs K) (Ua 0 vs) ob) : ACall P f vs ob K := by
 unfold Xt at hc
 split at hc
 ·rename_i fn hf
  split at hc
  ·rename_i code hb
   simp only [Bool.and_eq_true, decide_eq_true_eq] at hc
   obtain ⟨⟨hn, h1⟩, h2⟩ := hc
   refine ⟨fun w ρ args hO hg hr => calls_of_wp hf hb ?_⟩
   let c : Ctx := ⟨w, Xh5 ρ, fn.ntmps, [], P.g, ρ.m, []⟩
   have hlen : args.length = vs.length := by simpa using Yq hr
   have m : Mod c ρ.xo ρ (Ua 0 vs) ob { tmps := args.toArray ++ Array.replicate (fn.ntmps - args.toArray.size) undef, defers := [] } w := by
    refine ⟨⟨Nat.le_refl _, fun _ _ _ => rfl, fun b h => .inr h, rfl, rfl, rfl, fun id o h => ⟨o, h, .refl o⟩, (fun p hp => by cases hp)⟩, hO, ?_, ?_, rfl, rfl, hg⟩
    ·refine V4 hr 0 _ (fun i hi => ?_)
     simp [Array.getElem?_append, hi]
    ·simp [c]; omega
   refine wp_mono (X2 hm rfl code s _ _ _ ρ _ w h1 h m) ?_
   rintro e a' w' ⟨ae, sl', ob', ρ', hq, he, m'⟩
   have old : ∀ kp id o, ρ.m id = some o → young (fresh ob) kp id = false := fun kp id o h0 => by
    obtain ⟨x, hx⟩ := hO.dom id o h0
    have hlt : ¬ fresh ob ≤ id := fun hle => by rw [Xv _ _ hle] at hx; cases hx
    simp [young, hlt]
   have tr : ∀ {ρ2 : Env}, Tr w' ρ' w' ρ2 → ∀ kp, Tr w ρ w' (ρ2.del (young (fresh ob) kp)) := fun {ρ2} t kp => by
    have b2 := m'.base.tr t
    refine ⟨b2.size, fun b h1 h2 => b2.keep b h2 h1, fun b h1 => (b2.owns b (W2 h1)).symm, ?_, ?_, fun id o h1 => ?_, b2.tape, b2.os, b2.out⟩
    ·show ρ2.xo = ρ.xo; rw [t.xo, m'.xo]
    ·show ρ2.gl = ρ.gl; rw [t.gl, m'.gl, hg]
    ·obtain ⟨o', h3, h4⟩ := b2.same id o h1
     exact ⟨o', by simp only [Env.del, old kp id o h1]; exact h3, h4⟩
   have hfin : Zu sl' ob' rs (fun vs => Xcb vs ob' fun vs ob' => Xx (fresh ob) (K (.ret (Wb vs))) vs ob') → a'.defers = [] ∧ ∃ v, (results fn a'.tmps).run P.p w' = .ok v w' ∧ ∃ out ob2 ρ2, K out ob2 ∧ Xj7 w' ρ2 (.returned v) out ∧ OM w' ρ2 ob2 ∧ Tr w ρ w' ρ2 := by
    intro hq
    obtain ⟨vs, us, hk, hrep, hrun⟩ := Z7 (P := P.p) (fn := fn) m'.sm m'.om h2 hq
    obtain ⟨vs', ob2, ρ2, ⟨kp, k1, k2, k3⟩, t2, o2, hr2⟩ := Ji vs us m'.om hrep hk
    exact ⟨m'.df, Xmn us, hrun, .ret (Wb vs'), _, _, k3, V0 (Xdr k1 hr2), o2.del k2, tr t2 kp⟩
   cases ae with
   | normal =>
    cases e <;> simp only [exM] at he
    exact hfin hq
   | ret =>
    cases e <;> simp only [exM] at he
    exact hfin hq
   | exit n => exact hq.elim
   | panic v =>
    cases e <;> simp only [exM] at he
    obtain ⟨u, rfl, hu⟩ := he
    obtain ⟨kp, k1, k2, k3⟩ := hq
    simp only [V.mens, Bool.or_false] at k1
    exact ⟨m'.df, .panic v, _, _, k3, ⟨u, rfl, V.rep_del k1 hu⟩, m'.om.del k2, tr (Tr.refl _ _) kp⟩
  ·simp at hc
 ·simp at hc

theorem ACall.of_wf {P : Prg} {f : Nat} {vs : List V} {ob : Objs} {K : Out → Objs → Prop} (h : (∀ kp, V.mens (young (fresh ob) kp) vs = false) → (∀ kp, noMenO (young (fresh ob) kp) ob = true) → ACall P f vs ob K) : ACall P f vs ob K := by
 refine ⟨fun w ρ args hO hg hr => ?_⟩
 have old : ∀ kp id o, ρ.m id = some o → young (fresh ob) kp id = false := fun kp id o h0 => by
  obtain ⟨x, hx⟩ := hO.dom id o h0
  have hlt : ¬ fresh ob ≤ id := fun hle => by rw [Xv _ _ hle] at hx; cases hx
  simp [young, hlt]
 exact (h (fun kp => V.mens_dom (old kp) _ _ hr) (fun kp => Ze ob fun e he => (hO.one e.1 _ (hO.once.look e he)).noMen (old kp))).run w ρ args hO hg hr

theorem Xqa {P : Prg} {p : Program} (hP : P.p = p) (hm : p.follows .mixedOrders = true) {f : Nat} {s : S} {rs : List RV} {ds : List D} {ob0 : Objs} {K : V → Prop} (hc : Xt p f ds.length s rs = true)
  (h : cwp P s (J7 rs K) (Ua 0 (ds.map .d)) []) : PCall P f (ds.map .d) ob0 K := by
 subst hP
 exact Xas hm hc h
end
end Go.Ab
/- The equations by which an abstract state is walked. Over any program; no condition. -/
namespace Go.Ab
open Go
section
variable (P : Prg) (K : V → Prop) (KO : V → Objs → Prop) (Pn : V → Objs → Prop) (Q : Zt) (next : Xb → Objs → Prop) (sl : Xb) (ob : Objs) (r : Xb) (ro : Objs) (v v' : V) (x y z : A) (k j n : Nat) (b c : Bool) (m m' : Int) (kd kd' : IntKind) (s s' : List UInt8) (xs : List D) (vs : List V) (d : D)
@[simp] theorem Xgt : look ((k, v) :: r) k = v := by simp [look]
@[simp] theorem Xmg (h : (j == k) = false) : look ((j, v) :: r) k = look r k := by simp at h; simp [look, h]
@[simp] theorem lookO_eq (o : Ob) : lookO ((k, o) :: ro) k = some o := by simp [lookO]
@[simp] theorem lookO_ne (o : Ob) (h : (j == k) = false) : lookO ((j, o) :: ro) k = lookO ro k := by simp at h; simp [lookO, h]
@[simp] theorem setO_eq (o o' : Ob) : setO ((k, o) :: ro) k o' = (k, o') :: ro := by simp [setO]
@[simp] theorem setO_ne (o o' : Ob) (h : (j == k) = false) : setO ((j, o) :: ro) k o' = (j, o) :: setO ro k o' := by simp at h; simp [setO, h]
@[simp] theorem put_some : put sl (some k) v = (k, v) :: sl := by simp only [put]
@[simp] theorem put_none : put sl none v = sl := by simp only [put]
@[simp] theorem X04 : A.ev sl (.t k) = look sl k := by simp only [A.ev]
@[simp] theorem ev_int : A.ev sl (.int kd m) = .d (.int kd m) := by simp only [A.ev]
@[simp] theorem ev_bool : A.ev sl (.bool b) = .d (.bool b) := by simp only [A.ev]
@[simp] theorem ev_str : A.ev sl (.str s) = .d (.str s) := by simp only [A.ev]
@[simp] theorem ev_nils : A.ev sl .nils = .d .nils := by simp only [A.ev]
@[simp] theorem ev_nili : A.ev sl .nili = .d .nili := by simp only [A.ev]
@[simp] theorem ev_fn : A.ev sl (.fn k) = .fn k [] [] := by simp only [A.ev]
-- calm operations
@[simp] theorem wp_mv : C.wp sl ob K (.mv x) = K (x.ev sl) := by simp only [C.wp]
@[simp] theorem wp_pick : C.wp sl ob K (.pick x y z) = Vv K (x.ev sl) (y.ev sl) (z.ev sl) := by simp only [C.wp]
@[simp] theorem Xsv : Vv K (.d (.bool true)) v v' = K v := by unfold Vv; split <;> simp_all
@[simp] theorem Xv3 : Vv K (.d (.bool false)) v v' = K v' := by unfold Vv; split <;> simp_all
@[simp] theorem wp_not : C.wp sl ob K (.not x) = Xlq K (x.ev sl) := by simp only [C.wp]
@[simp] theorem notK_b : Xlq K (.d (.bool b)) = K (.d (.bool (!b))) := by simp only [Xlq]
@[simp] theorem wp_mx : C.wp sl ob K (.mx x y) = mxK K (x.ev sl) (y.ev sl) := by simp only [C.wp]
@[simp] theorem wp_bin (op : BinOp) : C.wp sl ob K (.bin op x y) = Xh7 op K (x.ev sl) (y.ev sl) := by simp only [C.wp]
@[simp] theorem binK_i (op : BinOp) : Xh7 op K (.d (.int kd m)) (.d (.int kd' m')) = Xhb op kd kd' m m' K := by simp only [Xh7]
@[simp] theorem binK_s (op : BinOp) : Xh7 op K (.d (.str s)) (.d (.str s')) = Xj0 op s s' K := by simp only [Xh7]
@[simp] theorem intK_leq : Xhb .leq kd kd m m' K = K (.d (.bool (decide (m ≤ m')))) := by simp [Xhb]
@[simp] theorem intK_geq : Xhb .geq kd kd m m' K = K (.d (.bool (decide (m' ≤ m)))) := by simp [Xhb]
@[simp] theorem strK_eql : Xj0 .eql s s' K = K (.d (.bool (s == s'))) := by simp [Xj0]
@[simp] theorem strK_neq : Xj0 .neq s s' K = K (.d (.bool (s != s'))) := by simp [Xj0]
@[simp] theorem wp_isnil : C.wp sl ob K (.isnil b x) = Zz b K (x.ev sl) := by simp only [C.wp]
@[simp] theorem isnilK_n : Zz b K (.d .nili) = K (.d (.bool b)) := by simp only [Zz]
@[simp] theorem isnilK_di : Zz b K (.d (.iface k d)) = K (.d (.bool (!b))) := by simp only [Zz]
@[simp] theorem mkiV_d : Xoc k (.d d) = .d (.iface k d) := by simp only [Xoc]
@[simp] theorem mkfV_eq (l1 l2 : List V) : Xsg k l1 l2 = Xu4 k l1 l2 (V.allD l1) (V.allD l2) := by simp only [Xsg]
@[simp] theorem mkfO_n1 (l1 l2 : List V) (o : Option (List D)) : Xu4 k l1 l2 none o = .fn k l1 l2 := by cases o <;> simp only [Xu4]
@[simp] theorem mkfO_n2 (l1 l2 : List V) (o : Option (List D)) : Xu4 k l1 l2 o none = .fn k l1 l2 := by cases o <;> simp only [Xu4]
@[simp] theorem wp_cvi : C.wp sl ob K (.cvi kd x) = Xnk kd K (x.ev sl) := by simp only [C.wp]
@[simp] theorem cviK_i : Xnk kd K (.d (.int kd' m)) = K (.d (.int kd (kd.wrap m))) := by simp only [Xnk]
@[simp] theorem wp_idx : C.wp sl ob K (.idx x y) = Xn8 K (x.ev sl) (y.ev sl) := by simp only [C.wp]
@[simp] theorem idxK_s : Xn8 K (.d (.str s)) (.d (.int kd m)) = ((0 ≤ m ∧ m < s.length) ∧ K (.d (.int .u8 (s.getD m.toNat 0).toNat))) := by simp only [Xn8]
@[simp] theorem wp_idxA : C.wp sl ob K (.idxA n x y) = Qd ob n K (x.ev sl) (y.ev sl) := by simp only [C.wp]
@[simp] theorem idxAK_l : Qd ob n K (.d (.list n xs)) (.d (.int kd m)) = ((0 ≤ m ∧ m < xs.length) ∧ K (.d (.ref (xs.getD m.toNat default)))) := by simp [Qd]
@[simp] theorem wp_idxP : C.wp sl ob K (.idxP k n x y) = Ql ob k n K (x.ev sl) (y.ev sl) := by simp only [C.wp]
@[simp] theorem idxPK_p (p : List Nat) : Ql ob k n K (.ptr j p) (.d (.int kd m)) = ((0 ≤ m ∧ m < k) ∧ (∃ ks, Yc (atO ob j p) = some ks ∧ ks.length = k ∧ ∀ k ∈ ks, k.size = n) ∧ K (.ptr j (p ++ [m.toNat]))) := by simp only [Ql]
@[simp] theorem idxPK_c : Ql ob k n K (.d (.ref (.agg xs))) (.d (.int kd m)) = ((0 ≤ m ∧ m < k) ∧ xs.length = k ∧ (∀ x ∈ xs, x.sz = n) ∧ K (.d (.ref (xs.getD m.toNat default)))) := by simp only [Ql]
@[simp] theorem wp_fldA : C.wp sl ob K (.fldA k n x) = Vf ob k n K (x.ev sl) := by simp only [C.wp]
@[simp] theorem fldAK_p (p : List Nat) : Vf ob k n K (.ptr j p) = Ws j p k n K (Yc (atO ob j p)) := by simp only [Vf]
@[simp] theorem fldAKo_s (p : List Nat) : Ws j p k n K (some vs) = (k < vs.length ∧ Sh.sizes ((vs.take k).map V.shape) = n ∧ K (.ptr j (p ++ [k]))) := by simp only [Ws]
@[simp] theorem fldAK_c : Vf ob k n K (.d (.ref (.agg xs))) = (k < xs.length ∧ D.szs (xs.take k) = n ∧ K (.d (.ref (xs.getD k default)))) := by simp only [Vf]
@[simp] theorem wp_ld : C.wp sl ob K (.ld n b x) = ldK ob n b K (x.ev sl) := by simp only [C.wp]
@[simp] theorem ldK_p (p : List Nat) : ldK ob n b K (.ptr j p) = Xdq n b K (atO ob j p) := by simp only [ldK]
@[simp] theorem ldKo_s : Xdq n b K (some v) = (v.size = n ∧ v.isAgg = b ∧ K v) := by simp only [Xdq]
@[simp] theorem ldK_c : ldK ob n b K (.d (.ref d)) = (d.sz = n ∧ (V.d d).isAgg = b ∧ K (.d d)) := by simp only [ldK]
@[simp] theorem wp_nilc : C.wp sl ob K (.nilc x) = Qi K (x.ev sl) := by simp only [C.wp]
@[simp] theorem nilcK_p (p : List Nat) : Qi K (.ptr j p) = K (.ptr j p) := by simp only [Qi]
@[simp] theorem nilcK_c : Qi K (.d (.ref d)) = K (.d (.ref d)) := by simp only [Qi]
@[simp] theorem wp_lenS : C.wp sl ob K (.lenS x) = Jo K (x.ev sl) := by simp only [C.wp]
@[simp] theorem lenSK_s : Jo K (.d (.str s)) = K (.d (.int .i64 s.length)) := by simp only [Jo]
@[simp] theorem wp_lenL : C.wp sl ob K (.lenL x) = V9 ob K (x.ev sl) := by simp only [C.wp]
@[simp] theorem lenLK_l : V9 ob K (.d (.list n xs)) = K (.d (.int .i64 xs.length)) := by simp only [V9]
@[simp] theorem lenLK_n : V9 ob K (.d .nils) = K (.d (.int .i64 0)) := by simp only [V9]
@[simp] theorem lenLK_o : V9 ob K (.sl j n) = (((∃ E z xs, lookO ob j = some (.arr E z xs) ∧ n = xs.length) ∨ ∃ E z xs, lookO ob j = some (.vec E z xs) ∧ n = xs.length) ∧ K (.d (.int .i64 n))) := by simp only [V9]
@[simp] theorem wp_slcS (lo hi : Option A) : C.wp sl ob K (.slcS x lo hi) = Xad (lo.map (A.ev sl)) (hi.map (A.ev sl)) K (x.ev sl) := by simp only [C.wp]
@[simp] theorem slcSK_s (lo hi : Option V) : Xad lo hi K (.d (.str s)) = Vq s.length (fun l h => K (.d (.str ((s.take h).drop l)))) lo hi := by simp only [Xad]
@[simp] theorem wp_slcL (lo hi : Option A) : C.wp sl ob K (.slcL n x lo hi) = J9 n (lo.map (A.ev sl)) (hi.map (A.ev sl)) K (x.ev sl) := by simp only [C.wp]
@[simp] theorem slcLK_l (lo hi : Option V) : J9 n lo hi K (.d (.list n xs)) = Vq xs.length (fun l h => K (.d (.list n ((xs.take h).drop l)))) lo hi := by simp [J9]
@[simp] theorem bndK_sn (KK : Nat → Nat → Prop) : Vq n KK (some (.d (.int kd m))) none = ((0 ≤ m ∧ m ≤ n) ∧ KK m.toNat n) := by simp only [Vq]
@[simp] theorem bndK_ns (KK : Nat → Nat → Prop) : Vq n KK none (some (.d (.int kd m))) = ((0 ≤ m ∧ m ≤ n) ∧ KK 0 m.toNat) := by simp only [Vq]
@[simp] theorem bndK_ss (KK : Nat → Nat → Prop) : Vq n KK (some (.d (.int kd m))) (some (.d (.int kd' m'))) = ((0 ≤ m' ∧ m' ≤ n) ∧ (0 ≤ m ∧ m ≤ m') ∧ KK m.toNat m'.toNat) := by simp only [Vq]
@[simp] theorem wp_ext : C.wp sl ob K (.ext x n) = Xn7 n K (x.ev sl) := by simp only [C.wp]
@[simp] theorem extK_t : Xn7 n K (.tup vs) = (n < vs.length ∧ K (vs.getD n .any)) := by simp only [Xn7]
@[simp] theorem wp_bld (ps : List (Nat × A)) : C.wp sl ob K (.bld xs ps) = Vt (xs.map .d) (ps.map fun p => (p.1, p.2.ev sl)) fun ks => K (V.mk ks) := by simp only [C.wp]
@[simp] theorem bldK_n (KL : List V → Prop) : Vt vs [] KL = KL vs := by simp only [Vt]
@[simp] theorem bldK_c (KL : List V → Prop) (l : List (Nat × V)) : Vt vs ((k, v) :: l) KL = (k < vs.length ∧ v.shape = (vs.getD k .any).shape ∧ v ≠ .any ∧ Vt (vs.set k v) l KL) := by simp only [Vt]
@[simp] theorem wp_mkf (l l' : List A) : C.wp sl ob K (.mkf k l l') = K (Xsg k (l.map (A.ev sl)) (l'.map (A.ev sl))) := by simp only [C.wp]
@[simp] theorem wp_mki : C.wp sl ob K (.mki k x) = K (Xoc k (x.ev sl)) := by simp only [C.wp]
@[simp] theorem wp_tas : C.wp sl ob K (.tas k d x) = Xpg k d K (x.ev sl) := by simp only [C.wp]
-- trees
@[simp] theorem kids_agg : V.kids (.agg vs) = some vs := by simp only [V.kids]
@[simp] theorem kids_d : V.kids (.d (.agg xs)) = some (xs.map .d) := by simp only [V.kids]
@[simp] theorem kidsO_s : Yc (some v) = v.kids := by simp only [Yc]
def atB (p : List Nat) : Option Ob → Option V
 | some (.box _ t) => t.at p
 | _ => none
@[simp] theorem atO_b (p : List Nat) : atO ob k p = atB p (lookO ob k) := by
 unfold atO atB
 cases lookO ob k with
 | none => rfl
 | some o => cases o <;> rfl
@[simp] theorem atB_s (p : List Nat) (E : Nat) : atB p (some (.box E v)) = v.at p := by simp only [atB]
@[simp] theorem at_nil : V.at v [] = some v := by simp [V.at]
def Xer (i : Nat) (p : List Nat) : Option (List V) → Option V
 | some ks => atKid' p ks[i]?
 | none => none
where atKid' (p : List Nat) : Option V → Option V
 | some k => V.at k p
 | none => none
@[simp] theorem at_cons (p : List Nat) : V.at v (k :: p) = Xer k p v.kids := by
 simp only [V.at, Xer]
 cases v.kids with
 | none => rfl
 | some ks => simp only [Xer.atKid']; cases ks[k]? <;> rfl
@[simp] theorem atKid_s (p : List Nat) : Xer k p (some vs) = Xer.atKid' p vs[k]? := by simp only [Xer]
@[simp] theorem atKid'_s (p : List Nat) : Xer.atKid' p (some v) = V.at v p := by simp only [Xer.atKid']
@[simp] theorem set_nil : V.set v [] v' = some v' := by simp [V.set]
def Wf (i : Nat) (p : List Nat) (x : V) : Option (List V) → Option V
 | some ks => setKid1 i p x ks ks[i]?
 | none => none
where
 setKid1 (i : Nat) (p : List Nat) (x : V) (ks : List V) : Option V → Option V
 | some k => setKid2 i ks (V.set k p x)
 | none => none
 setKid2 (i : Nat) (ks : List V) : Option V → Option V
 | some k' => some (V.mk (ks.set i k'))
 | none => none
@[simp] theorem set_cons (p : List Nat) : V.set v (k :: p) v' = Wf k p v' v.kids := by
 simp only [V.set, Wf]
 cases v.kids with
 | none => rfl
 | some ks =>
  simp only [Wf.setKid1]
  cases ks[k]? with
  | none => rfl
  | some y => simp only [Wf.setKid2]; cases V.set y p v' <;> rfl
@[simp] theorem setKid_s (p : List Nat) : Wf k p v (some vs) = Wf.setKid1 k p v vs vs[k]? := by simp only [Wf]
@[simp] theorem setKid1_s (p : List Nat) : Wf.setKid1 k p v vs (some v') = Wf.setKid2 k vs (V.set v' p v) := by simp only [Wf.setKid1]
@[simp] theorem setKid2_s : Wf.setKid2 k vs (some v) = some (V.mk (vs.set k v)) := by simp only [Wf.setKid2]
@[simp] theorem allD_nil : V.allD [] = some [] := by simp [V.allD]
def Xnw (x : D) : Option (List D) → Option (List D)
 | some l => some (x :: l)
 | none => none
@[simp] theorem allD_cons : V.allD (.d d :: vs) = Xnw d (V.allD vs) := by simp only [V.allD]; cases V.allD vs <;> rfl
@[simp] theorem consD_s : Xnw d (some xs) = some (d :: xs) := by simp only [Xnw]
@[simp] theorem consD_n : Xnw d none = none := by simp only [Xnw]
@[simp] theorem allD_map : V.allD (xs.map .d) = some xs := by induction xs with | nil => rfl | cons x r ih => simp [ih]
@[simp] theorem allD_fn (a1 a2 : List V) : V.allD (.fn k a1 a2 :: vs) = none := by simp only [V.allD]
@[simp] theorem allD_sl : V.allD (.sl k n :: vs) = none := by simp only [V.allD]
@[simp] theorem allD_ptr (p : List Nat) : V.allD (.ptr k p :: vs) = none := by simp only [V.allD]
def mkO (vs : List V) : Option (List D) → V
 | some l => .d (.agg l)
 | none => .agg vs
@[simp] theorem mk_eq : V.mk vs = mkO vs (V.allD vs) := by unfold V.mk mkO; cases V.allD vs <;> rfl
@[simp] theorem mkO_s : mkO vs (some xs) = .d (.agg xs) := by simp only [mkO]
@[simp] theorem mkO_n : mkO vs none = .agg vs := by simp only [mkO]
-- sizes, shapes
attribute [simp] D.sz D.szs Sh.size Sh.sizes D.shape D.shapes V.shape V.shapes V.isAgg V.sto V.stos V.size V.men V.mens
-- operations on memory
@[simp] theorem qx (e : C) : I.wp P sl ob KO Pn (.c e) = e.wp sl ob (fun v => KO v ob) := by simp only [I.wp]
@[simp] theorem qw : I.wp P sl ob KO Pn (.box k x) = Xj3 k ob KO (x.ev sl) := by simp only [I.wp]
@[simp] theorem qs : I.wp P sl ob KO Pn (.alloc k d) = Xj3 k ob KO (.d d) := by simp only [I.wp]
@[simp] theorem boxK_eq : Xj3 k ob KO v = (v.sto = true ∧ KO (.ptr (fresh ob) []) ((fresh ob, .box k v) :: ob)) := by simp only [Xj3]
@[simp] theorem qv (ps : List (Nat × A)) : I.wp P sl ob KO Pn (.bls n xs ps) = Vt (xs.map .d) (ps.map fun p => (p.1, p.2.ev sl)) (fun ks => dK (fun l => KO (.d (.list n l)) ob) (V.allD ks)) := by simp only [I.wp]
@[simp] theorem dK_s (KD : List D → Prop) : dK KD (some xs) = KD xs := by simp only [dK]
@[simp] theorem qu (ps : List (Nat × A)) : I.wp P sl ob KO Pn (.blo j n xs ps) = Vt (xs.map .d) (ps.map fun p => (p.1, p.2.ev sl)) (fun ks => dK (fun l => KO (.sl (fresh ob) l.length) ((fresh ob, .arr j n l) :: ob)) (V.allD ks)) := by simp only [I.wp]
@[simp] theorem zi : I.wp P sl ob KO Pn (.st n x y) = stK ob n (y.ev sl) KO (x.ev sl) := by simp only [I.wp]
@[simp] theorem stK_p (p : List Nat) : stK ob n v KO (.ptr k p) = Xkj ob k p n v KO (lookO ob k) := by simp only [stK]
@[simp] theorem stKo_s (p : List Nat) (t : V) (E : Nat) : Xkj ob k p n v KO (some (.box E t)) = Xlf ob k p n E v t KO (t.at p) := by simp only [Xkj]
def Xwn (ob : Objs) (id E : Nat) (K : V → Objs → Prop) : Option V → Prop
 | some t' => K .undef (setO ob id (.box E t'))
 | none => False
@[simp] theorem stKt_s (p : List Nat) (t : V) (E : Nat) : Xlf ob k p n E v t KO (some v') = (v.shape = v'.shape ∧ v'.size = n ∧ v.sto = true ∧ Xwn ob k E KO (t.set p v)) := by
 simp only [Xlf]; cases t.set p v <;> simp [Xwn]
@[simp] theorem stKs_s (E : Nat) : Xwn ob k E KO (some v) = KO .undef (setO ob k (.box E v)) := by simp only [Xwn]
@[simp] theorem qt (E sz B : Nat) : I.wp P sl ob KO Pn (.app E sz B x y) = Xny sz (fun ys => J8 E sz B ob ys KO (x.ev sl)) (y.ev sl) := by simp only [I.wp]
@[simp] theorem srcK_l (KD : List D → Prop) : Xny n KD (.d (.list n xs)) = KD xs := by simp [Xny]
@[simp] theorem appK_s (E sz B : Nat) : J8 E sz B ob xs KO (.sl k n) = Xaa k E sz B n ob xs KO (lookO ob k) := by simp [J8]
@[simp] theorem appK_n (E sz B : Nat) : J8 E sz B ob xs KO (.d .nils) = ((2 * xs.length + 192) * B ≤ 281474976710656 ∧ KO (.sl (fresh ob) xs.length) ((fresh ob, .arr E sz xs) :: ob)) := by simp only [J8]
@[simp] theorem appKo_s (E sz B : Nat) (ys : List D) : Xaa k E sz B n ob xs KO (some (.arr E sz ys)) = (n = ys.length ∧ (2 * (ys.length + xs.length) + 192) * B ≤ 281474976710656 ∧ KO (.sl k (ys.length + xs.length)) (setO ob k (.arr E sz (ys ++ xs)))) := by simp [Xaa]
@[simp] theorem iwp_appS (E B : Nat) : I.wp P sl ob KO Pn (.appS E B x y) = Xcu (fun ys => J8 E 1 B ob ys KO (x.ev sl)) (y.ev sl) := by simp only [I.wp]
@[simp] theorem srcSK_s (KD : List D → Prop) : Xcu KD (.d (.str s)) = KD (bytesD s) := by simp only [Xcu]
@[simp] theorem zd : I.wp P sl ob KO Pn (.mvf x) = Xdp KO (V.giv ob (x.ev sl)) := by simp only [I.wp]
@[simp] theorem zb : I.wp P sl ob KO Pn (.ldf n b x) = Xp2 n b ob KO (x.ev sl) := by simp only [I.wp]
@[simp] theorem ze (E sz : Nat) (p : List Nat) : I.wp P sl ob KO Pn (.mvg E sz y x p) = Xe6 ob E sz p (y.ev sl) KO (x.ev sl) := by simp only [I.wp]
@[simp] theorem zf (l : List (Nat × Nat × List Nat)) : I.wp P sl ob KO Pn (.mvn y x l) = Xrw (y.ev sl) KO (x.ev sl) l ob := by simp only [I.wp]
@[simp] theorem mvgK_p (E sz : Nat) (p q : List Nat) : Xe6 ob E sz p v KO (.ptr k q) = Xaf ob k (q ++ p) E sz v KO (lookO ob k) := by simp only [Xe6]
@[simp] theorem mvgKt_s (E E0 sz : Nat) (p : List Nat) (t : V) : Xaf ob k p E sz v KO (some (.box E0 t)) = ((t.at p = some (.d .nils) ∧ Xds ob k E0 E sz v KO (t.set p (.sl (fresh ob) 0))) ∨ ((∃ i n, t.at p = some (.sl i n)) ∧ KO v ob)) := by simp only [Xaf]
@[simp] theorem mvgKs_s (E E0 sz : Nat) (t : V) : Xds ob k E0 E sz v KO (some t) = KO v ((fresh ob, .arr E sz []) :: setO ob k (.box E0 t)) := by simp only [Xds]
@[simp] theorem iwp_cvb : I.wp P sl ob KO Pn (.cvb x) = Xnz ob KO (x.ev sl) := by simp only [I.wp]
@[simp] theorem cvbK_s : Xnz ob KO (.sl k n) = Xcw k n ob KO (lookO ob k) := by simp only [Xnz]
@[simp] theorem cvbKo_s (E sz : Nat) : Xcw k n ob KO (some (.arr E sz xs)) = (sz ≠ 0 ∧ n = xs.length ∧ xs ≠ [] ∧ KO (.d (.list sz xs)) (setO ob k .gone)) := by simp only [Xcw]
@[simp] theorem wp_usd : C.wp sl ob K (.usd x) = Xjg ob K (x.ev sl) := by simp only [C.wp]
@[simp] theorem usdK_s : Xjg ob K (.sl k n) = ((∃ E sz xs, lookO ob k = some (.arr E sz xs) ∧ sz ≠ 0 ∧ n = xs.length ∧ xs ≠ []) ∧ K (.sd k n)) := by simp only [Xjg]
@[simp] theorem usdK_n : Xjg ob K (.d .nils) = K (.d .nilp) := by simp only [Xjg]
@[simp] theorem iwp_ustr (E : Nat) : I.wp P sl ob KO Pn (.ustr E x y) = Uk E ob KO (x.ev sl) (y.ev sl) := by simp only [I.wp]
@[simp] theorem ustrK_s (E : Nat) : Uk E ob KO (.sd k n) (.d (.int .i64 m)) = V8 k n m E ob KO (lookO ob k) := by simp only [Uk]
@[simp] theorem ustrK_n (E : Nat) : Uk E ob KO (.d .nilp) (.d (.int .i64 m)) = (m = 0 ∧ KO (.d (.str [])) ob) := by simp only [Uk]
@[simp] theorem ustrKo_s (E E' sz : Nat) : V8 k n m E ob KO (some (.arr E' sz xs)) = (E' = E ∧ sz = 1 ∧ n = xs.length ∧ m = n ∧ n ≤ 9223372036854775807 ∧ xs ≠ [] ∧ ∃ s, xs = bytesD s ∧ KO (.d (.str s)) (setO ob k .gone)) := by simp only [V8]
-- values given up
@[simp] theorem giv_d : V.giv ob (.d d) = some (d, ob) := by simp only [V.giv]
@[simp] theorem giv_sl : V.giv ob (.sl k n) = Xy4 ob k n (lookO ob k) := by simp only [V.giv]
@[simp] theorem givO_s (E sz : Nat) : Xy4 ob k n (some (.arr E sz xs)) = if sz ≠ 0 ∧ n = xs.length then some (.list sz xs, setO ob k .gone) else none := by simp only [Xy4]
@[simp] theorem giv_agg : V.giv ob (.agg vs) = Xok (V.givs ob vs) := by simp only [V.giv]
@[simp] theorem giv_fn (l1 l2 : List V) : V.giv ob (.fn k l1 l2) = fnG k ob (V.allD l1) (V.allD l2) := by simp only [V.giv]
@[simp] theorem fnG_s (l1 l2 : List D) : fnG k ob (some l1) (some l2) = some (.fn k l1 l2, ob) := by simp only [fnG]
@[simp] theorem givs_nil : V.givs ob [] = some ([], ob) := by simp only [V.givs]
def Xv0 (r : List V) : Option (D × Objs) → Option (List D × Objs)
 | some (x, ob1) => Qh x (V.givs ob1 r)
 | none => none
@[simp] theorem givs_cons : V.givs ob (v :: vs) = Xv0 vs (V.giv ob v) := by
 simp only [V.givs]; cases V.giv ob v with
 | none => rfl
 | some q => obtain ⟨y, ob1⟩ := q; rfl
@[simp] theorem bindO_s : Xv0 vs (some (d, ob)) = Qh d (V.givs ob vs) := by simp only [Xv0]
@[simp] theorem consO_s (l : List D) : Qh d (some (l, ob)) = some (d :: l, ob) := by simp only [Qh]
@[simp] theorem aggO_s (l : List D) : Xok (some (l, ob)) = some (.agg l, ob) := by simp only [Xok]
@[simp] theorem givsK_s (KD : List D → Objs → Prop) (l : List D) : Zg KD (some (l, ob)) = KD l ob := by simp only [Zg]
@[simp] theorem gvsK_nil (KL : List V → Objs → Prop) : Xcb [] ob KL = KL [] ob := by simp only [Xcb]
@[simp] theorem gvsK_cons (KL : List V → Objs → Prop) : Xcb (v :: vs) ob KL = gvO v ob (fun v' ob' => Xcb vs ob' fun vs ob'' => KL (v' :: vs) ob'') (V.giv ob v) := by simp only [Xcb]
@[simp] theorem gvO_s : gvO v ob KO (some (d, ro)) = KO (.d d) ro := by simp only [gvO]
-- names
@[simp] theorem fresh_nil : fresh [] = 0 := by simp only [fresh]
@[simp] theorem fresh_cons (o : Ob) : fresh ((k, o) :: ro) = if fresh ro ≤ k then k + 1 else fresh ro := by simp only [fresh]
@[simp] theorem fresh_set (o : Ob) : fresh (setO ob k o) = fresh ob := by
 induction ob with
 | nil => simp [setO]
 | cons e r ih => obtain ⟨i, y⟩ := e; simp only [setO]; split <;> simp [fresh, ih]
@[simp] theorem fresh_ne (h : (lookO ob k).isSome = true) : (fresh ob == k) = false := by
 rw [beq_eq_false_iff_ne]; intro e; rw [← e, Xw] at h; cases h
@[simp] theorem fresh_add_ne (h : (lookO ob k).isSome = true) : (fresh ob + n == k) = false := by
 rw [beq_eq_false_iff_ne]; intro e; rw [← e, Xv ob _ (by omega)] at h; cases h
@[simp] theorem lookO_set_eq (o : Ob) (h : (lookO ob k).isSome = true) : lookO (setO ob k o) k = some o := by
 rw [Xk ob k k (Option.isSome_iff_exists.1 h)]; simp
@[simp] theorem lookO_set_ne (o : Ob) (h : (j == k) = false) : lookO (setO ob j o) k = lookO ob k := by
 by_cases hs : (lookO ob j).isSome = true
 ·rw [Xk ob j k (Option.isSome_iff_exists.1 hs)]; simp at h; rw [if_neg (fun e => h e.symm)]
 ·have hn : lookO ob j = none := by simpa using hs
  have : ∀ (ob : Objs), lookO ob j = none → setO ob j o = ob := fun ob => by
   induction ob with
   | nil => intro _; rfl
   | cons e r ih => obtain ⟨i, y⟩ := e; intro h; simp only [lookO] at h; split at h; cases h; rename_i hne; simp [setO, hne, ih h]
  rw [this ob hn]
@[simp] theorem Xhc (o o' : Ob) : setO (setO ob k o) k o' = setO ob k o' := by
 induction ob with
 | nil => rfl
 | cons e r ih =>
  obtain ⟨i, y⟩ := e
  by_cases h : i = k
  ·subst h; simp [setO]
  ·simp [setO, h, ih]
-- young objects dropped
@[simp] theorem young_lt (l : List Nat) (h : k < n) : young n l k = false := by simp [young]; omega
@[simp] theorem young_old (l : List Nat) (h : (lookO ob k).isSome = true) : young (fresh ob) l k = false := by
 have : k < fresh ob := by
  rcases Nat.lt_or_ge k (fresh ob) with h1 | h1
  ·exact h1
  ·rw [Xv ob k h1] at h; cases h
 simp [young]; omega
@[simp] theorem young_self : young n [] n = true := by simp [young]
theorem noMenO_set_box (ids : Nat → Bool) (E : Nat) (h : noMenO ids ob = true) (hv : V.men ids v = false) : noMenO ids (setO ob k (.box E v)) = true := by
 induction ob with
 | nil => rfl
 | cons e r ih =>
  obtain ⟨i, y⟩ := e
  simp only [setO]
  split
  ·cases y <;> simp_all [noMenO]
  ·cases y <;> simp_all [noMenO]
theorem noMenO_set_arr (ids : Nat → Bool) (E z : Nat) (h : noMenO ids ob = true) : noMenO ids (setO ob k (.arr E z xs)) = true := by
 induction ob with
 | nil => rfl
 | cons e r ih =>
  obtain ⟨i, y⟩ := e
  simp only [setO]
  split
  ·cases y <;> simp_all [noMenO]
  ·cases y <;> simp_all [noMenO]
@[simp] theorem qy (l : List A) : I.wp P sl ob KO Pn (.call k l) = ACall P k (l.map (A.ev sl)) ob (Xfu KO Pn) := by simp only [I.wp]
@[simp] theorem qz (l : List A) : I.wp P sl ob KO Pn (.callv x l) = Wn P (l.map (A.ev sl)) ob KO Pn (x.ev sl) := by simp only [I.wp]
@[simp] theorem callvK_f (a1 a2 : List V) : Wn P vs ob KO Pn (.fn k a1 a2) = (Xg P.p k = true ∧ ACall P k (a1 ++ vs ++ a2) ob (Xfu KO Pn)) := by simp only [Wn]
@[simp] theorem callvK_df (a1 a2 : List D) : Wn P vs ob KO Pn (.d (.fn k a1 a2)) = (Xg P.p k = true ∧ ACall P k (a1.map .d ++ vs ++ a2.map .d) ob (Xfu KO Pn)) := by simp only [Wn]
@[simp] theorem zk : Xfu KO Pn (.ret v) ob = KO v ob := by simp only [Xfu]
@[simp] theorem zj : Xfu KO Pn (.panic v) ob = Pn v ob := by simp only [Xfu]
@[simp] theorem iwp_panic : I.wp P sl ob KO Pn (.panic x) = Vy ob Pn (x.ev sl) := by simp only [I.wp]
@[simp] theorem panicK_d : Vy ob Pn (.d (.iface k d)) = Pn (.d (.iface k d)) ob := by simp only [Vy]
@[simp] theorem zg (E sz : Nat) : I.wp P sl ob KO Pn (.nilo E sz x) = Xco E sz ob KO (x.ev sl) := by simp only [I.wp]
@[simp] theorem niloK_n (E sz : Nat) : Xco E sz ob KO (.d .nils) = KO (.sl (fresh ob) 0) ((fresh ob, .arr E sz []) :: ob) := by simp only [Xco]
-- regions and statements
@[simp] theorem gdK_tt (Y N : Xb → Prop) : gdK k true sl Y N (.d (.bool true)) = Y ((k, .d (.bool true)) :: sl) := by simp [gdK]
@[simp] theorem gdK_tf (Y N : Xb → Prop) : gdK k true sl Y N (.d (.bool false)) = N ((k, .d (.bool false)) :: sl) := by simp [gdK]
@[simp low] theorem gdK_b (Y N : Xb → Prop) : gdK k c sl Y N (.d (.bool b)) = ((b = c → Y ((k, .d (.bool c)) :: sl)) ∧ (b = !c → N ((k, .d (.bool (!c))) :: sl))) := by simp only [gdK]
@[simp] theorem keepS_nil : Xc sl [] = [] := by simp only [Xc]
@[simp] theorem keepS_cons (l : List Nat) : Xc sl (k :: l) = (k, look sl k) :: Xc sl l := by simp only [Xc]
@[simp] theorem zh (l : List A) : I.wp P sl ob KO Pn (.pcall k l) = PCall P k (l.map (A.ev sl)) ob (fun v => KO v ob) := by simp only [I.wp]
@[simp] theorem condK_t (Y N : Prop) : Us Y N (.d (.bool true)) = Y := by simp [Us]
@[simp] theorem condK_f (Y N : Prop) : Us Y N (.d (.bool false)) = N := by simp [Us]
@[simp low] theorem condK_b (Y N : Prop) : Us Y N (.d (.bool b)) = ((b = true → Y) ∧ (b = false → N)) := by simp only [Us]
@[simp] theorem zx : Zn next Q .normal sl ob = next sl ob := by simp only [Zn]
@[simp] theorem zw : Zn next Q (.exit n) sl ob = Q (.exit n) sl ob := by simp only [Zn]
@[simp] theorem zz : Zn next Q .ret sl ob = Q .ret sl ob := by simp only [Zn]
@[simp] theorem zy : Zn next Q (.panic v) sl ob = Q (.panic v) sl ob := by simp only [Zn]
@[simp] theorem qb : Yj n Q .normal sl ob = Q .normal sl ob := by simp only [Yj]
@[simp] theorem qa : Yj n Q (.exit n) sl ob = Q .normal sl ob := by simp [Yj]
@[simp] theorem qd : Yj n Q .ret sl ob = Q .ret sl ob := by simp only [Yj]
@[simp] theorem qc : Yj n Q (.panic v) sl ob = Q (.panic v) sl ob := by simp only [Yj]
attribute [simp] V1 noMenO Ys
-- results
@[simp] theorem pureQ_r (rs : List RV) : J7 rs K .ret sl ob = Zu sl ob rs fun vs => Zg (fun l _ => K (Wb (l.map .d))) (V.givs ob vs) := by simp only [J7]
@[simp] theorem pureQ_p (rs : List RV) : J7 rs K (.panic v) sl ob = False := by simp only [J7]
@[simp] theorem qe (rs : List RV) (KU : Out → Objs → Prop) : Wj n rs KU .normal sl ob = Zu sl ob rs fun vs => Xcb vs ob fun vs ob => Xx n (KU (.ret (Wb vs))) vs ob := by simp only [Wj]
@[simp] theorem qg (rs : List RV) (KU : Out → Objs → Prop) : Wj n rs KU .ret sl ob = Zu sl ob rs fun vs => Xcb vs ob fun vs ob => Xx n (KU (.ret (Wb vs))) vs ob := by simp only [Wj]
@[simp] theorem qf (rs : List RV) (KU : Out → Objs → Prop) : Wj n rs KU (.panic v) sl ob = Xx n (KU (.panic v)) [v] ob := by simp only [Wj]
@[simp] theorem resK_nil (KL : List V → Prop) : Zu sl ob [] KL = KL [] := by simp only [Zu]
@[simp] theorem resK_t (KL : List V → Prop) (rs : List RV) : Zu sl ob (.t k :: rs) KL = Zu sl ob rs fun vs => KL (look sl k :: vs) := by simp only [Zu, RV.wp]
@[simp] theorem resK_c (KL : List V → Prop) (rs : List RV) : Zu sl ob (.c k n b :: rs) KL = ldK ob n b (fun v => Zu sl ob rs fun vs => KL (v :: vs)) (look sl k) := by simp only [Zu, RV.wp]
@[simp] theorem retV_1 : Wb [v] = v := by simp only [Wb]
@[simp] theorem retV_0 : Wb [] = .tup [] := by simp only [Wb]
@[simp] theorem retV_2 : Wb (v :: v' :: vs) = .tup (v :: v' :: vs) := by simp only [Wb]
@[simp] theorem argS_nil : Ua k [] = [] := by simp only [Ua]
@[simp] theorem argS_cons : Ua k (v :: vs) = (k, v) :: Ua (k + 1) vs := by simp only [Ua]
end

@[congr] theorem I_wp_congr {P : Prg} {sl : Xb} {ob : Objs} {KO : V → Objs → Prop} {Pn : V → Objs → Prop} {i : I} : I.wp P sl ob KO Pn i = I.wp P sl ob KO Pn i := rfl
@[congr] theorem C_wp_congr {sl : Xb} {ob : Objs} {K : V → Prop} {e : C} : C.wp sl ob K e = C.wp sl ob K e := rfl
@[congr] theorem rwp_congr {P : Prg} {KS : Xb → Objs → Prop} {PS : V → Xb → Objs → Prop} {l : List It} {sl : Xb} {ob : Objs} : rwp P KS PS l sl ob = rwp P KS PS l sl ob := rfl
@[congr] theorem gdK_congr {k : Nat} {b : Bool} {sl : Xb} {Y N : Xb → Prop} {v v' : V} (h0 : v = v') : gdK k b sl Y N v = gdK k b sl Y N v' := by rw [h0]
@[congr] theorem condK_congr {Y N : Prop} {v v' : V} (h0 : v = v') : Us Y N v = Us Y N v' := by rw [h0]
@[congr] theorem pickK_congr {K : V → Prop} {u u' : V} {v v' : V} {w w' : V} (h0 : u = u') (h1 : v = v') (h2 : w = w') : Vv K u v w = Vv K u' v' w' := by rw [h0, h1, h2]
@[congr] theorem notK_congr {K : V → Prop} {v v' : V} (h0 : v = v') : Xlq K v = Xlq K v' := by rw [h0]
@[congr] theorem cplK_congr {K : V → Prop} {v v' : V} (h0 : v = v') : Xu0 K v = Xu0 K v' := by rw [h0]
@[congr] theorem mxK_congr {K : V → Prop} {u u' v v' : V} (h0 : u = u') (h1 : v = v') : mxK K u v = mxK K u' v' := by rw [h0, h1]
@[congr] theorem negK_congr {K : V → Prop} {v v' : V} (h0 : v = v') : Xwd K v = Xwd K v' := by rw [h0]
@[congr] theorem cvsK_congr {K : V → Prop} {v v' : V} (h0 : v = v') : Xuv K v = Xuv K v' := by rw [h0]
@[congr] theorem nilcK_congr {K : V → Prop} {v v' : V} (h0 : v = v') : Qi K v = Qi K v' := by rw [h0]
@[congr] theorem lenSK_congr {K : V → Prop} {v v' : V} (h0 : v = v') : Jo K v = Jo K v' := by rw [h0]
@[congr] theorem b2sK_congr {K : V → Prop} {v v' : V} (h0 : v = v') : Xwk K v = Xwk K v' := by rw [h0]
@[congr] theorem s2bK_congr {K : V → Prop} {v v' : V} (h0 : v = v') : Xwp K v = Xwp K v' := by rw [h0]
@[congr] theorem binK_congr {op : BinOp} {K : V → Prop} {u u' : V} {v v' : V} (h0 : u = u') (h1 : v = v') : Xh7 op K u v = Xh7 op K u' v' := by rw [h0, h1]
@[congr] theorem intK_congr {op : BinOp} {k j : IntKind} {K : V → Prop} {a a' : Int} {b b' : Int} (h0 : a = a') (h1 : b = b') : Xhb op k j a b K = Xhb op k j a' b' K := by rw [h0, h1]
@[congr] theorem strK_congr {op : BinOp} {K : V → Prop} {a a' : List UInt8} {b b' : List UInt8} (h0 : a = a') (h1 : b = b') : Xj0 op a b K = Xj0 op a' b' K := by rw [h0, h1]
@[congr] theorem beqK_congr {e : Bool} {K : V → Prop} {u u' : V} {v v' : V} (h0 : u = u') (h1 : v = v') : Xtl e K u v = Xtl e K u' v' := by rw [h0, h1]
@[congr] theorem isnilK_congr {e : Bool} {K : V → Prop} {v v' : V} (h0 : v = v') : Zz e K v = Zz e K v' := by rw [h0]
@[congr] theorem cviK_congr {k : IntKind} {K : V → Prop} {v v' : V} (h0 : v = v') : Xnk k K v = Xnk k K v' := by rw [h0]
@[congr] theorem idxK_congr {K : V → Prop} {u u' : V} {v v' : V} (h0 : u = u') (h1 : v = v') : Xn8 K u v = Xn8 K u' v' := by rw [h0, h1]
@[congr] theorem idxAK_congr {ob : Objs} {n : Nat} {K : V → Prop} {u u' : V} {v v' : V} (h0 : u = u') (h1 : v = v') : Qd ob n K u v = Qd ob n K u' v' := by rw [h0, h1]
@[congr] theorem idxPK_congr {ob : Objs} {k n : Nat} {K : V → Prop} {u u' : V} {v v' : V} (h0 : u = u') (h1 : v = v') : Ql ob k n K u v = Ql ob k n K u' v' := by rw [h0, h1]
@[congr] theorem fldAK_congr {ob : Objs} {k n : Nat} {K : V → Prop} {v v' : V} (h0 : v = v') : Vf ob k n K v = Vf ob k n K v' := by rw [h0]
@[congr] theorem fldAKo_congr {j : Nat} {p : List Nat} {k n : Nat} {K : V → Prop} {v v' : Option (List V)} (h0 : v = v') : Ws j p k n K v = Ws j p k n K v' := by rw [h0]
@[congr] theorem fldK_congr {k j n : Nat} {b : Bool} {K : V → Prop} {v v' : Option (List V)} (h0 : v = v') : Xtz k j n b K v = Xtz k j n b K v' := by rw [h0]
@[congr] theorem ldK_congr {ob : Objs} {n : Nat} {b : Bool} {K : V → Prop} {v v' : V} (h0 : v = v') : ldK ob n b K v = ldK ob n b K v' := by rw [h0]
@[congr] theorem ldKo_congr {n : Nat} {b : Bool} {K : V → Prop} {v v' : Option V} (h0 : v = v') : Xdq n b K v = Xdq n b K v' := by rw [h0]
@[congr] theorem lenLK_congr {ob : Objs} {K : V → Prop} {v v' : V} (h0 : v = v') : V9 ob K v = V9 ob K v' := by rw [h0]
@[congr] theorem bndK_congr {n : Nat} {KK : Nat → Nat → Prop} {u u' : Option V} {v v' : Option V} (h0 : u = u') (h1 : v = v') : Vq n KK u v = Vq n KK u' v' := by rw [h0, h1]
@[congr] theorem slcSK_congr {K : V → Prop} {l l' : Option V} {h h' : Option V} {v v' : V} (h0 : l = l') (h1 : h = h') (h2 : v = v') : Xad l h K v = Xad l' h' K v' := by rw [h0, h1, h2]
@[congr] theorem slcLK_congr {n : Nat} {K : V → Prop} {l l' : Option V} {h h' : Option V} {v v' : V} (h0 : l = l') (h1 : h = h') (h2 : v = v') : J9 n l h K v = J9 n l' h' K v' := by rw [h0, h1, h2]
@[congr] theorem extK_congr {n : Nat} {K : V → Prop} {v v' : V} (h0 : v = v') : Xn7 n K v = Xn7 n K v' := by rw [h0]
@[congr] theorem bldK_congr {KL : List V → Prop} {u u' : List V} {l l' : List (Nat × V)} (h0 : u = u') (h1 : l = l') : Vt u l KL = Vt u' l' KL := by rw [h0, h1]
@[congr] theorem tasK_congr {k : Nat} {d : D} {K : V → Prop} {v v' : V} (h0 : v = v') : Xpg k d K v = Xpg k d K v' := by rw [h0]
@[congr] theorem boxK_congr {k : Nat} {ob : Objs} {KO : V → Objs → Prop} {v v' : V} (h0 : v = v') : Xj3 k ob KO v = Xj3 k ob KO v' := by rw [h0]
@[congr] theorem stK_congr {ob : Objs} {n : Nat} {KO : V → Objs → Prop} {u u' : V} {v v' : V} (h0 : u = u') (h1 : v = v') : stK ob n u KO v = stK ob n u' KO v' := by rw [h0, h1]
@[congr] theorem stKo_congr {ob : Objs} {k : Nat} {p : List Nat} {n : Nat} {u : V} {KO : V → Objs → Prop} {v v' : Option Ob} (h0 : v = v') : Xkj ob k p n u KO v = Xkj ob k p n u KO v' := by rw [h0]
@[congr] theorem stKt_congr {ob : Objs} {k : Nat} {p : List Nat} {n E : Nat} {u t : V} {KO : V → Objs → Prop} {v v' : Option V} (h0 : v = v') : Xlf ob k p n E u t KO v = Xlf ob k p n E u t KO v' := by rw [h0]
@[congr] theorem stKs_congr {ob : Objs} {k E : Nat} {KO : V → Objs → Prop} {v v' : Option V} (h0 : v = v') : Xwn ob k E KO v = Xwn ob k E KO v' := by rw [h0]
@[congr] theorem dK_congr {KD : List D → Prop} {v v' : Option (List D)} (h0 : v = v') : dK KD v = dK KD v' := by rw [h0]
@[congr] theorem callvK_congr {P : Prg} {ob : Objs} {KO : V → Objs → Prop} {Pn : V → Objs → Prop} {u u' : List V} {v v' : V} (h0 : u = u') (h1 : v = v') : Wn P u ob KO Pn v = Wn P u' ob KO Pn v' := by rw [h0, h1]
@[congr] theorem panicK_congr {ob : Objs} {Pn : V → Objs → Prop} {v v' : V} (h0 : v = v') : Vy ob Pn v = Vy ob Pn v' := by rw [h0]
@[congr] theorem srcK_congr {n : Nat} {KD : List D → Prop} {v v' : V} (h0 : v = v') : Xny n KD v = Xny n KD v' := by rw [h0]
@[congr] theorem appK_congr {E sz B : Nat} {ob : Objs} {xs : List D} {KO : V → Objs → Prop} {v v' : V} (h0 : v = v') : J8 E sz B ob xs KO v = J8 E sz B ob xs KO v' := by rw [h0]
@[congr] theorem appKo_congr {k E sz B n : Nat} {ob : Objs} {xs : List D} {KO : V → Objs → Prop} {v v' : Option Ob} (h0 : v = v') : Xaa k E sz B n ob xs KO v = Xaa k E sz B n ob xs KO v' := by rw [h0]
@[congr] theorem niloK_congr {E sz : Nat} {ob : Objs} {KO : V → Objs → Prop} {v v' : V} (h0 : v = v') : Xco E sz ob KO v = Xco E sz ob KO v' := by rw [h0]
@[congr] theorem srcSK_congr {KD : List D → Prop} {v v' : V} (h0 : v = v') : Xcu KD v = Xcu KD v' := by rw [h0]
@[congr] theorem pnilK_congr {e : Bool} {K : V → Prop} {v v' : V} (h0 : v = v') : Xfn e K v = Xfn e K v' := by rw [h0]
@[congr] theorem fnilK_congr {e : Bool} {K : V → Prop} {v v' : V} (h0 : v = v') : Xfh e K v = Xfh e K v' := by rw [h0]
@[congr] theorem peqK_congr {ob : Objs} {e : Bool} {K : V → Prop} {u u' v v' : V} (h1 : u = u') (h0 : v = v') : Xwl ob e K u v = Xwl ob e K u' v' := by rw [h0, h1]
@[congr] theorem givK_congr {KO : V → Objs → Prop} {v v' : Option (D × Objs)} (h0 : v = v') : Xdp KO v = Xdp KO v' := by rw [h0]
@[congr] theorem givsK_congr {KO : List D → Objs → Prop} {v v' : Option (List D × Objs)} (h0 : v = v') : Zg KO v = Zg KO v' := by rw [h0]
@[congr] theorem gvO_congr {u : V} {ob : Objs} {KO : V → Objs → Prop} {v v' : Option (D × Objs)} (h0 : v = v') : gvO u ob KO v = gvO u ob KO v' := by rw [h0]
@[congr] theorem gvsK_congr {KL : List V → Objs → Prop} {u u' : List V} {ob ob' : Objs} (h0 : u = u') (h1 : ob = ob') : Xcb u ob KL = Xcb u' ob' KL := by rw [h0, h1]
@[congr] theorem leaveK_congr {n : Nat} {K : Objs → Prop} {u u' : List V} {ob ob' : Objs} (h0 : u = u') (h1 : ob = ob') : Xx n K u ob = Xx n K u' ob' := by rw [h0, h1]
@[congr] theorem ldfK_congr {n : Nat} {b : Bool} {ob : Objs} {KO : V → Objs → Prop} {v v' : V} (h0 : v = v') : Xp2 n b ob KO v = Xp2 n b ob KO v' := by rw [h0]
@[congr] theorem ldfKo_congr {n : Nat} {b : Bool} {ob : Objs} {KO : V → Objs → Prop} {v v' : Option V} (h0 : v = v') : Xfc n b ob KO v = Xfc n b ob KO v' := by rw [h0]
@[congr] theorem mvgK_congr {ob : Objs} {E sz : Nat} {p : List Nat} {KO : V → Objs → Prop} {u u' v v' : V} (h1 : u = u') (h0 : v = v') : Xe6 ob E sz p u KO v = Xe6 ob E sz p u' KO v' := by rw [h0, h1]
@[congr] theorem mvgKt_congr {ob : Objs} {k E sz : Nat} {p p' : List Nat} {KO : V → Objs → Prop} {u : V} {v v' : Option Ob} (h1 : p = p') (h0 : v = v') : Xaf ob k p E sz u KO v = Xaf ob k p' E sz u KO v' := by rw [h0, h1]
@[congr] theorem mvgKs_congr {ob : Objs} {k E0 E sz : Nat} {KO : V → Objs → Prop} {u : V} {v v' : Option V} (h0 : v = v') : Xds ob k E0 E sz u KO v = Xds ob k E0 E sz u KO v' := by rw [h0]
@[congr] theorem cvbK_congr {ob : Objs} {KO : V → Objs → Prop} {v v' : V} (h0 : v = v') : Xnz ob KO v = Xnz ob KO v' := by rw [h0]
@[congr] theorem cvbKo_congr {k n : Nat} {ob : Objs} {KO : V → Objs → Prop} {v v' : Option Ob} (h0 : v = v') : Xcw k n ob KO v = Xcw k n ob KO v' := by rw [h0]
@[congr] theorem usdK_congr {ob : Objs} {K : V → Prop} {v v' : V} (h0 : v = v') : Xjg ob K v = Xjg ob K v' := by rw [h0]
@[congr] theorem ustrK_congr {E : Nat} {ob : Objs} {KO : V → Objs → Prop} {u u' v v' : V} (h1 : u = u') (h0 : v = v') : Uk E ob KO u v = Uk E ob KO u' v' := by rw [h0, h1]
@[congr] theorem ustrKo_congr {k n : Nat} {m : Int} {E : Nat} {ob : Objs} {KO : V → Objs → Prop} {v v' : Option Ob} (h0 : v = v') : V8 k n m E ob KO v = V8 k n m E ob KO v' := by rw [h0]
@[congr] theorem resK_congr {sl : Xb} {ob : Objs} {rs : List RV} {KL : List V → Prop} : Zu sl ob rs KL = Zu sl ob rs KL := rfl
@[congr] theorem ACall_congr {P : Prg} {f : Nat} {vs vs' : List V} {ob ob' : Objs} {K : Out → Objs → Prop} (h : vs = vs') (h' : ob = ob') : ACall P f vs ob K = ACall P f vs' ob' K := by rw [h, h']
@[congr] theorem PCall_congr {P : Prg} {f : Nat} {vs vs' : List V} {ob ob' : Objs} {K : V → Prop} (h : vs = vs') (h' : ob = ob') : PCall P f vs ob K = PCall P f vs' ob' K := by rw [h, h']
@[congr] theorem ALoop_congr {keep : List Nat} {body : Zt → Xb → Objs → Prop} {Q : Zt} {sl sl' : Xb} {ob ob' : Objs} (h : sl = sl') (h' : ob = ob') : ALoop keep body Q sl ob = ALoop keep body Q sl' ob' := by rw [h, h']

theorem ALoop.of {keep : List Nat} {body : Zt → Xb → Objs → Prop} {Q : Zt} {sl : Xb} {ob : Objs} {ι : Type} (S : ι → Xb) (O : ι → Objs) (I : ι → Prop) (μ : ι → Nat) (i0 : ι) (h0 : I i0) (hs : Xc sl keep = S i0) (ho : ob = O i0)
  (step : ∀ i, I i → body (Zn (sub keep (fresh (O i)) fun sl' ob' => ∃ j, I j ∧ μ j < μ i ∧ sl' = S j ∧ ob' = O j) Q) (S i) (O i)) : ALoop keep body Q sl ob :=
 ⟨⟨ι, S, O, I, μ, i0, h0, hs, ho, step⟩⟩

theorem ALoop.go {keep : List Nat} {body : Zt → Xb → Objs → Prop} {Q : Zt} {sl : Xb} {ob : Objs} {ι : Type} (S : ι → Xb) (O : ι → Objs) (I : ι → Prop) (μ : ι → Nat) (i0 : ι) (h0 : I i0) (hs : Xc sl keep = S i0) (ho : ob = O i0)
  (step : ∀ i, I i → ∀ R : Zt, (∀ kp j sl' ob', I j → μ j < μ i → Xc sl' keep = S j → Ys (young (fresh (O i)) kp) ob' = O j → V1 (young (fresh (O i)) kp) (S j) = true → noMenO (young (fresh (O i)) kp) (O j) = true → R .normal sl' ob') →
   (∀ n sl' ob', Q (.exit n) sl' ob' → R (.exit n) sl' ob') → (∀ sl' ob', Q .ret sl' ob' → R .ret sl' ob') → (∀ v sl' ob', Q (.panic v) sl' ob' → R (.panic v) sl' ob') → body R (S i) (O i)) : ALoop keep body Q sl ob := by
 refine ALoop.of S O I μ i0 h0 hs ho fun i hi => step i hi _ (fun kp j sl' ob' h1 h2 h3 h4 h5 h6 => ?_) (fun _ _ _ h => h) (fun _ _ h => h) (fun _ _ _ h => h)
 simp only [Zn, sub]
 refine ⟨kp, ?_⟩
 rw [h3, h4]
 exact ⟨h5, h6, j, h1, h2, rfl, rfl⟩
@[congr] theorem cwp_congr {P : Prg} {s : S} {Q : Zt} {sl sl' : Xb} {ob ob' : Objs} (h : sl = sl') (h' : ob = ob') : cwp P s Q sl ob = cwp P s Q sl' ob' := by rw [h, h']
end Go.Ab
/- Expressions: what an operation that only reads yields, as a value. Over any program; no condition. -/
namespace Go.Ab
open Go

def Jl : V → V → V → V
 | .d (.bool t), .d (.bool x), .d (.bool y) => .d (.bool (if t then x else y))
 | .d (.bool t), x, y => if t then x else y
 | _, _, _ => .any
def Xu1 : V → V
 | .d (.bool b) => .d (.bool (!b))
 | _ => .any
def X24 : V → V
 | .d (.int k n) => .d (.int k (k.wrap (0 - n)))
 | _ => .any
def X2f : V → V
 | .d (.int k n) => .d (.int k (Xjt .xor k (if k.signed then -1 else k.max) n))
 | _ => .any
def mxV : V → V → V
 | .d (.int k a), .d (.int _ b) => .d (.int k (if b > a then b else a))
 | _, _ => .any
def U5 (op : BinOp) (k : IntKind) (a b : Int) : V :=
 match op with
 | .add => .d (.int k (k.wrap (a + b)))
 | .sub => .d (.int k (k.wrap (a - b)))
 | .mul => .d (.int k (k.wrap (a * b)))
 | .quo => .d (.int k (k.wrap (a.tdiv b)))
 | .rem => .d (.int k (a.tmod b))
 | .and | .or | .xor | .andNot => .d (.int k (Xjt op k a b))
 | .shl => .d (.int k (k.wrap (a * 2 ^ (min b.toNat k.bits))))
 | .shr => .d (.int k (a.fdiv (2 ^ (min b.toNat k.bits))))
 | .eql => .d (.bool (a == b))
 | .neq => .d (.bool (a != b))
 | .lss => .d (.bool (decide (a < b)))
 | .leq => .d (.bool (decide (a ≤ b)))
 | .gtr => .d (.bool (decide (b < a)))
 | .geq => .d (.bool (decide (b ≤ a)))
def Xrc (op : BinOp) (x y : List UInt8) : V :=
 match op with
 | .add => .d (.str (x ++ y))
 | .eql => .d (.bool (x == y))
 | .neq => .d (.bool (x != y))
 | .lss => .d (.bool (Op.bytesLess x y))
 | .leq => .d (.bool (Op.bytesLess x y || x == y))
 | .gtr => .d (.bool (!(Op.bytesLess x y || x == y)))
 | .geq => .d (.bool (!Op.bytesLess x y))
 | _ => .any
def Xt3 (op : BinOp) : V → V → V
 | .d (.int k a), .d (.int _ b) => U5 op k a b
 | .d (.str x), .d (.str y) => Xrc op x y
 | _, _ => .any
def X2u (e : Bool) : V → V → V
 | .d (.bool x), .d (.bool y) => .d (.bool ((x == y) == e))
 | _, _ => .any
def V6 (e : Bool) : V → V
 | .d .nili => .d (.bool e)
 | .iface _ _ => .d (.bool (!e))
 | .d (.iface _ _) => .d (.bool (!e))
 | _ => .any
def Xu2 (e : Bool) : V → V
 | .d .nilp => .d (.bool e)
 | .d (.ref _) => .d (.bool (!e))
 | .ptr _ _ => .d (.bool (!e))
 | _ => .any
def Xvh (e : Bool) : V → V
 | .d .nilf => .d (.bool e)
 | .d (.fn _ _ _) => .d (.bool (!e))
 | .fn _ _ _ => .d (.bool (!e))
 | _ => .any
def Xtp : V → V
 | .sl id n => .sd id n
 | .d .nils => .d .nilp
 | _ => .any
def Xud (k : IntKind) : V → V
 | .d (.int _ n) => .d (.int k (k.wrap n))
 | _ => .any
def X14 : V → V
 | .d (.str s) => .d (.str s)
 | _ => .any
def Xx0 : V → V → V
 | .d (.str s), .d (.int _ n) => .d (.int .u8 (s.getD n.toNat 0).toNat)
 | _, _ => .any
def Xep (z : Nat) : V → V → V
 | .d (.list _ xs), .d (.int _ n) => .d (.ref (xs.getD n.toNat default))
 | .sl id n, .d (.int _ m) => .ep id n z m.toNat 0 []
 | .bs id p lo _, .d (.int _ m) => .ptr id (p ++ [lo + m.toNat])
 | _, _ => .any
def Xbv : V → V → V
 | .ptr id p, .d (.int _ n) => .ptr id (p ++ [n.toNat])
 | .d (.ref (.agg xs)), .d (.int _ n) => .d (.ref (xs.getD n.toNat default))
 | _, _ => .any
def Xg6 (f fo : Nat) : V → V
 | .ptr id p => .ptr id (p ++ [f])
 | .ep id n z i g p => .ep id n z i (g + fo) (p ++ [f])
 | .d (.ref (.agg xs)) => .d (.ref (xs.getD f default))
 | _ => .any
def Yaw (f : Nat) : Option (List V) → V
 | some ks => ks.getD f .any
 | none => .any
def Xrb : Option V → V
 | some v => v
 | none => .any
def ldV (ob : Objs) : V → V
 | .ptr id p => Xrb (atO ob id p)
 | .d (.ref x) => .d x
 | .ep id m z i f p => Xrb (atE ob id m z i f p)
 | _ => .any
def Xgg : V → V
 | .d (.str s) => .d (.int .i64 s.length)
 | _ => .any
def J3 : V → V
 | .d (.list _ xs) => .d (.int .i64 xs.length)
 | .d .nils => .d (.int .i64 0)
 | .sl _ n => .d (.int .i64 n)
 | .bs _ _ _ n => .d (.int .i64 n)
 | _ => .any
def Xn3 (len : Nat) (K : Nat → Nat → V) : Option V → Option V → V
 | none, none => K 0 len
 | some (.d (.int _ l)), none => K l.toNat len
 | none, some (.d (.int _ h)) => K 0 h.toNat
 | some (.d (.int _ l)), some (.d (.int _ h)) => K l.toNat h.toNat
 | _, _ => .any
def Vs (lo hi : Option V) : V → V
 | .d (.str s) => Xn3 s.length (fun l h => .d (.str ((s.take h).drop l))) lo hi
 | _ => .any
def Xjd (lo hi : Option V) : V → V
 | .d (.list sz xs) => Xn3 xs.length (fun l h => .d (.list sz ((xs.take h).drop l))) lo hi
 | _ => .any
def Xwv (i : Nat) : V → V
 | .tup xs => xs.getD i .any
 | _ => .any
def Xwm (t : Nat) (z : D) : V → V
 | .iface t' v => if t' = t then .tup [v, .d (.bool true)] else .tup [.d z, .d (.bool false)]
 | .d (.iface t' x) => if t' = t then .tup [.d x, .d (.bool true)] else .tup [.d z, .d (.bool false)]
 | .d .nili => .tup [.d z, .d (.bool false)]
 | _ => .any

def Xww (e : Bool) : V → V → V
 | .d x, .d y => .d (.bool (D.eqb x y == e))
 | _, _ => .any
def Xiw : V → V → V
 | .d (.agg xs), .d (.int _ n) => .d (xs.getD n.toNat default)
 | _, _ => .any

def C.val (sl : Xb) (ob : Objs) : C → V
 | .mv x => x.ev sl
 | .pick c a b => Jl (c.ev sl) (a.ev sl) (b.ev sl)
 | .not x => Xu1 (x.ev sl)
 | .neg x => X24 (x.ev sl)
 | .cpl x => X2f (x.ev sl)
 | .mx x y => mxV (x.ev sl) (y.ev sl)
 | .bin op x y => Xt3 op (x.ev sl) (y.ev sl)
 | .beq e x y => X2u e (x.ev sl) (y.ev sl)
 | .isnil e x => V6 e (x.ev sl)
 | .pnil e x => Xu2 e (x.ev sl)
 | .fnil e x => Xvh e (x.ev sl)
 | .peq e _ _ => .d (.bool e)
 | .usd x => Xtp (x.ev sl)
 | .cvi k x => Xud k (x.ev sl)
 | .cvs x => X14 (x.ev sl)
 | .idx x i => Xx0 (x.ev sl) (i.ev sl)
 | .idxA z x i => Xep z (x.ev sl) (i.ev sl)
 | .idxP _ _ x i => Xbv (x.ev sl) (i.ev sl)
 | .fldA f fo x => Xg6 f fo (x.ev sl)
 | .fld f _ _ _ x => Yaw f (x.ev sl).kids
 | .ld _ _ x => ldV ob (x.ev sl)
 | .nilc x => x.ev sl
 | .lenS x => Xgg (x.ev sl)
 | .lenL x => J3 (x.ev sl)
 | .lenA n => .d (.int .i64 n)
 | .slcS x lo hi => Vs (lo.map (A.ev sl)) (hi.map (A.ev sl)) (x.ev sl)
 | .slcL _ x lo hi => Xjd (lo.map (A.ev sl)) (hi.map (A.ev sl)) (x.ev sl)
 | .ext x i => Xwv i (x.ev sl)
 | .bld _ _ => .any
 | .mkf f first cap => Xsg f (first.map (A.ev sl)) (cap.map (A.ev sl))
 | .mki t x => Xoc t (x.ev sl)
 | .tas t z x => Xwm t z (x.ev sl)
 | .eqD _ e x y => Xww e (x.ev sl) (y.ev sl)
 | .aix _ _ _ x i => Xiw (x.ev sl) (i.ev sl)

def C.ok (sl : Xb) (ob : Objs) (c : C) : Prop := c.wp sl ob fun v => v = c.val sl ob

theorem Xnc {op : BinOp} {k k' : IntKind} {a b : Int} {K K' : V → Prop} (hk : ∀ v, K v → K' v) (h : Xhb op k k' a b K) : Xhb op k k' a b K' := by
 cases op <;> simp only [Xhb] at h ⊢ <;> first | exact ⟨h.1, hk _ h.2⟩ | exact ⟨h.1, h.2.1, hk _ h.2.2⟩
theorem Xma {op : BinOp} {a b : List UInt8} {K K' : V → Prop} (hk : ∀ v, K v → K' v) (h : Xj0 op a b K) : Xj0 op a b K' := by
 cases op <;> simp only [Xj0] at h ⊢ <;> first | exact hk _ h | exact ⟨h.1, hk _ h.2⟩ | exact h.elim
theorem Qz {n : Nat} {K K' : Nat → Nat → Prop} (hk : ∀ l h, K l h → K' l h) {lo hi : Option V} (h : Vq n K lo hi) : Vq n K' lo hi := by
 unfold Vq at h ⊢
 split <;> simp_all
theorem Wu {K K' : List V → Prop} (hk : ∀ l, K l → K' l) : ∀ (ps : List (Nat × V)) (ks : List V), Vt ks ps K → Vt ks ps K'
 | [], _, h => hk _ h
 | (_, _) :: r, _, h => ⟨h.1, h.2.1, h.2.2.1, Wu hk r _ h.2.2.2⟩
theorem C.wp_mono {sl : Xb} {ob : Objs} {K K' : V → Prop} (hk : ∀ v, K v → K' v) (c : C) (h : c.wp sl ob K) : c.wp sl ob K' := by
 cases c <;> simp only [C.wp] at h ⊢
 case mv => exact hk _ h
 case lenA => exact hk _ h
 case mkf => exact hk _ h
 case mki => exact hk _ h
 case bld => exact Wu (fun _ => hk _) _ _ h
 case bin x y =>
  generalize A.ev sl x = v at h ⊢; generalize A.ev sl y = u at h ⊢
  unfold Xh7 at h; split at h
  ·exact Xnc hk h
  ·exact Xma hk h
  ·exact h.elim
 case slcS x lo hi =>
  generalize A.ev sl x = v at h ⊢
  unfold Xad at h; split at h
  ·exact Qz (fun _ _ => hk _) h
  ·exact h.elim
 case slcL x lo hi =>
  generalize A.ev sl x = v at h ⊢
  unfold J9 at h; split at h
  ·exact ⟨h.1, Qz (fun _ _ => hk _) h.2⟩
  ·exact h.elim
 case pick x y z =>
  generalize A.ev sl x = v at h ⊢; generalize A.ev sl y = u at h ⊢; generalize A.ev sl z = t at h ⊢
  unfold Vv at h; split at h
  ·exact hk _ h
  ·rename_i hn; simp only [Vv]; exact ⟨fun e => hk _ (h.1 e), fun e => hk _ (h.2 e)⟩
  ·exact h.elim
 case fld x =>
  generalize (A.ev sl x).kids = v at h ⊢
  unfold Xtz at h; split at h
  ·exact ⟨h.1, h.2.1, h.2.2.1, h.2.2.2.1, hk _ h.2.2.2.2⟩
  ·exact h.elim
 case fldA x =>
  generalize A.ev sl x = v at h ⊢
  unfold Vf at h; split at h
  ·simp only [Vf]
   generalize Yc _ = v at h ⊢
   unfold Ws at h; split at h
   ·exact ⟨h.1, h.2.1, hk _ h.2.2⟩
   ·exact h.elim
  ·exact ⟨h.1, h.2.1, hk _ h.2.2⟩
  ·exact hk _ h
  ·exact h.elim
 case ld x =>
  generalize A.ev sl x = v at h ⊢
  unfold ldK at h; split at h
  ·simp only [ldK]
   generalize atO _ _ _ = v at h ⊢
   unfold Xdq at h; split at h
   ·exact ⟨h.1, h.2.1, hk _ h.2.2⟩
   ·exact h.elim
  ·exact ⟨h.1, h.2.1, hk _ h.2.2⟩
  ·simp only [ldK]
   generalize atE _ _ _ _ _ _ _ = v at h ⊢
   unfold Xdq at h; split at h
   ·exact ⟨h.1, h.2.1, hk _ h.2.2⟩
   ·exact h.elim
  ·exact h.elim
 case tas x =>
  generalize A.ev sl x = v at h ⊢
  unfold Xpg at h; split at h
  ·exact ⟨fun e => hk _ (h.1 e), fun e => hk _ (h.2 e)⟩
  ·exact ⟨fun e => hk _ (h.1 e), fun e => hk _ (h.2 e)⟩
  ·exact hk _ h
  ·exact h.elim
 case pnil x => generalize A.ev sl x = v at h ⊢; unfold Xfn at h; split at h <;> first | exact hk _ h | exact h.elim
 case fnil x => generalize A.ev sl x = v at h ⊢; unfold Xfh at h; split at h <;> first | exact hk _ h | exact h.elim
 case usd x => generalize A.ev sl x = v at h ⊢; unfold Xjg at h; split at h <;> first | exact ⟨h.1, hk _ h.2⟩ | exact hk _ h | exact h.elim
 case peq x y => generalize A.ev sl x = v at h ⊢; generalize A.ev sl y = u at h ⊢; unfold Xwl at h; split at h <;> first | exact ⟨h.1, h.2.1, h.2.2.1, hk _ h.2.2.2⟩ | exact h.elim
 case not x => generalize A.ev sl x = v at h ⊢; unfold Xlq at h; split at h <;> first | exact hk _ h | exact h.elim
 case cpl x => generalize A.ev sl x = v at h ⊢; unfold Xu0 at h; split at h <;> first | exact hk _ h | exact h.elim
 case mx x y => generalize A.ev sl x = v at h ⊢; generalize A.ev sl y = u at h ⊢; unfold mxK at h; split at h <;> first | exact hk _ h | exact h.elim
 case neg x => generalize A.ev sl x = v at h ⊢; unfold Xwd at h; split at h <;> first | exact hk _ h | exact h.elim
 case isnil x => generalize A.ev sl x = v at h ⊢; unfold Zz at h; split at h <;> first | exact hk _ h | exact h.elim
 case cvi x => generalize A.ev sl x = v at h ⊢; unfold Xnk at h; split at h <;> first | exact hk _ h | exact h.elim
 case cvs x => generalize A.ev sl x = v at h ⊢; unfold Xuv at h; split at h <;> first | exact hk _ h | exact h.elim
 case nilc x => generalize A.ev sl x = v at h ⊢; unfold Qi at h; split at h <;> first | exact hk _ h | exact h.elim
 case lenS x => generalize A.ev sl x = v at h ⊢; unfold Jo at h; split at h <;> first | exact hk _ h | exact h.elim
 case lenL x => generalize A.ev sl x = v at h ⊢; unfold V9 at h; split at h <;> first | exact hk _ h | exact ⟨h.1, hk _ h.2⟩ | exact h.elim
 case ext x _ => generalize A.ev sl x = v at h ⊢; unfold Xn7 at h; split at h <;> first | exact ⟨h.1, hk _ h.2⟩ | exact h.elim
 case eqD x y => generalize A.ev sl x = v at h ⊢; generalize A.ev sl y = u at h ⊢; unfold Xz4 at h; split at h <;> first | exact ⟨h.1, h.2.1, hk _ h.2.2⟩ | exact h.elim
 case aix x y => generalize A.ev sl x = v at h ⊢; generalize A.ev sl y = u at h ⊢; unfold Xgs at h; split at h <;> first | exact ⟨h.1, h.2.1, h.2.2.1, hk _ h.2.2.2⟩ | exact h.elim
 case beq x y => generalize A.ev sl x = v at h ⊢; generalize A.ev sl y = u at h ⊢; unfold Xtl at h; split at h <;> first | exact hk _ h | exact h.elim
 case idx x y => generalize A.ev sl x = v at h ⊢; generalize A.ev sl y = u at h ⊢; unfold Xn8 at h; split at h <;> first | exact ⟨h.1, hk _ h.2⟩ | exact h.elim
 case idxA x y => generalize A.ev sl x = v at h ⊢; generalize A.ev sl y = u at h ⊢; unfold Qd at h; split at h <;> first | exact ⟨h.1, h.2.1, hk _ h.2.2⟩ | exact h.elim
 case idxP x y => generalize A.ev sl x = v at h ⊢; generalize A.ev sl y = u at h ⊢; unfold Ql at h; split at h <;> first | exact ⟨h.1, h.2.1, hk _ h.2.2⟩ | exact ⟨h.1, h.2.1, h.2.2.1, hk _ h.2.2.2⟩ | exact h.elim
theorem C.wp_of {sl : Xb} {ob : Objs} {K : V → Prop} {c : C} (h : c.ok sl ob) (hK : K (c.val sl ob)) : c.wp sl ob K :=
 C.wp_mono (fun _ e => e ▸ hK) c h
end Go.Ab
/- Regions folded into expressions: the expressions, what they yield, and how a region is folded. Over any program; no condition. -/
namespace Go.Ab
open Go

inductive E where
 | a (x : A)
 | u (c : C) (x : E)
 | b (c : C) (x y : E)
 | t (c : C) (x y z : E)
 | ite (c x y : E)
 | call (f : Nat) (x : E)
 | nil
 | cons (x r : E)

structure Fn where
 pre : List V → Prop
 val : List V → V
abbrev Tab := List (Nat × Fn)
def Vl : Tab → Nat → Option Fn
 | [], _ => none
 | (j, x) :: r, k => if j = k then some x else Vl r k
def TOk (P : Prg) (T : Tab) : Prop := ∀ f F, Vl T f = some F → ∀ vs, F.pre vs → ∀ (ob : Objs) (K : V → Prop), K (F.val vs) → PCall P f vs ob K

def isB (pol : Bool) : V → Bool
 | .d (.bool b) => b == pol
 | _ => false
def J1 : V → Prop
 | .d (.bool _) => True
 | _ => False
def Xli (x : V) : V → V
 | .tup xs => .tup (x :: xs)
 | _ => .any
def Xp1 : Option Fn → V → V
 | some F, .tup vs => F.val vs
 | _, _ => .any
def Xp0 : Option Fn → V → Prop
 | some F, .tup vs => F.pre vs
 | _, _ => False

def E.val (T : Tab) (sl : Xb) (ob : Objs) : E → V
 | .a x => x.ev sl
 | .u c x => c.val [(0, x.val T sl ob)] ob
 | .b c x y => c.val [(0, x.val T sl ob), (1, y.val T sl ob)] ob
 | .t c x y z => c.val [(0, x.val T sl ob), (1, y.val T sl ob), (2, z.val T sl ob)] ob
 | .ite c x y => Jl (c.val T sl ob) (x.val T sl ob) (y.val T sl ob)
 | .call f x => Xp1 (Vl T f) (x.val T sl ob)
 | .nil => .tup []
 | .cons x r => Xli (x.val T sl ob) (r.val T sl ob)
def E.ok (T : Tab) (sl : Xb) (ob : Objs) : E → Prop
 | .a _ => True
 | .u c x => x.ok T sl ob ∧ c.ok [(0, x.val T sl ob)] ob
 | .b c x y => x.ok T sl ob ∧ y.ok T sl ob ∧ c.ok [(0, x.val T sl ob), (1, y.val T sl ob)] ob
 | .t c x y z => x.ok T sl ob ∧ y.ok T sl ob ∧ z.ok T sl ob ∧ c.ok [(0, x.val T sl ob), (1, y.val T sl ob), (2, z.val T sl ob)] ob
 | .ite c x y => c.ok T sl ob ∧ J1 (c.val T sl ob) ∧ (isB true (c.val T sl ob) = true → x.ok T sl ob) ∧ (isB false (c.val T sl ob) = true → y.ok T sl ob)
 | .call f x => x.ok T sl ob ∧ Xp0 (Vl T f) (x.val T sl ob)
 | .nil => True
 | .cons x r => x.ok T sl ob ∧ r.ok T sl ob

def A.men (k : Nat) : A → Bool
 | .t j => j == k
 | _ => false
def E.men (k : Nat) : E → Bool
 | .a x => x.men k
 | .u _ x => x.men k
 | .b _ x y => x.men k || y.men k
 | .t _ x y z => x.men k || y.men k || z.men k
 | .ite x y z => x.men k || y.men k || z.men k
 | .call _ x => x.men k
 | .nil => false
 | .cons x y => x.men k || y.men k
def C.rd : C → Bool
 | .ld _ _ _ => true
 | _ => false
def E.rd : E → Bool
 | .a _ => false
 | .u c x => c.rd || x.rd
 | .b c x y => c.rd || x.rd || y.rd
 | .t c x y z => c.rd || x.rd || y.rd || z.rd
 | .ite x y z => x.rd || y.rd || z.rd
 | .call _ x => x.rd
 | .nil => false
 | .cons x y => x.rd || y.rd
def E.isA : E → Bool
 | .a _ => true
 | _ => false

theorem E.val_sl {T : Tab} {sl : Xb} {ob : Objs} {k : Nat} {v : V} : ∀ {e : E}, e.men k = false → e.val T ((k, v) :: sl) ob = e.val T sl ob
 | .a x, h => by
  cases x <;> simp only [E.val, A.ev]
  rename_i j
  simp only [E.men, A.men, beq_eq_false_iff_ne, ne_eq] at h
  have h' : ¬ k = j := fun e => h e.symm
  simp [look, h']
 | .u c x, h => by simp only [E.men] at h; simp only [E.val, E.val_sl h]
 | .b c x y, h => by simp only [E.men, Bool.or_eq_false_iff] at h; simp only [E.val, E.val_sl h.1, E.val_sl h.2]
 | .t c x y z, h => by simp only [E.men, Bool.or_eq_false_iff] at h; simp only [E.val, E.val_sl h.1.1, E.val_sl h.1.2, E.val_sl h.2]
 | .ite x y z, h => by simp only [E.men, Bool.or_eq_false_iff] at h; simp only [E.val, E.val_sl h.1.1, E.val_sl h.1.2, E.val_sl h.2]
 | .call f x, h => by simp only [E.men] at h; simp only [E.val, E.val_sl h]
 | .nil, _ => rfl
 | .cons x y, h => by simp only [E.men, Bool.or_eq_false_iff] at h; simp only [E.val, E.val_sl h.1, E.val_sl h.2]
theorem C.val_ob {sl : Xb} {ob ob' : Objs} {c : C} (h : c.rd = false) : c.val sl ob = c.val sl ob' := by
 cases c <;> simp_all [C.rd, C.val]
theorem E.val_ob {T : Tab} {sl : Xb} {ob ob' : Objs} : ∀ {e : E}, e.rd = false → e.val T sl ob = e.val T sl ob'
 | .a x, h => rfl
 | .u c x, h => by simp only [E.rd, Bool.or_eq_false_iff] at h; simp only [E.val, E.val_ob (ob' := ob') h.2, C.val_ob (ob' := ob') h.1]
 | .b c x y, h => by simp only [E.rd, Bool.or_eq_false_iff] at h; simp only [E.val, E.val_ob (ob' := ob') h.1.2, E.val_ob (ob' := ob') h.2, C.val_ob (ob' := ob') h.1.1]
 | .t c x y z, h => by simp only [E.rd, Bool.or_eq_false_iff] at h; simp only [E.val, E.val_ob (ob' := ob') h.1.1.2, E.val_ob (ob' := ob') h.1.2, E.val_ob (ob' := ob') h.2, C.val_ob (ob' := ob') h.1.1.1]
 | .ite x y z, h => by simp only [E.rd, Bool.or_eq_false_iff] at h; simp only [E.val, E.val_ob (ob' := ob') h.1.1, E.val_ob (ob' := ob') h.1.2, E.val_ob (ob' := ob') h.2]
 | .call f x, h => by simp only [E.rd] at h; simp only [E.val, E.val_ob (ob' := ob') h]
 | .nil, _ => rfl
 | .cons x y, h => by simp only [E.rd, Bool.or_eq_false_iff] at h; simp only [E.val, E.val_ob (ob' := ob') h.1, E.val_ob (ob' := ob') h.2]


abbrev Wl := List (Nat × Bool)
abbrev Sg := List (Nat × Option (Wl × E))
def Y1 : Sg → Nat → Option (Option (Wl × E))
 | [], _ => none
 | (j, x) :: r, k => if j = k then some x else Y1 r k
def ent (σ : Sg) (k : Nat) : Option (Wl × E) := match Y1 σ k with
 | none => some ([], .a (.t k))
 | some x => x
def Xj (sl : Xb) (p : Wl) : Bool := p.all fun g => isB g.2 (look sl g.1)
def Ym (T : Tab) (sl : Xb) (ob : Objs) (p : List (E × Bool)) : Bool := p.all fun g => isB g.2 (g.1.val T sl ob)
def Inv (T : Tab) (σ : Sg) (sl sl0 : Xb) (ob : Objs) : Prop := ∀ k p e, ent σ k = some (p, e) →
 (Xj sl p = true → look sl k = e.val T sl0 ob) ∧ (Xj sl p = false → look sl k = .undef)

def opE (σ : Sg) (p : Wl) : A → Option E
 | .t k => match ent σ k with
  | some (q, e) => if q.isPrefixOf p then some e else none
  | none => none
 | x => some (.a x)
def Y6 (σ : Sg) (p : Wl) (c : C) (x : A) : Option E := match opE σ p x with
 | some x => some (.u c x)
 | none => none
def Wm (σ : Sg) (p : Wl) (c : C) (x y : A) : Option E := match opE σ p x, opE σ p y with
 | some x, some y => some (.b c x y)
 | _, _ => none
def Xi0 (σ : Sg) (p : Wl) (c : C) (x y z : A) : Option E := match opE σ p x, opE σ p y, opE σ p z with
 | some x, some y, some z => some (.t c x y z)
 | _, _, _ => none
def Xtb (σ : Sg) (p : Wl) (g : Nat) (x y : A) : Option E := match opE σ p (.t g), opE σ (p ++ [(g, true)]) x, opE σ (p ++ [(g, false)]) y with
 | some c, some x, some y => some (.ite c x y)
 | _, _, _ => none
def Xgy (σ : Sg) (p : Wl) : List A → Option E
 | [] => some .nil
 | x :: r => match opE σ p x, Xgy σ p r with
  | some x, some r => some (.cons x r)
  | _, _ => none

def C.lift (σ : Sg) (p : Wl) : C → Option E
 | .mv x => opE σ p x
 | .pick (.t g) x y => Xtb σ p g x y
 | .pick _ _ _ => none
 | .not x => Y6 σ p (.not (.t 0)) x
 | .neg x => Y6 σ p (.neg (.t 0)) x
 | .cpl x => Y6 σ p (.cpl (.t 0)) x
 | .mx x y => Wm σ p (.mx (.t 0) (.t 1)) x y
 | .bin o x y => Wm σ p (.bin o (.t 0) (.t 1)) x y
 | .beq e x y => Wm σ p (.beq e (.t 0) (.t 1)) x y
 | .isnil e x => Y6 σ p (.isnil e (.t 0)) x
 | .pnil e x => Y6 σ p (.pnil e (.t 0)) x
 | .fnil e x => Y6 σ p (.fnil e (.t 0)) x
 | .peq e x y => Wm σ p (.peq e (.t 0) (.t 1)) x y
 | .usd x => Y6 σ p (.usd (.t 0)) x
 | .cvi k x => Y6 σ p (.cvi k (.t 0)) x
 | .cvs x => Y6 σ p (.cvs (.t 0)) x
 | .idx x i => Wm σ p (.idx (.t 0) (.t 1)) x i
 | .idxA z x i => Wm σ p (.idxA z (.t 0) (.t 1)) x i
 | .idxP n z x i => Wm σ p (.idxP n z (.t 0) (.t 1)) x i
 | .fldA f fo x => Y6 σ p (.fldA f fo (.t 0)) x
 | .fld f fo n ag x => Y6 σ p (.fld f fo n ag (.t 0)) x
 | .ld n ag x => Y6 σ p (.ld n ag (.t 0)) x
 | .nilc x => Y6 σ p (.nilc (.t 0)) x
 | .lenS x => Y6 σ p (.lenS (.t 0)) x
 | .lenL x => Y6 σ p (.lenL (.t 0)) x
 | .lenA n => some (.a (.int .i64 n))
 | .slcS x none none => Y6 σ p (.slcS (.t 0) none none) x
 | .slcS x (some l) none => Wm σ p (.slcS (.t 0) (some (.t 1)) none) x l
 | .slcS x none (some h) => Wm σ p (.slcS (.t 0) none (some (.t 1))) x h
 | .slcS x (some l) (some h) => Xi0 σ p (.slcS (.t 0) (some (.t 1)) (some (.t 2))) x l h
 | .slcL z x none none => Y6 σ p (.slcL z (.t 0) none none) x
 | .slcL z x (some l) none => Wm σ p (.slcL z (.t 0) (some (.t 1)) none) x l
 | .slcL z x none (some h) => Wm σ p (.slcL z (.t 0) none (some (.t 1))) x h
 | .slcL z x (some l) (some h) => Xi0 σ p (.slcL z (.t 0) (some (.t 1)) (some (.t 2))) x l h
 | .ext x i => Y6 σ p (.ext (.t 0) i) x
 | .mki t x => Y6 σ p (.mki t (.t 0)) x
 | .tas t z x => Y6 σ p (.tas t z (.t 0)) x
 | .eqD ty e x y => Wm σ p (.eqD ty e (.t 0) (.t 1)) x y
 | .aix n z ag x i => Wm σ p (.aix n z ag (.t 0) (.t 1)) x i
 | .bld _ _ => none
 | .mkf _ _ _ => none
def I.lift (fs : List Nat) (σ : Sg) (p : Wl) : I → Option E
 | .c x => x.lift σ p
 | .pcall f args => if fs.contains f then (match Xgy σ p args with | some e => some (.call f e) | none => none) else none
 | _ => none

def Jg (σ : Sg) (p : Wl) : A → List Nat
 | .t k => match ent σ k with
  | some (q, _) => if q == p then [k] else []
  | none => []
 | _ => []
def Xy5 (σ : Sg) (p : Wl) : List A → List Nat
 | [] => []
 | x :: r => Jg σ p x ++ Xy5 σ p r
def C.cons (σ : Sg) (p : Wl) : C → List Nat
 | .mv x | .not x | .neg x | .cpl x | .isnil _ x | .pnil _ x | .fnil _ x | .usd x | .cvi _ x | .cvs x | .fldA _ _ x | .fld _ _ _ _ x | .ld _ _ x | .nilc x | .lenS x | .lenL x | .ext x _ | .mki _ x | .tas _ _ x => Jg σ p x
 | .bin _ x y | .mx x y | .beq _ x y | .peq _ x y | .idx x y | .idxA _ x y | .idxP _ _ x y | .eqD _ _ x y | .aix _ _ _ x y => Jg σ p x ++ Jg σ p y
 | .slcS x none none | .slcL _ x none none => Jg σ p x
 | .slcS x (some y) none | .slcL _ x (some y) none | .slcS x none (some y) | .slcL _ x none (some y) => Jg σ p x ++ Jg σ p y
 | .slcS x (some y) (some z) | .slcL _ x (some y) (some z) => Jg σ p x ++ Jg σ p y ++ Jg σ p z
 | .pick (.t g) x y => Jg σ p (.t g) ++ Jg σ (p ++ [(g, true)]) x ++ Jg σ (p ++ [(g, false)]) y
 | _ => []
def I.cons (σ : Sg) (p : Wl) : I → List Nat
 | .c x => x.cons σ p
 | .pcall _ args => Xy5 σ p args
 | _ => []
def I.gcons (σ : Sg) (p : Wl) : I → List Nat
 | .c (.pick (.t g) _ _) => Jg σ p (.t g)
 | _ => []

section
variable {P : Prg} {T : Tab} {σ : Sg} {sl sl0 : Xb} {ob : Objs} {p : Wl}

theorem U9 {q : Wl} (h : q.isPrefixOf p = true) (hp : Xj sl p = true) : Xj sl q = true := by
 rw [List.isPrefixOf_iff_prefix] at h
 obtain ⟨t, rfl⟩ := h
 simp only [Xj, List.all_append, Bool.and_eq_true] at hp ⊢
 exact hp.1
theorem Yo (hI : Inv T σ sl sl0 ob) (hp : Xj sl p = true) {x : A} {e : E} (h : opE σ p x = some e) : e.val T sl0 ob = x.ev sl := by
 cases x with
 | t k =>
  simp only [opE] at h
  split at h
  ·rename_i q e' he
   split at h
   ·rename_i hq
    cases h
    exact ((hI k q e he).1 (U9 hq hp)).symm
   ·cases h
  ·cases h
 | _ => simp only [opE] at h; cases h; rfl
theorem Xg7 {c : C} {x : A} {e : E} (h : Y6 σ p c x = some e) : ∃ ex, e = .u c ex ∧ opE σ p x = some ex := by
 unfold Y6 at h; split at h
 ·cases h; exact ⟨_, rfl, by assumption⟩
 ·cases h
theorem Xhq {c : C} {x y : A} {e : E} (h : Wm σ p c x y = some e) : ∃ ex ey, e = .b c ex ey ∧ opE σ p x = some ex ∧ opE σ p y = some ey := by
 unfold Wm at h; split at h
 ·cases h; exact ⟨_, _, rfl, by assumption, by assumption⟩
 ·cases h
theorem Xhk {c : C} {x y z : A} {e : E} (h : Xi0 σ p c x y z = some e) : ∃ ex ey ez, e = .t c ex ey ez ∧ opE σ p x = some ex ∧ opE σ p y = some ey ∧ opE σ p z = some ez := by
 unfold Xi0 at h; split at h
 ·cases h; exact ⟨_, _, _, rfl, by assumption, by assumption, by assumption⟩
 ·cases h
theorem Xck {g : Nat} {x y : A} {e : E} (h : Xtb σ p g x y = some e) : ∃ ec ex ey, e = .ite ec ex ey ∧ opE σ p (.t g) = some ec ∧ opE σ (p ++ [(g, true)]) x = some ex ∧ opE σ (p ++ [(g, false)]) y = some ey := by
 unfold Xtb at h; split at h
 ·cases h; exact ⟨_, _, _, rfl, by assumption, by assumption, by assumption⟩
 ·cases h
theorem Xe2 (hI : Inv T σ sl sl0 ob) (hp : Xj sl p = true) : ∀ {xs : List A} {e : E}, Xgy σ p xs = some e → e.val T sl0 ob = .tup (xs.map (A.ev sl))
 | [], e, h => by simp only [Xgy] at h; cases h; rfl
 | x :: r, e, h => by
  simp only [Xgy] at h
  split at h
  ·rename_i ex er hx hr
   cases h
   simp only [E.val, Yo hI hp hx, Xe2 hI hp hr, Xli, List.map_cons]
  ·cases h
theorem Xlp (x y : V) : Jl (.d (.bool true)) x y = x := by unfold Jl; split <;> simp_all
theorem Xm1 (x y : V) : Jl (.d (.bool false)) x y = y := by unfold Jl; split <;> simp_all
theorem Xlx {v : V} (h : ¬ J1 v) (x y : V) : Jl v x y = .any := by unfold Jl; split <;> simp_all [J1]
theorem Xbp {v : V} (h : J1 v) : v = .d (.bool true) ∨ v = .d (.bool false) := by
 unfold J1 at h; split at h
 ·rename_i b; cases b <;> simp
 ·exact h.elim

theorem C.lift_sound (hI : Inv T σ sl sl0 ob) (hp : Xj sl p = true) {c : C} {e : E} (h : c.lift σ p = some e) : e.val T sl0 ob = c.val sl ob ∧ (e.ok T sl0 ob → c.ok sl ob) := by
 have l1 : ∀ {c x}, Y6 σ p c x = some e → ∃ ex, e = .u c ex ∧ ex.val T sl0 ob = x.ev sl := fun h => by
  obtain ⟨ex, rfl, hx⟩ := Xg7 h; exact ⟨ex, rfl, Yo hI hp hx⟩
 have l2 : ∀ {c x y}, Wm σ p c x y = some e → ∃ ex ey, e = .b c ex ey ∧ ex.val T sl0 ob = x.ev sl ∧ ey.val T sl0 ob = y.ev sl := fun h => by
  obtain ⟨ex, ey, rfl, hx, hy⟩ := Xhq h; exact ⟨ex, ey, rfl, Yo hI hp hx, Yo hI hp hy⟩
 have l3 : ∀ {c x y z}, Xi0 σ p c x y z = some e → ∃ ex ey ez, e = .t c ex ey ez ∧ ex.val T sl0 ob = x.ev sl ∧ ey.val T sl0 ob = y.ev sl ∧ ez.val T sl0 ob = z.ev sl := fun h => by
  obtain ⟨ex, ey, ez, rfl, hx, hy, hz⟩ := Xhk h; exact ⟨ex, ey, ez, rfl, Yo hI hp hx, Yo hI hp hy, Yo hI hp hz⟩
 unfold C.lift at h
 split at h
 case h_1 => exact ⟨by rw [Yo hI hp h]; rfl, fun _ => rfl⟩
 case h_2 g x y =>
  obtain ⟨ec, ex, ey, rfl, hc, hx, hy⟩ := Xck h
  have hcv := Yo hI hp hc
  simp only [A.ev] at hcv
  have hpt : ∀ b, look sl g = .d (.bool b) → Xj sl (p ++ [(g, b)]) = true := fun b hb => by
   simp only [Xj, List.all_append, Bool.and_eq_true] at hp ⊢
   exact ⟨hp, by simp [hb, isB]⟩
  simp only [E.val, E.ok, C.val, C.ok, C.wp, X04, hcv]
  by_cases hb : J1 (look sl g)
  ·rcases Xbp hb with hb | hb
   ·have := Yo hI (hpt true hb) hx
    rw [hb]; simp only [Xlp, Xsv, this]; exact ⟨trivial, fun _ => trivial⟩
   ·have := Yo hI (hpt false hb) hy
    rw [hb]; simp only [Xm1, Xv3, this]; exact ⟨trivial, fun _ => trivial⟩
  ·rw [Xlx hb, Xlx hb]; exact ⟨rfl, fun h => (hb h.2.1).elim⟩
 case h_26 => cases h; exact ⟨rfl, fun _ => rfl⟩
 all_goals first
  | (cases h; done)
  | (obtain ⟨ex, rfl, hx⟩ := l1 h; simp only [E.val, E.ok, C.val, C.ok, C.wp, X04, Xgt, hx, Option.map]; exact ⟨trivial, fun h => h.2⟩)
  | (obtain ⟨ex, ey, rfl, hx, hy⟩ := l2 h; simp only [E.val, E.ok, C.val, C.ok, C.wp, X04, Xgt, Xmg, Nat.reduceBEq, hx, hy, Option.map]; exact ⟨trivial, fun h => h.2.2⟩)
  | (obtain ⟨ex, ey, ez, rfl, hx, hy, hz⟩ := l3 h; simp only [E.val, E.ok, C.val, C.ok, C.wp, X04, Xgt, Xmg, Nat.reduceBEq, hx, hy, hz, Option.map]; exact ⟨trivial, fun h => h.2.2.2⟩)
end
end Go.Ab
/- Regions folded into expressions: that the fold Xex what is shown. Over any program; no condition. -/
namespace Go.Ab
open Go

section
variable {P : Prg} {T : Tab} {σ : Sg} {sl sl0 : Xb} {ob : Objs} {p : Wl}

theorem Y2 {x : A} {k : Nat} {ex : E} (hk : k ∈ Jg σ p x) (h : opE σ p x = some ex) : ent σ k = some (p, ex) := by
 cases x with
 | t j =>
  simp only [Jg] at hk
  simp only [opE] at h
  split at hk
  ·rename_i q e he
   split at hk
   ·rename_i hq
    simp at hk; subst hk
    simp at hq; subst hq
    rw [he] at h
    simp at h
    rw [he, h]
   ·cases hk
  ·cases hk
 | _ => simp [Jg] at hk
theorem X9 {g : Nat} {b : Bool} : Xj sl (p ++ [(g, b)]) = (Xj sl p && isB b (look sl g)) := by
 simp [Xj, List.all_append]
theorem Xia : ∀ {xs : List A} {e : E}, Xgy σ p xs = some e → ∀ {k q ek}, k ∈ Xy5 σ p xs → ent σ k = some (q, ek) → q = p ∧ (e.ok T sl0 ob → ek.ok T sl0 ob)
 | [], _, _, k, _, _, hk, _ => by simp [Xy5] at hk
 | x :: r, e, h, k, q, ek, hk, he => by
  simp only [Xgy] at h
  split at h
  ·rename_i ex er hx hr
   cases h
   simp only [Xy5, List.mem_append] at hk
   rcases hk with hk | hk
   ·have := Y2 hk hx
    rw [he] at this; cases this
    exact ⟨rfl, fun h => h.1⟩
   ·obtain ⟨h1, h2⟩ := Xia hr hk he
    exact ⟨h1, fun h => h2 h.2⟩
  ·cases h

theorem C.cov (hI : Inv T σ sl sl0 ob) {c : C} {e : E} (h : c.lift σ p = some e) {k : Nat} {q : Wl} {ek : E} (hk : k ∈ c.cons σ p) (he : ent σ k = some (q, ek)) (hq : Xj sl q = true) (ho : Xj sl p = true → e.ok T sl0 ob) : ek.ok T sl0 ob := by
 have l1 : ∀ {c x}, Y6 σ p c x = some e → k ∈ Jg σ p x → ek.ok T sl0 ob := fun h hk => by
  obtain ⟨ex, rfl, hx⟩ := Xg7 h
  have := Y2 hk hx
  rw [he] at this; cases this
  exact (ho hq).1
 have l2 : ∀ {c x y}, Wm σ p c x y = some e → k ∈ Jg σ p x ++ Jg σ p y → ek.ok T sl0 ob := fun h hk => by
  obtain ⟨ex, ey, rfl, hx, hy⟩ := Xhq h
  rw [List.mem_append] at hk
  rcases hk with hk | hk
  ·have := Y2 hk hx
   rw [he] at this; cases this
   exact (ho hq).1
  ·have := Y2 hk hy
   rw [he] at this; cases this
   exact (ho hq).2.1
 have l3 : ∀ {c x y z}, Xi0 σ p c x y z = some e → k ∈ Jg σ p x ++ Jg σ p y ++ Jg σ p z → ek.ok T sl0 ob := fun h hk => by
  obtain ⟨ex, ey, ez, rfl, hx, hy, hz⟩ := Xhk h
  rw [List.mem_append, List.mem_append] at hk
  rcases hk with (hk | hk) | hk
  ·have := Y2 hk hx
   rw [he] at this; cases this
   exact (ho hq).1
  ·have := Y2 hk hy
   rw [he] at this; cases this
   exact (ho hq).2.1
  ·have := Y2 hk hz
   rw [he] at this; cases this
   exact (ho hq).2.2.1
 unfold C.lift at h
 split at h <;> simp only [C.cons] at hk
 case h_1 =>
  have := Y2 hk h
  rw [he] at this; cases this
  exact ho hq
 case h_2 g x y =>
  obtain ⟨ec, ex, ey, rfl, hc, hx, hy⟩ := Xck h
  rw [List.mem_append, List.mem_append] at hk
  rcases hk with (hk | hk) | hk
  ·have := Y2 hk hc
   rw [he] at this; cases this
   exact (ho hq).1
  ·have := Y2 hk hx
   rw [he] at this; cases this
   rw [X9, Bool.and_eq_true] at hq
   have hv := Yo hI hq.1 hc
   exact (ho hq.1).2.2.1 (by rw [hv]; exact hq.2)
  ·have := Y2 hk hy
   rw [he] at this; cases this
   rw [X9, Bool.and_eq_true] at hq
   have hv := Yo hI hq.1 hc
   exact (ho hq.1).2.2.2 (by rw [hv]; exact hq.2)
 all_goals first
  | (cases h; done)
  | exact l1 h hk
  | exact l2 h hk
  | exact l3 h hk
  | (cases hk; done)
theorem I.cov (hI : Inv T σ sl sl0 ob) {fs : List Nat} {i : I} {e : E} (h : i.lift fs σ p = some e) {k : Nat} {q : Wl} {ek : E} (hk : k ∈ i.cons σ p) (he : ent σ k = some (q, ek)) (hq : Xj sl q = true) (ho : Xj sl p = true → e.ok T sl0 ob) : ek.ok T sl0 ob := by
 cases i <;> simp only [I.lift] at h <;> simp only [I.cons] at hk
 case c x => exact C.cov hI h hk he hq ho
 case pcall f args =>
  split at h
  ·split at h
   ·rename_i e' ha
    cases h
    obtain ⟨rfl, h2⟩ := Xia (T := T) (sl0 := sl0) (ob := ob) ha hk he
    exact h2 (ho hq).1
   ·cases h
  ·cases h
 all_goals cases h
theorem I.gcov {fs : List Nat} {i : I} {e : E} (h : i.lift fs σ p = some e) {k : Nat} {q : Wl} {ek : E} (hk : k ∈ i.gcons σ p) (he : ent σ k = some (q, ek)) (hq : Xj sl q = true) (ho : Xj sl p = true → e.ok T sl0 ob) : J1 (ek.val T sl0 ob) := by
 unfold I.gcons at hk
 split at hk
 ·rename_i g x y
  simp only [I.lift, C.lift] at h
  obtain ⟨ec, ex, ey, rfl, hc, hx, hy⟩ := Xck h
  have := Y2 hk hc
  rw [he] at this; cases this
  exact (ho hq).2.1
 ·cases hk
theorem I.lift_sound (hT : TOk P T) (hI : Inv T σ sl sl0 ob) (hp : Xj sl p = true) {fs : List Nat} {i : I} {e : E} (h : i.lift fs σ p = some e) (ho : e.ok T sl0 ob) {KO Pn : V → Objs → Prop} (hK : KO (e.val T sl0 ob) ob) : i.wp P sl ob KO Pn := by
 cases i <;> simp only [I.lift] at h
 case c x =>
  obtain ⟨h1, h2⟩ := C.lift_sound hI hp h
  simp only [I.wp]
  exact C.wp_of (h2 ho) (by rw [← h1]; exact hK)
 case pcall f args =>
  split at h
  ·split at h
   ·rename_i e' ha
    cases h
    have hv := Xe2 hI hp ha
    simp only [E.ok, E.val, hv] at ho hK
    simp only [I.wp]
    cases hf : Vl T f with
    | none => rw [hf] at ho; exact ho.2.elim
    | some F => rw [hf] at ho hK; exact hT f F hf _ ho.2 _ _ hK
   ·cases h
  ·cases h
 all_goals cases h

theorem Inv.congr {sl' : Xb} (hI : Inv T σ sl sl0 ob) (h : ∀ k, look sl' k = look sl k) : Inv T σ sl' sl0 ob := by
 intro k p e he
 have : Xj sl' p = Xj sl p := by simp only [Xj, h]
 rw [this, h]
 exact hI k p e he

def Wd (d : Nat) (p : Wl) : Bool := p.all fun g => g.1 != d
def Xgp (σ : Sg) (d : Nat) : Bool := σ.all fun x => match x.2 with
 | some (p, _) => Wd d p
 | none => true
theorem Zv {d : Nat} {v : V} (h : Wd d p = true) : Xj ((d, v) :: sl) p = Xj sl p := by
 induction p with
 | nil => rfl
 | cons g r ih =>
  simp only [Wd, List.all_cons, Bool.and_eq_true] at h
  simp only [Xj, List.all_cons] at ih ⊢
  have : look ((d, v) :: sl) g.1 = look sl g.1 := by
   have := h.1; simp at this
   have h' : ¬ d = g.1 := fun e => this e.symm
   simp [look, h']
  rw [this, ih h.2]
theorem Xav : ∀ {σ : Sg} {d k : Nat} {p : Wl} {e : E}, Xgp σ d = true → Y1 σ k = some (some (p, e)) → Wd d p = true
 | [], _, _, _, _, _, h => by simp [Y1] at h
 | (j, x) :: r, d, k, p, e, hg, h => by
  simp only [Xgp, List.all_cons, Bool.and_eq_true] at hg
  simp only [Y1] at h
  split at h
  ·cases h; exact hg.1
  ·exact Xav (σ := r) hg.2 h
theorem Vw {d k : Nat} {q : Wl} {e : E} (hg : Xgp σ d = true) (h : ent σ k = some (q, e)) : Wd d q = true := by
 unfold ent at h
 split at h
 ·cases h; rfl
 ·rename_i x hx; subst h; exact Xav hg hx

theorem Yp {k : Nat} {x : Option (Wl × E)} : ent ((k, x) :: σ) k = x := by simp [ent, Y1]
theorem Yf {j k : Nat} {x : Option (Wl × E)} (h : k ≠ j) : ent ((k, x) :: σ) j = ent σ j := by simp [ent, Y1, h]

end
end Go.Ab
/- Regions folded into expressions: the fold itself, and that it Xex what is shown. Over any program; no condition. -/
namespace Go.Ab
open Go

inductive It2 where
 | chk (p : List (E × Bool)) (e : E)
 | lt (k : Nat) (p : List (E × Bool)) (e : E)
 | op (d : Option Nat) (i : I)
 | gop (p : List (E × Bool)) (d : Option Nat) (i : I)

def Xcm (b : Bool) (v : V) : V := if b then v else .undef

def Z3 (P : Prg) (T : Tab) (K : Xb → Objs → Prop) (Pn : V → Xb → Objs → Prop) : List It2 → Xb → Objs → Prop
 | [], sl, ob => K sl ob
 | .chk p e :: r, sl, ob => (Ym T sl ob p = true → e.ok T sl ob) ∧ Z3 P T K Pn r sl ob
 | .lt k p e :: r, sl, ob => (Ym T sl ob p = true → e.ok T sl ob) ∧ Z3 P T K Pn r ((k, Xcm (Ym T sl ob p) (e.val T sl ob)) :: sl) ob
 | .op d i :: r, sl, ob => i.wp P sl ob (fun v ob' => Z3 P T K Pn r (put sl d v) ob') (fun v ob' => Pn v sl ob')
 | .gop p d i :: r, sl, ob => (Ym T sl ob p = true → i.wp P sl ob (fun v ob' => Z3 P T K Pn r (put sl d v) ob') (fun v ob' => Pn v sl ob')) ∧
   (Ym T sl ob p = false → Z3 P T K Pn r (put sl d .undef) ob)

def Wk (T : Tab) (sl : Xb) (ob : Objs) : List (Nat × E) → Xb
 | [] => []
 | (k, e) :: r => (k, e.val T sl ob) :: Wk T sl ob r
def Zf (T : Tab) (sl : Xb) (ob : Objs) : List (Nat × E) → Prop
 | [] => True
 | (_, e) :: r => e.ok T sl ob ∧ Zf T sl ob r


def A.slots : A → List Nat
 | .t k => [k]
 | _ => []
def Zh : List A → List Nat
 | [] => []
 | x :: r => x.slots ++ Zh r
def Xbf : Option A → List Nat
 | some x => x.slots
 | none => []
def C.slots : C → List Nat
 | .mv x | .not x | .neg x | .cpl x | .isnil _ x | .pnil _ x | .fnil _ x | .usd x | .cvi _ x | .cvs x | .fldA _ _ x | .fld _ _ _ _ x | .ld _ _ x | .nilc x | .lenS x | .lenL x | .ext x _ | .mki _ x | .tas _ _ x => x.slots
 | .bin _ x y | .mx x y | .beq _ x y | .peq _ x y | .idx x y | .idxA _ x y | .idxP _ _ x y | .eqD _ _ x y | .aix _ _ _ x y => x.slots ++ y.slots
 | .pick x y z => x.slots ++ (y.slots ++ z.slots)
 | .slcS x l h | .slcL _ x l h => x.slots ++ (Xbf l ++ Xbf h)
 | .lenA _ => []
 | .bld _ ps => Zh (ps.map (·.2))
 | .mkf _ a b => Zh a ++ Zh b
def I.slots : I → List Nat
 | .c x => x.slots
 | .box _ x => x.slots
 | .alloc _ _ => []
 | .bls _ _ ps => Zh (ps.map (·.2))
 | .blo _ _ _ ps => Zh (ps.map (·.2))
 | .st _ x y => x.slots ++ y.slots
 | .app _ _ _ x y => x.slots ++ y.slots
 | .appS _ _ x y => x.slots ++ y.slots
 | .call _ l => Zh l
 | .pcall _ l => Zh l
 | .callv x l => x.slots ++ Zh l
 | .panic x => x.slots
 | .b2s x => x.slots
 | .s2b x => x.slots
 | .nilo _ _ x => x.slots
 | .mvf x => x.slots
 | .ldf _ _ x => x.slots
 | .mvg _ _ y x _ => y.slots ++ x.slots
 | .mvn y x _ => y.slots ++ x.slots
 | .cvb x => x.slots
 | .ustr _ x y => x.slots ++ y.slots
 | .mkm r => Xbf r
 | .lkp _ _ _ m k => m.slots ++ k.slots
 | .mset _ m k v => m.slots ++ (k.slots ++ v.slots)
 | .gld _ _ _ _ => []
 | .slg _ _ x => x.slots
 | .blv _ _ _ ps => Zh (ps.map (·.2))
 | .apv _ _ _ x y => x.slots ++ y.slots
 | .gv x => x.slots
 | .ldg _ _ x => x.slots
 | .slb _ _ x lo hi => x.slots ++ (Xbf lo ++ Xbf hi)
 | .cpy _ x y => x.slots ++ y.slots
 | .clr _ _ x => x.slots
 | .gix _ _ _ _ i => i.slots

section
variable {P : Prg} {sl sl' : Xb} {ob : Objs}
theorem A.ev_eq {x : A} (h : ∀ k ∈ x.slots, look sl k = look sl' k) : x.ev sl = x.ev sl' := by
 cases x <;> simp_all [A.ev, A.slots]
theorem Xat : ∀ {l : List A}, (∀ k ∈ Zh l, look sl k = look sl' k) → l.map (A.ev sl) = l.map (A.ev sl')
 | [], _ => rfl
 | x :: r, h => by
  simp only [Zh, List.mem_append] at h
  simp only [List.map_cons, A.ev_eq (fun k hk => h k (.inl hk)), Xat (fun k hk => h k (.inr hk))]
theorem Xax {l : Option A} (h : ∀ k ∈ Xbf l, look sl k = look sl' k) : l.map (A.ev sl) = l.map (A.ev sl') := by
 cases l with
 | none => rfl
 | some x => simp only [Option.map_some, A.ev_eq h]
theorem Xdx : ∀ {l : List (Nat × A)}, (∀ k ∈ Zh (l.map (·.2)), look sl k = look sl' k) → (l.map fun x => (x.1, A.ev sl x.2)) = l.map fun x => (x.1, A.ev sl' x.2)
 | [], _ => rfl
 | x :: r, h => by
  simp only [List.map_cons, Zh, List.mem_append] at h
  simp only [List.map_cons, A.ev_eq (fun k hk => h k (.inl hk)), Xdx (fun k hk => h k (.inr hk))]
theorem C.wp_eq {K : V → Prop} {c : C} (h : ∀ k ∈ c.slots, look sl k = look sl' k) : c.wp sl ob K = c.wp sl' ob K := by
 cases c <;> simp only [C.slots, List.mem_append] at h <;> simp only [C.wp]
 case bld => rw [Xdx h]
 case mkf => rw [Xat (fun k hk => h k (.inl hk)), Xat (fun k hk => h k (.inr hk))]
 case pick => rw [A.ev_eq (fun k hk => h k (.inl hk)), A.ev_eq (fun k hk => h k (.inr (.inl hk))), A.ev_eq (fun k hk => h k (.inr (.inr hk)))]
 case slcS => rw [A.ev_eq (fun k hk => h k (.inl hk)), Xax (fun k hk => h k (.inr (.inl hk))), Xax (fun k hk => h k (.inr (.inr hk)))]
 case slcL => rw [A.ev_eq (fun k hk => h k (.inl hk)), Xax (fun k hk => h k (.inr (.inl hk))), Xax (fun k hk => h k (.inr (.inr hk)))]
 all_goals first
  | rw [A.ev_eq h]
  | rw [A.ev_eq (fun k hk => h k (.inl hk)), A.ev_eq (fun k hk => h k (.inr hk))]
theorem I.wp_eq {K Pn : V → Objs → Prop} {i : I} (h : ∀ k ∈ i.slots, look sl k = look sl' k) : i.wp P sl ob K Pn = i.wp P sl' ob K Pn := by
 cases i <;> simp only [I.slots, List.mem_append] at h <;> simp only [I.wp]
 case c => rw [C.wp_eq h]
 case bls => rw [Xdx h]
 case blo => rw [Xdx h]
 case blv => rw [Xdx h]
 case call => rw [Xat h]
 case pcall => rw [Xat h]
 case callv => rw [A.ev_eq (fun k hk => h k (.inl hk)), Xat (fun k hk => h k (.inr hk))]
 case mset => rw [A.ev_eq (fun k hk => h k (.inl hk)), A.ev_eq (fun k hk => h k (.inr (.inl hk))), A.ev_eq (fun k hk => h k (.inr (.inr hk)))]
 case slb => rw [A.ev_eq (fun k hk => h k (.inl hk)), Xax (fun k hk => h k (.inr (.inl hk))), Xax (fun k hk => h k (.inr (.inr hk)))]
 case mkm r =>
  cases r with
  | none => rfl
  | some x => simp only [Xrp, A.ev_eq (x := x) h]
 all_goals first
  | rw [A.ev_eq h]
  | rw [A.ev_eq (fun k hk => h k (.inl hk)), A.ev_eq (fun k hk => h k (.inr hk))]
  | rfl

theorem Xd2 {K K' : V → Objs → Prop} {ob : Objs} {E sz : Nat} {p : List Nat} {y x : V} (hk : ∀ v b, K v b → K' v b) (h : Xe6 ob E sz p y K x) : Xe6 ob E sz p y K' x := by
 unfold Xe6 at h; split at h
 ·simp only [Xe6]
  generalize lookO _ _ = o at h ⊢
  unfold Xaf at h; split at h
  ·simp only [Xaf]
   rcases h with h | h
   case inr => exact .inr ⟨h.1, hk _ _ h.2⟩
   refine .inl ⟨h.1, ?_⟩
   have h := h.2
   generalize V.set _ _ _ = o at h ⊢
   cases o with
   | none => exact h.elim
   | some t => exact hk _ _ h
  ·exact h.elim
 ·exact h.elim
theorem Xei {K K' : V → Objs → Prop} {y x : V} (hk : ∀ v b, K v b → K' v b) : ∀ {l : List (Nat × Nat × List Nat)} {ob : Objs}, Xrw y K x l ob → Xrw y K' x l ob
 | [], _, h => hk _ _ h
 | _ :: _, _, h => Xd2 (fun _ _ h => Xei hk h) h

theorem I.wp_mono {K K' Pn Pn' : V → Objs → Prop} (hk : ∀ v b, K v b → K' v b) (hp : ∀ v b, Pn v b → Pn' v b) {i : I} (h : i.wp P sl ob K Pn) : i.wp P sl ob K' Pn' := by
 have ho : ∀ o b, Xfu K Pn o b → Xfu K' Pn' o b := fun o b => by cases o with | ret v => exact hk v b | panic v => exact hp v b
 have bx : ∀ {E v}, Xj3 E ob K v → Xj3 E ob K' v := fun h => ⟨h.1, hk _ _ h.2⟩
 have dk : ∀ {KD KD' : List D → Prop}, (∀ l, KD l → KD' l) → ∀ o, dK KD o → dK KD' o := fun f o h => by cases o with | none => exact h.elim | some l => exact f l h
 have gv : ∀ (o : Option (D × Objs)), Xdp K o → Xdp K' o := fun o h => by
  cases o with
  | none => exact h.elim
  | some q => exact hk _ _ h
 have ap : ∀ {E sz B ys u}, J8 E sz B ob ys K u → J8 E sz B ob ys K' u := fun {E sz B ys u} h => by
  unfold J8 at h; split at h
  ·simp only [J8]
   generalize lookO _ _ = o at h ⊢
   unfold Xaa at h; split at h
   ·obtain ⟨h1, h2, h3, h4, h5⟩ := h
    exact ⟨h1, h2, h3, h4, hk _ _ h5⟩
   ·exact h.elim
  ·exact ⟨h.1, hk _ _ h.2⟩
  ·exact h.elim
 have apv : ∀ {E sz B ys u}, Xnh E sz B ob ys K u → Xnh E sz B ob ys K' u := fun {E sz B ys u} h => by
  unfold Xnh at h; split at h
  ·simp only [Xnh]
   generalize lookO _ _ = o at h ⊢
   unfold Xns at h; split at h
   ·obtain ⟨h1, h2, h3, h4, h5⟩ := h
    exact ⟨h1, h2, h3, h4, hk _ _ h5⟩
   ·obtain ⟨h1, h2, h3, h4, h5⟩ := h
    exact ⟨h1, h2, h3, h4, hk _ _ h5⟩
   ·exact h.elim
  ·exact ⟨h.1, hk _ _ h.2⟩
  ·exact h.elim
 have bw : ∀ {id p lo n z ys r o}, Xn6 ob id p lo n z ys r K o → Xn6 ob id p lo n z ys r K' o := fun {id p lo n z ys r o} h => by
  unfold Xn6 at h; split at h
  ·simp only [Xn6]
   generalize V.at _ _ = o at h ⊢
   unfold X1e at h; split at h
   ·obtain ⟨h1, h2, h3, t, h4, h5⟩ := h
    exact ⟨h1, h2, h3, t, h4, hk _ _ h5⟩
   ·exact h.elim
  ·exact h.elim
 cases i <;> simp only [I.wp] at h ⊢
 case c x => exact C.wp_mono (fun v => hk v ob) x h
 case box => exact bx h
 case alloc => exact bx h
 case bls => exact Wu (fun _ => dk (fun _ => hk _ _) _) _ _ h
 case blo => exact Wu (fun _ => dk (fun _ h => hk _ _ h) _) _ _ h
 case st x y =>
  generalize A.ev sl x = v at h ⊢
  unfold stK at h; split at h
  ·simp only [stK]
   generalize lookO _ _ = o at h ⊢
   unfold Xkj at h; split at h
   ·simp only [Xkj]
    generalize V.at _ _ = o at h ⊢
    unfold Xlf at h; split at h
    ·obtain ⟨h1, h2, h3, t, h4, h5⟩ := h
     exact ⟨h1, h2, h3, t, h4, hk _ _ h5⟩
    ·exact h.elim
   ·exact h.elim
  ·simp only [stK]
   generalize lookO _ _ = o at h ⊢
   unfold Xwz at h; split at h
   ·simp only [Xwz]
    generalize Z2 _ _ _ = o at h ⊢
    unfold X1f at h; split at h
    ·refine ⟨h.1, ?_⟩
     have h := h.2
     generalize V.at _ _ = o at h ⊢
     unfold Xy3 at h; split at h
     ·obtain ⟨h1, h2, h3, t, h4, h5⟩ := h
      exact ⟨h1, h2, h3, t, h4, hk _ _ h5⟩
     ·exact h.elim
    ·exact h.elim
   ·exact h.elim
  ·exact h.elim
 case app x y =>
  generalize A.ev sl y = v at h ⊢
  unfold Xny at h; split at h
  ·exact ⟨h.1, ap h.2⟩
  ·exact ap h
  ·exact h.elim
 case blv => exact Wu (fun _ => hk _ _) _ _ h
 case apv x y =>
  generalize A.ev sl y = v at h ⊢
  unfold Xz8 at h; split at h
  ·exact ⟨h.1, apv h.2⟩
  ·exact apv h
  ·rcases h with ⟨E, ys, h1, h2, h3, h4⟩ | ⟨E, ys, h1, h2, h4⟩
   ·exact .inl ⟨E, ys, h1, h2, h3, apv h4⟩
   ·exact .inr ⟨E, ys, h1, h2, apv h4⟩
  ·exact h.elim
 case gv x =>
  generalize V.gvF _ _ _ = v at h ⊢
  exact gv _ h
 case slb x lo hi =>
  generalize A.ev sl x = v at h ⊢
  unfold Xwr at h; split at h
  ·simp only [Xwr]
   generalize Yc _ = o at h ⊢
   unfold Xi9 at h; split at h
   ·exact ⟨h.1, h.2.1, Qz (fun _ _ => hk _ _) h.2.2⟩
   ·exact h.elim
  ·exact h.elim
 case cpy x y =>
  generalize A.ev sl x = v at h ⊢; generalize A.ev sl y = u at h ⊢
  unfold X07 at h; split at h
  ·exact ⟨h.1, bw h.2⟩
  ·exact h.elim
 case clr x =>
  generalize A.ev sl x = v at h ⊢
  unfold X05 at h; split at h
  ·exact ⟨fun e => ⟨(h.1 e).1, hk _ _ (h.1 e).2⟩, fun e => ⟨(h.2 e).1, bw (h.2 e).2⟩⟩
  ·exact h.elim
 case gix x y =>
  refine ⟨h.1, ?_⟩
  have h := h.2
  generalize A.ev sl y = u at h ⊢
  unfold X1g at h; split at h
  ·exact ⟨h.1, h.2.1, h.2.2.1, hk _ _ h.2.2.2⟩
  ·exact h.elim
 case ldg x =>
  generalize A.ev sl x = v at h ⊢
  unfold Xwh at h; split at h
  ·simp only [Xwh]
   generalize atO _ _ _ = o at h ⊢
   unfold Xmu at h; split at h
   ·refine ⟨h.1, h.2.1, ?_⟩
    have h := h.2.2
    generalize V.gvF _ _ _ = o at h ⊢
    unfold Xno at h; split at h
    ·refine ⟨h.1, ?_⟩
     have h := h.2
     generalize lookO _ _ = o at h ⊢
     unfold Xqv at h; split at h
     ·obtain ⟨t', h1, h2⟩ := h
      exact ⟨t', h1, hk _ _ h2⟩
     ·exact h.elim
    ·exact h.elim
   ·exact h.elim
  ·exact h.elim
 case appS x y =>
  generalize A.ev sl y = v at h ⊢
  unfold Xcu at h; split at h
  ·exact ap h
  ·exact h.elim
 case mvf x =>
  generalize V.giv _ _ = v at h ⊢
  exact gv _ h
 case ldf x =>
  generalize A.ev sl x = v at h ⊢
  unfold Xp2 at h; split at h
  ·simp only [Xp2]
   generalize atO _ _ _ = o at h ⊢
   unfold Xfc at h; split at h
   ·exact ⟨h.1, h.2.1, gv _ h.2.2⟩
   ·exact h.elim
  ·exact h.elim
 case mvg => exact Xd2 hk h
 case mvn => exact Xei hk h
 case cvb x =>
  generalize A.ev sl x = v at h ⊢
  unfold Xnz at h; split at h
  ·simp only [Xnz]
   generalize lookO _ _ = o at h ⊢
   unfold Xcw at h; split at h
   ·exact ⟨h.1, h.2.1, h.2.2.1, hk _ _ h.2.2.2⟩
   ·exact h.elim
  ·exact h.elim
 case ustr x y =>
  generalize A.ev sl x = v at h ⊢; generalize A.ev sl y = u at h ⊢
  unfold Uk at h; split at h
  ·simp only [Uk]
   generalize lookO _ _ = o at h ⊢
   unfold V8 at h; split at h
   ·obtain ⟨h1, h2, h3, h4, h5, h6, s, h7, h8⟩ := h
    exact ⟨h1, h2, h3, h4, h5, h6, s, h7, hk _ _ h8⟩
   ·exact h.elim
  ·exact ⟨h.1, hk _ _ h.2⟩
  ·exact h.elim
 case call => exact h.mono ho
 case pcall => exact h.mono fun v => hk v ob
 case callv x l =>
  generalize A.ev sl x = v at h ⊢
  unfold Wn at h; split at h
  ·exact ⟨h.1, h.2.mono ho⟩
  ·exact ⟨h.1, h.2.mono ho⟩
  ·exact h.elim
 case panic x =>
  generalize A.ev sl x = v at h ⊢
  unfold Vy at h; split at h
  ·exact hp _ _ h
  ·exact hp _ _ h
  ·exact h.elim
 case b2s x =>
  generalize A.ev sl x = v at h ⊢
  unfold Xwk at h; split at h
  ·obtain ⟨h1, s, h2, h3⟩ := h
   exact ⟨h1, s, h2, hk _ _ h3⟩
  ·exact hk _ _ h
  ·exact h.elim
 case s2b x =>
  generalize A.ev sl x = v at h ⊢
  unfold Xwp at h; split at h
  ·exact hk _ _ h
  ·exact h.elim
 case nilo x =>
  generalize A.ev sl x = v at h ⊢
  unfold Xco at h; split at h
  ·exact hk _ _ h
  ·exact h.elim
 case mkm r => exact ⟨h.1, hk _ _ h.2⟩
 case gld => exact ⟨h.1, h.2.1, h.2.2.1, hk _ _ h.2.2.2⟩
 case slg x =>
  generalize A.ev sl x = v at h ⊢
  unfold Xrs at h; split at h
  ·simp only [Xrs]
   generalize atO _ _ _ = o at h ⊢
   unfold Xi8 at h; split at h
   ·exact ⟨h.1, h.2.1, hk _ _ h.2.2⟩
   ·exact h.elim
  ·exact h.elim
 case lkp x y =>
  generalize A.ev sl x = v at h ⊢; generalize A.ev sl y = u at h ⊢
  unfold Xn1 at h; split at h
  ·simp only [Xn1]
   generalize lookO _ _ = o at h ⊢
   unfold Xcc at h; split at h
   ·exact ⟨h.1, hk _ _ h.2⟩
   ·exact h.elim
  ·exact ⟨h.1, hk _ _ h.2⟩
  ·exact h.elim
 case mset x y z =>
  generalize A.ev sl x = v at h ⊢; generalize A.ev sl y = u at h ⊢
  unfold Qy at h; split at h
  ·simp only [Qy]
   generalize lookO _ _ = o at h ⊢
   unfold V7 at h; split at h
   ·exact ⟨h.1, h.2.1, hk _ _ h.2.2⟩
   ·exact h.elim
  ·exact h.elim
end
end Go.Ab
/- Regions folded into expressions: the fold of a whole region, and that it Xex what is shown. Over any program; no condition. -/
namespace Go.Ab
open Go

def Xgl (σ : Sg) : Wl → Wl → Option (List (E × Bool))
 | _, [] => some []
 | dn, (g, b) :: r => match ent σ g with
  | some (q, e) => if q.isPrefixOf dn then (match Xgl σ (dn ++ [(g, b)]) r with | some l => some ((e, b) :: l) | none => none) else none
  | none => none
def X4y (σ : Sg) (f : E → E) (k : Nat) : Option It2 := match ent σ k with
 | some (p, e) => match Xgl σ [] p with
  | some l => some (.chk l (f e))
  | none => none
 | none => none
def chks (σ : Sg) (f : E → E) : List Nat → Option (List It2)
 | [] => some []
 | k :: r => match X4y σ f k, chks σ f r with
  | some c, some l => some (c :: l)
  | _, _ => none
def bw (e : E) : E := .ite e (.a (.bool true)) (.a (.bool true))
def Xam (σ : Sg) (k : Nat) : Sg := σ.filter fun x => x.1 != k
def noMen (σ : Sg) (k : Nat) : Bool := σ.all fun x => match x.2 with
 | some (_, e) => !e.men k
 | none => true
def X0e (σ : Sg) : Bool := σ.all fun x => match x.2 with
 | some (_, e) => !e.rd
 | none => true
def Xyf (ns : List Nat) (σ : Sg) (k : Nat) (p : Wl) : Sg := if ns.contains k || p.isEmpty then Xam σ k else (k, some (p, .a (.t k))) :: Xam σ k
def X6o (ns : List Nat) (σ : Sg) (k : Nat) : Option (It2 × Sg) := match Y1 σ k with
 | some (some (p, e)) => match Xgl σ [] p with
  | some l => if noMen (Xam σ k) k then some (.lt k l e, Xyf ns σ k p) else none
  | none => none
 | _ => none
def Xyb (ns : List Nat) : List Nat → Sg → Option (List It2 × Sg)
 | [], σ => some ([], σ)
 | k :: r, σ => match X6o ns σ k with
  | some (i, σ') => match Xyb ns r σ' with
   | some (l, σ'') => some (i :: l, σ'')
   | none => none
  | none => none
def kill (lv : List Nat) : Sg → Sg
 | [] => []
 | (k, x) :: r => (if lv.contains k then (k, x) else (k, none)) :: kill lv r
def Xom : List It → List Nat
 | [] => []
 | .op _ i :: r => i.slots ++ Xom r
 | .gop g _ _ i :: r => g :: (i.slots ++ Xom r)
def X38 (σ : Sg) (s : List Nat) (d : Option Nat) : List Nat := (σ.filter fun x => match x.2 with
 | some (_, e) => s.contains x.1 || e.rd || (match d with | some k => x.1 != k && e.men k | none => false)
 | none => false).map (·.1)
def It.d : It → Option Nat
 | .op d _ => d
 | .gop _ _ d _ => d
def It.i : It → I
 | .op _ i => i
 | .gop _ _ _ i => i
def It.path (σ : Sg) : It → Option (Wl × List Nat)
 | .op _ _ => some ([], [])
 | .gop g b _ _ => match ent σ g with
  | some (q, _) => some (q ++ [(g, b)], [g])
  | none => none
def It.eff (l : List (E × Bool)) : It → It2
 | .op d i => .op d i
 | .gop _ _ d i => .gop l d i
def X28 (σ : Sg) : Option Nat → Sg
 | some k => Xam σ k
 | none => σ
def Xtg (σ : Sg) (p : Wl) : Option Nat → Bool
 | some k => noMen (Xam σ k) k && Xgp (Xam σ k) k && Wd k p
 | none => true
def Xex (σ : Sg) : List Nat → Option (List (Nat × E))
 | [] => some []
 | k :: r => match ent σ k, Xex σ r with
  | some ([], e), some l => some ((k, e) :: l)
  | _, _ => none
def X02 (e : E) (k : Nat) (l : List Nat) : List Nat := if e.isA then l else k :: l

def Ue (fs keep pk : List Nat) : List It → Sg → List Nat → List Nat → Option (List It2 × List (Nat × E))
 | [], σ, pe, pg => match chks σ id (pe.filter fun k => !keep.contains k), chks σ bw pg, Xex σ keep with
  | some c1, some c2, some kp => some (c1 ++ c2, kp)
  | _, _, _ => none
 | it :: r, σ, pe, pg => match it.path σ with
  | none => none
  | some (p, gs) => match it.d, it.i.lift fs σ p with
   | some k, some e => if Xgp (Xam σ k) k && Wd k p && !pe.contains k && !(gs ++ pg).contains k then
     Ue fs keep pk r ((k, some (p, e)) :: Xam σ k) (X02 e k (pe.filter fun j => !(it.i.cons σ p).contains j)) ((gs ++ pg).filter fun j => !(it.i.gcons σ p).contains j)
    else none
   | d, _ => match chks σ id pe, chks σ bw (gs ++ pg) with
    | some c1, some c2 => match Xyb (it.i.slots ++ (pk ++ keep)) (X38 (kill (it.i.slots ++ (p.map (·.1) ++ (Xom r ++ keep))) σ) it.i.slots d) (kill (it.i.slots ++ (p.map (·.1) ++ (Xom r ++ keep))) σ) with
     | some (ms, σ2) => match Xgl σ2 [] p with
      | some l => if (it.i.slots.all fun k => (Y1 σ2 k).isNone) && Xtg σ2 p d && X0e σ2 && (pk.all fun k => (Y1 σ2 k).isNone) then
        match Ue fs keep pk r (X28 σ2 d) [] [] with
        | some (t, kp) => some (c1 ++ (c2 ++ (ms ++ (it.eff l :: t))), kp)
        | none => none
       else none
      | none => none
     | none => none
    | _, _ => none

section
variable {P : Prg} {T : Tab} {σ : Sg} {sl sl0 : Xb} {ob : Objs} {p : Wl} {K : Xb → Objs → Prop} {Pn : V → Xb → Objs → Prop}

theorem Wa (hI : Inv T σ sl sl0 ob) : ∀ (r dn : Wl) (l : List (E × Bool)), Xgl σ dn r = some l → Xj sl dn = true → Xj sl r = Ym T sl0 ob l
 | [], dn, l, h, _ => by simp only [Xgl] at h; cases h; rfl
 | (g, b) :: r, dn, l, h, hd => by
  simp only [Xgl] at h
  split at h
  ·rename_i q e he
   split at h
   ·rename_i hq
    split at h
    ·rename_i l' hl
     cases h
     have hv := (hI g q e he).1 (U9 hq hd)
     simp only [Xj, Ym, List.all_cons, hv]
     cases hb : isB b (e.val T sl0 ob) with
     | false => rfl
     | true =>
      have := Wa hI r _ l' hl (by rw [X9, hd, hv, hb]; rfl)
      simpa [Xj, Ym] using this
    ·cases h
   ·cases h
  ·cases h

theorem X8 (hI : Inv T σ sl sl0 ob) {f : E → E} : ∀ {ks : List Nat} {cs l : List It2}, chks σ f ks = some cs → Z3 P T K Pn (cs ++ l) sl0 ob →
  (∀ k ∈ ks, ∀ p e, ent σ k = some (p, e) → Xj sl p = true → (f e).ok T sl0 ob) ∧ Z3 P T K Pn l sl0 ob
 | [], cs, l, h, hr => by simp only [chks] at h; cases h; exact ⟨fun _ h => (by cases h), hr⟩
 | k :: r, cs, l, h, hr => by
  simp only [chks] at h
  split at h
  ·rename_i c l' hc hl
   cases h
   unfold X4y at hc
   split at hc
   ·rename_i p e he
    split at hc
    ·rename_i lp hp
     cases hc
     simp only [List.cons_append, Z3] at hr
     obtain ⟨h1, h2⟩ := X8 hI hl hr.2
     refine ⟨fun j hj q e' he' hq => ?_, h2⟩
     rcases List.mem_cons.mp hj with rfl | hj
     ·rw [he] at he'; cases he'
      exact hr.1 (by rw [← Wa hI _ _ _ hp rfl]; exact hq)
     ·exact h1 j hj q e' he' hq
    ·cases hc
   ·cases hc
  ·cases h

theorem U8 : ∀ {σ : Sg} {k : Nat}, Y1 (Xam σ k) k = none
 | [], _ => rfl
 | (j, x) :: r, k => by
  have ih := U8 (σ := r) (k := k)
  simp only [Xam] at ih ⊢
  by_cases h : j = k
  ·subst h; simp [ih]
  ·simp [h, Y1, ih]
theorem U2 {k j : Nat} (h : k ≠ j) : ∀ {σ : Sg}, Y1 (Xam σ k) j = Y1 σ j
 | [] => rfl
 | (i, x) :: r => by
  have ih := U2 h (σ := r)
  simp only [Xam] at ih ⊢
  by_cases hi : i = k
  ·subst hi; simp [ih, Y1, h]
  ·simp [hi, Y1, ih]
theorem Xao {k : Nat} : ent (Xam σ k) k = some ([], .a (.t k)) := by simp [ent, U8]
theorem Yh {k j : Nat} (h : k ≠ j) : ent (Xam σ k) j = ent σ j := by simp [ent, U2 h]
theorem Xai : ∀ {σ : Sg} {d k : Nat} {p : Wl} {e : E}, noMen σ d = true → Y1 σ k = some (some (p, e)) → e.men d = false
 | [], _, _, _, _, _, h => by simp [Y1] at h
 | (j, x) :: r, d, k, p, e, hg, h => by
  simp only [noMen, List.all_cons, Bool.and_eq_true] at hg
  simp only [Y1] at h
  split at h
  ·cases h; simpa using hg.1
  ·exact Xai (σ := r) hg.2 h
theorem Xdw : ∀ {σ : Sg} {k : Nat} {p : Wl} {e : E}, X0e σ = true → Y1 σ k = some (some (p, e)) → e.rd = false
 | [], _, _, _, _, h => by simp [Y1] at h
 | (j, x) :: r, k, p, e, hg, h => by
  simp only [X0e, List.all_cons, Bool.and_eq_true] at hg
  simp only [Y1] at h
  split at h
  ·cases h; simpa using hg.1
  ·exact Xdw (σ := r) hg.2 h
theorem Xig {k : Nat} {e : E} (hg : X0e σ = true) (h : ent σ k = some (p, e)) : e.rd = false := by
 unfold ent at h
 split at h
 ·cases h; rfl
 ·rename_i x hx; subst h; exact Xdw hg hx
theorem Xdm {d k : Nat} {e : E} (hg : noMen (Xam σ d) d = true) (hd : d ≠ k) (h : ent σ k = some (p, e)) : e.men d = false := by
 rw [← Yh hd] at h
 unfold ent at h
 split at h
 ·cases h; simp [E.men, A.men]; exact fun e => hd e.symm
 ·rename_i x hx; subst h; exact Xai hg hx

theorem Xa5 {ns : List Nat} : ∀ {ks : List Nat} {σ σ' : Sg} {sl0 : Xb} {ms l : List It2}, Inv T σ sl sl0 ob → Xyb ns ks σ = some (ms, σ') → Z3 P T K Pn (ms ++ l) sl0 ob → ∃ sl0', Inv T σ' sl sl0' ob ∧ Z3 P T K Pn l sl0' ob
 | [], σ, σ', sl0, ms, l, hI, h, hr => by simp only [Xyb] at h; cases h; exact ⟨sl0, hI, hr⟩
 | k :: r, σ, σ', sl0, ms, l, hI, h, hr => by
  simp only [Xyb] at h
  split at h
  ·rename_i i σ1 h1
   split at h
   ·rename_i l' σ2 h2
    cases h
    unfold X6o at h1
    split at h1
    ·rename_i p e he
     split at h1
     ·rename_i lp hp
      split at h1
      ·rename_i hm
       cases h1
       simp only [List.cons_append, Z3] at hr
       refine Xa5 ?_ h2 hr.2
       have hk := hI k p e (by simp [ent, he])
       have hh := Wa hI _ _ _ hp rfl
       have hdel : ∀ j q e', ent (Xam σ k) j = some (q, e') → (Xj sl q = true → look sl j = e'.val T ((k, Xcm (Ym T sl0 ob lp) (e.val T sl0 ob)) :: sl0) ob) ∧ (Xj sl q = false → look sl j = .undef) := by
        intro j q e' he'
        by_cases hj : k = j
        ·subst hj
         rw [Xao] at he'; cases he'
         simp only [Xj, List.all_nil, E.val, A.ev, look, if_true]
         refine ⟨fun _ => ?_, fun h => (by cases h)⟩
         rw [← hh]
         cases hs : Xj sl p with
         | true => rw [hk.1 hs]; rfl
         | false => rw [hk.2 hs]; rfl
        ·rw [Yh hj] at he'
         rw [E.val_sl (Xdm hm hj he')]
         exact hI j q e' he'
       unfold Xyf
       split
       ·exact hdel
       ·intro j q e' he'
        by_cases hj : k = j
        ·subst hj
         rw [Yp] at he'; cases he'
         simp only [E.val, A.ev, look, if_true]
         rw [← hh]
         exact ⟨fun hs => by rw [hk.1 hs, hs]; rfl, hk.2⟩
        ·rw [Yf hj] at he'
         exact hdel j q e' he'
      ·cases h1
     ·cases h1
    ·cases h1
   ·cases h
  ·cases h

theorem Xh1 {lv : List Nat} : ∀ {σ : Sg} {k : Nat} {e : E}, ent (kill lv σ) k = some (p, e) → ent σ k = some (p, e)
 | [], _, _, h => h
 | (j, x) :: r, k, e, h => by
  by_cases hj : j = k
  ·subst hj
   rw [Yp]
   simp only [kill] at h
   split at h
   ·rwa [Yp] at h
   ·rw [Yp] at h; cases h
  ·rw [Yf hj]
   simp only [kill] at h
   refine Xh1 (lv := lv) (σ := r) ?_
   split at h
   ·rwa [Yf hj] at h
   ·rwa [Yf hj] at h
theorem Inv.kill {lv : List Nat} (hI : Inv T σ sl sl0 ob) : Inv T (kill lv σ) sl sl0 ob := fun k p e h => hI k p e (Xh1 h)

theorem Inv.fold' (hI : Inv T σ sl sl0 ob) {k : Nat} {e : E} (hg : Xgp (Xam σ k) k = true) (hp : Wd k p = true) {v : V} (h1 : Xj sl p = true → v = e.val T sl0 ob) (h2 : Xj sl p = false → v = .undef) :
  Inv T ((k, some (p, e)) :: Xam σ k) ((k, v) :: sl) sl0 ob := by
 intro j q e' he
 by_cases hj : k = j
 ·subst hj
  rw [Yp] at he; cases he
  rw [Zv hp]
  simp only [look, if_true]
  exact ⟨h1, h2⟩
 ·rw [Yf hj] at he
  rw [Zv (Vw hg he)]
  rw [Yh hj] at he
  simp only [look, hj, if_false]
  exact hI j q e' he

theorem Inv.eff (hI : Inv T σ sl sl0 ob) {d : Option Nat} (hf : Xtg σ p d = true) (hr : X0e σ = true) {v : V} {ob' : Objs} : Inv T (X28 σ d) (put sl d v) (put sl0 d v) ob' := by
 cases d with
 | none =>
  intro j q e he
  rw [E.val_ob (ob' := ob) (Xig hr he)]
  exact hI j q e he
 | some k =>
  simp only [Xtg, Bool.and_eq_true] at hf
  intro j q e he
  simp only [put, X28] at he ⊢
  by_cases hj : k = j
  ·subst hj
   rw [Xao] at he; cases he
   simp [Xj, E.val, A.ev, look]
  ·have he' := he
   rw [Zv (Vw hf.1.2 he')]
   rw [Yh hj] at he
   rw [E.val_sl (Xdm hf.1.1 hj he), E.val_ob (ob' := ob) (Xig hr he)]
   simp only [look, hj, if_false]
   exact hI j q e he
theorem Vc (hI : Inv T σ sl sl0 ob) : ∀ {keep : List Nat} {kp : List (Nat × E)}, Xex σ keep = some kp → Wk T sl0 ob kp = Xc sl keep ∧ (Zf T sl0 ob kp → ∀ k ∈ keep, ∀ p e, ent σ k = some (p, e) → e.ok T sl0 ob)
 | [], kp, h => by simp only [Xex] at h; cases h; exact ⟨rfl, fun _ _ h => (by cases h)⟩
 | k :: r, kp, h => by
  simp only [Xex] at h
  split at h
  ·rename_i e l he hl
   cases h
   obtain ⟨h1, h2⟩ := Vc hI hl
   refine ⟨by simp only [Wk, Xc, h1, (hI k [] e he).1 rfl], fun ho j hj p e' he' => ?_⟩
   rcases List.mem_cons.mp hj with rfl | hj
   ·rw [he] at he'; cases he'; exact ho.1
   ·exact h2 ho.2 j hj p e' he'
  ·cases h

def Xki (T : Tab) (σ : Sg) (pe pg : List Nat) (sl sl0 : Xb) (ob : Objs) : Prop :=
 (∀ k ∈ pe, ∀ p e, ent σ k = some (p, e) → Xj sl p = true → e.ok T sl0 ob) ∧
 (∀ k ∈ pg, ∀ p e, ent σ k = some (p, e) → Xj sl p = true → J1 (e.val T sl0 ob))

theorem Xen {fs : List Nat} {i : I} {k : Nat} {e : E} {pe pg : List Nat} {v : V} (hI : Inv T σ sl sl0 ob) (he : i.lift fs σ p = some e) (c1 : Xgp (Xam σ k) k = true) (c2 : Wd k p = true) (c3 : k ∉ pe) (c4 : k ∉ pg)
  (h : Xki T ((k, some (p, e)) :: Xam σ k) (X02 e k (pe.filter fun j => !(i.cons σ p).contains j)) (pg.filter fun j => !(i.gcons σ p).contains j) ((k, v) :: sl) sl0 ob) :
  Xki T σ pe pg sl sl0 ob ∧ (Xj sl p = true → e.ok T sl0 ob) := by
 obtain ⟨a1, a2⟩ := h
 have hok : Xj sl p = true → e.ok T sl0 ob := fun hh => by
  cases hA : e.isA with
  | true => cases e <;> simp [E.isA] at hA; trivial
  | false => exact a1 k (by simp [X02, hA]) p e Yp (by rw [Zv c2]; exact hh)
 refine ⟨⟨fun j hj q e' he' hq => ?_, fun j hj q e' he' hq => ?_⟩, hok⟩
 ·by_cases hm : j ∈ i.cons σ p
  ·exact I.cov hI he hm he' hq hok
  ·have hkj : k ≠ j := fun e => c3 (e ▸ hj)
   refine a1 j ?_ q e' (by rw [Yf hkj, Yh hkj]; exact he') ?_
   ·simp only [X02]; split <;> simp [hj, hm]
   ·rw [Zv]; exact hq
    exact Vw c1 (by rw [Yh hkj]; exact he')
 ·by_cases hm : j ∈ i.gcons σ p
  ·exact I.gcov he hm he' hq hok
  ·have hkj : k ≠ j := fun e => c4 (e ▸ hj)
   refine a2 j ?_ q e' (by rw [Yf hkj, Yh hkj]; exact he') ?_
   ·simp only [List.mem_filter]; exact ⟨hj, by simp [hm]⟩
   ·rw [Zv]; exact hq
    exact Vw c1 (by rw [Yh hkj]; exact he')

theorem Xk6 {fs keep pk : List Nat} : ∀ (its : List It) {σ : Sg} {pe pg : List Nat} {sl sl0 : Xb} {ob : Objs} {l : List It2} {kp : List (Nat × E)}, Inv T σ sl sl0 ob → Ue fs keep pk its σ pe pg = some (l, kp) →
  Z3 P T (fun sl ob => Zf T sl ob kp ∧ K (Wk T sl ob kp) ob) Pn l sl0 ob → Xki T σ pe pg sl sl0 ob
 | [], σ, pe, pg, sl, sl0, ob, l, kp, hI, h, hr => by
  simp only [Ue] at h
  split at h
  ·rename_i c1 c2 kp' h1 h2 h3
   cases h
   obtain ⟨a1, hr⟩ := X8 hI h1 hr
   obtain ⟨a2, hr⟩ := X8 hI (l := []) h2 (by simpa using hr)
   simp only [Z3] at hr
   obtain ⟨_, a3⟩ := Vc hI h3
   refine ⟨fun k hk p e he hp => ?_, fun k hk p e he hp => (a2 k hk p e he hp).2.1⟩
   by_cases hm : k ∈ keep
   ·exact a3 hr.1 k hm p e he
   ·exact a1 k (by simp [hk, hm]) p e he hp
  ·cases h
 | it :: r, σ, pe, pg, sl, sl0, ob, l, kp, hI, h, hr => by
  simp only [Ue] at h
  split at h
  ·cases h
  ·rename_i p gs hp
   split at h
   ·rename_i k e hd he
    split at h
    ·rename_i hc
     simp only [Bool.and_eq_true, Bool.not_eq_true', List.contains_eq_mem, decide_eq_false_iff_not] at hc
     obtain ⟨⟨⟨c1, c2⟩, c3⟩, c4⟩ := hc
     have hI' := hI.fold' (e := e) c1 c2 (v := Xcm (Xj sl p) (e.val T sl0 ob)) (fun h => by rw [h]; rfl) (fun h => by rw [h]; rfl)
     obtain ⟨a, _⟩ := Xen hI he c1 c2 c3 c4 (Xk6 r hI' h hr)
     exact ⟨a.1, fun j hj => a.2 j (List.mem_append.mpr (.inr hj))⟩
    ·cases h
   ·split at h
    ·rename_i c1 c2 h1 h2
     split at h
     ·split at h
      ·split at h
       ·split at h
        ·cases h
         obtain ⟨a1, hr⟩ := X8 hI h1 hr
         obtain ⟨a2, hr⟩ := X8 hI h2 hr
         exact ⟨a1, fun k hk p e he hp => (a2 k (List.mem_append.mpr (.inr hk)) p e he hp).2.1⟩
        ·cases h
       ·cases h
      ·cases h
     ·cases h
    ·cases h
end
end Go.Ab
