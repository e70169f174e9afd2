/- Texts of this claim joined by a program, part 3 of 9; the last is: Regions folded into expressions: the fold itself, and that it Xhq what is shown. Over any program; no condition. -/
import Derived.Test.YtanpgmgkmfckaaaGreatDoorN2
import Derived.Tactics
set_option linter.unusedSimpArgs false
set_option linter.unusedVariables false
set_option linter.unusedSectionVars false
set_option linter.defProp false
/- Statements over abstract states, and that what is shown of them holds of the program's code. Over any program; no condition. -/
namespace Go.Ab
open Go

def put (sl : Xc) (d : Option Nat) (v : V) : Xc := match d with
  | some k => (k, v) :: sl
  | none => sl

inductive It where
  | op (d : Option Nat) (i : I)
  | gop (s : Nat) (want : Bool) (d : Option Nat) (i : I)

def gdK (s : Nat) (want : Bool) (sl : Xc) (Y N : Xc → Prop) : V → Prop
  | .d (.bool b) => (b = want → Y ((s, .d (.bool want)) :: sl)) ∧ (b = !want → N ((s, .d (.bool (!want))) :: sl))
  | .undef => N sl
  | _ => False

def rwp (P : Prg) (K : Xc → Objs → Prop) (Pn : V → Xc → Objs → Prop) : List It → Xc → Objs → Prop
  | [], sl, ob => K sl ob
  | .op d i :: r, sl, ob => i.wp P sl ob (fun v ob' => rwp P K Pn r (put sl d v) ob') (fun v ob' => Pn v sl ob')
  | .gop s want d i :: r, sl, ob => gdK s want sl (fun sl => i.wp P sl ob (fun v ob' => rwp P K Pn r (put sl d v) ob') (fun v ob' => Pn v sl ob')) (fun sl => rwp P K Pn r (put sl d .undef) ob) (look sl s)

mutual
inductive Ot where
  | done
  | one (i : Nat) (x : It) (r : Ot)
  | br (l : Ots)
inductive Ots where
  | nil
  | cons (i : Nat) (x : It) (r : Ot) (l : Ots)
end
def itK (P : Prg) (next : Xc → Objs → Prop) (Pn : V → Xc → Objs → Prop) : It → Xc → Objs → Prop
  | .op d i, sl, ob => i.wp P sl ob (fun v ob' => next (put sl d v) ob') (fun v ob' => Pn v sl ob')
  | .gop s want d i, sl, ob => gdK s want sl (fun sl => i.wp P sl ob (fun v ob' => next (put sl d v) ob') (fun v ob' => Pn v sl ob')) (fun sl => next (put sl d .undef) ob) (look sl s)
mutual
def owp (P : Prg) (K : Xc → Objs → Prop) (Pn : V → Xc → Objs → Prop) : Ot → Xc → Objs → Prop
  | .done, sl, ob => K sl ob
  | .one _ x r, sl, ob => itK P (owp P K Pn r) Pn x sl ob
  | .br l, sl, ob => Xgv P K Pn l sl ob
def Xgv (P : Prg) (K : Xc → Objs → Prop) (Pn : V → Xc → Objs → Prop) : Ots → Xc → Objs → Prop
  | .nil, _, _ => True
  | .cons _ x r l, sl, ob => itK P (owp P K Pn r) Pn x sl ob ∧ Xgv P K Pn l sl ob
end

inductive S where
  | rg (ord : List Nat) (l : List It) (keep pk : List Nat)
  | rgT (n : Nat) (t : Ot) (keep pk : List Nat)
  | seq (a b : S)
  | skip
  | cond (c : A) (a b : S)
  | block (n : Nat) (a : S)
  | loop (keep : List Nat) (a : S)
  | exit (n : Nat)
  | ret

inductive AExit where
  | normal
  | exit (n : Nat)
  | ret
  | panic (v : V)

abbrev W7 := AExit → Xc → Objs → Prop

def Ub (next : Xc → Objs → Prop) (Q : W7) : W7
  | .normal, sl, ob => next sl ob
  | .exit n, sl, ob => Q (.exit n) sl ob
  | .ret, sl, ob => Q .ret sl ob
  | .panic v, sl, ob => Q (.panic v) sl ob
def W3 (id : Nat) (Q : W7) : W7
  | .normal, sl, ob => Q .normal sl ob
  | .exit n, sl, ob => if n = id then Q .normal sl ob else Q (.exit n) sl ob
  | .ret, sl, ob => Q .ret sl ob
  | .panic v, sl, ob => Q (.panic v) sl ob
def Xat (Y N : Prop) : V → Prop
  | .d (.bool t) => (t = true → Y) ∧ (t = false → N)
  | _ => False
def Xi (sl : Xc) : List Nat → Xc
  | [] => []
  | k :: r => (k, look sl k) :: Xi sl r

mutual
def V.men (ids : Nat → Bool) : V → Bool
  | .ptr id _ => ids id
  | .sl id _ => ids id
  | .sd id _ => ids id
  | .mp id => ids id
  | .ep id _ _ _ _ => ids id
  | .fn _ a b => V.mens ids a || V.mens ids b
  | .agg xs => V.mens ids xs
  | .iface _ v => V.men ids v
  | .tup xs => V.mens ids xs
  | _ => false
def V.mens (ids : Nat → Bool) : List V → Bool
  | [] => false
  | x :: r => V.men ids x || V.mens ids r
end
def Z6 (ids : Nat → Bool) : Objs → Objs
  | [] => []
  | (j, x) :: r => if ids j then Z6 ids r else (j, x) :: Z6 ids r
def Q7 (ids : Nat → Bool) : Xc → Bool
  | [] => true
  | (_, v) :: r => !V.men ids v && Q7 ids r
def Qa (ids : Nat → Bool) : List (D × V) → Bool
  | [] => false
  | (_, v) :: r => V.men ids v || Qa ids r
def noMenO (ids : Nat → Bool) : Objs → Bool
  | [] => true
  | (_, .box _ t) :: r => !V.men ids t && noMenO ids r
  | (_, .vec _ _ xs) :: r => !V.mens ids xs && noMenO ids r
  | (_, .map es) :: r => !Qa ids es && noMenO ids r
  | _ :: r => noMenO ids r
def young (n : Nat) (kp : List Nat) (id : Nat) : Bool := decide (n ≤ id) && !kp.contains id
def sub (keep : List Nat) (n : Nat) (K : Xc → Objs → Prop) (sl : Xc) (ob : Objs) : Prop :=
  ∃ kp : List Nat, Q7 (young n kp) (Xi sl keep) = true ∧ noMenO (young n kp) (Z6 (young n kp) ob) = true ∧ K (Xi sl keep) (Z6 (young n kp) ob)

structure ALoop (keep : List Nat) (body : W7 → Xc → Objs → Prop) (Q : W7) (sl : Xc) (ob : Objs) : Prop where
  run : ∃ (ι : Type) (S : ι → Xc) (O : ι → Objs) (I : ι → Prop) (μ : ι → Nat) (i0 : ι), I i0 ∧ Xi sl keep = S i0 ∧ ob = O i0 ∧
    ∀ i, I i → body (Ub (sub keep (fresh (O i)) fun sl' ob' => ∃ j, I j ∧ μ j < μ i ∧ sl' = S j ∧ ob' = O j) Q) (S i) (O i)

def cwp (P : Prg) : S → W7 → Xc → Objs → Prop
  | .rg _ l keep pk, Q, sl, ob => rwp P (fun sl ob => Q .normal (Xi sl keep) ob) (fun v sl ob => Q (.panic v) (Xi sl pk) ob) l sl ob
  | .rgT _ t keep pk, Q, sl, ob => owp P (fun sl ob => Q .normal (Xi sl keep) ob) (fun v sl ob => Q (.panic v) (Xi sl pk) ob) t sl ob
  | .seq a b, Q, sl, ob => cwp P a (Ub (cwp P b Q) Q) sl ob
  | .skip, Q, sl, ob => Q .normal sl ob
  | .cond c a b, Q, sl, ob => Xat (cwp P a Q sl ob) (cwp P b Q sl ob) (c.ev sl)
  | .block n a, Q, sl, ob => cwp P a (W3 n Q) sl ob
  | .loop keep a, Q, sl, ob => ALoop keep (cwp P a) Q sl ob
  | .exit n, Q, sl, ob => Q (.exit n) sl ob
  | .ret, Q, sl, ob => Q .ret sl ob


def Xas (N : Nat) : Option Nat → Option Nat → Bool
  | some k, some j => k == j && decide (k < N)
  | none, none => true
  | _, _ => false

def It.chk (P : Program) (N : Nat) (ops : Array Oper) (o : Oper) : It → Bool
  | .op d i => Xas N o.dst d && o.guard.isNone && i.chk P o.op
  | .gop s want d i => Xas N o.dst d && (match o.guard with
    | some (j, b) => b == want && (match ops[j]? with | some o' => o'.dst == some s | none => false)
    | none => false) && i.chk P o.op

def Wc (P : Program) (N : Nat) (ops : Array Oper) : List Oper → List It → Bool
  | [], [] => true
  | o :: r, i :: s => i.chk P N ops o && Wc P N ops r s
  | _, _ => false

def It.kind : It → Nat
  | .op _ i => i.kind
  | .gop _ _ _ i => i.kind
def X15 : List Nat → List It → Nat → Nat
  | i :: r, x :: s, j => if i = j then x.kind else X15 r s j
  | _, _, _ => 3
def Xj1 (P : Program) (N : Nat) (ops : Array Oper) (kd : Nat → Nat) (listed : Array Bool) : List Nat → List It → Bool
  | [], [] => (Region.ready .any ops listed).isEmpty
  | i :: r, x :: s => (Region.ready .any ops listed).contains i && (match ops[i]? with | some o => x.chk P N ops o | none => false) && x.kind == kd i &&
      (match x.kind with
        | 0 => Region.free .any ops listed i
        | 1 => Region.free .any ops listed i && (List.range ops.size).all (fun j => kd j != 3 || j == i || Xbo .any ops i ops.size j)
        | _ => (Region.ready .any ops listed) == [i]) &&
      Xj1 P N ops kd (listed.setIfInBounds i true) r s
  | _, _ => false
mutual
def Ot.kinds : Ot → List (Nat × Nat)
  | .done => []
  | .one i x r => (i, x.kind) :: r.kinds
  | .br l => l.kinds
def Ots.kinds : Ots → List (Nat × Nat)
  | .nil => []
  | .cons i x r l => (i, x.kind) :: (r.kinds ++ l.kinds)
end
def X13 : List (Nat × Nat) → Nat → Nat
  | [], _ => 3
  | (i, k) :: r, j => if i = j then k else X13 r j
def Ots.has (j : Nat) : Ots → Bool
  | .nil => false
  | .cons i _ _ l => i == j || l.has j
mutual
def V1 (P : Program) (N : Nat) (ops : Array Oper) (kd : Nat → Nat) : Nat → Array Bool → Ot → Bool
  | 0, listed, .done => (Region.ready .any ops listed).isEmpty
  | n + 1, listed, .one i x r => (Region.ready .any ops listed).contains i && (match ops[i]? with | some o => x.chk P N ops o | none => false) && x.kind == kd i &&
      (match x.kind with
        | 0 => Region.free .any ops listed i
        | 1 => Region.free .any ops listed i && (List.range ops.size).all (fun j => kd j != 3 || j == i || Xbo .any ops i ops.size j)
        | _ => (Region.ready .any ops listed) == [i]) &&
      V1 P N ops kd n (listed.setIfInBounds i true) r
  | n + 1, listed, .br l => !(Region.ready .any ops listed).isEmpty && (Region.ready .any ops listed).all (fun j => l.has j) && Xe1 P N ops kd n listed l
  | _, _, _ => false
def Xe1 (P : Program) (N : Nat) (ops : Array Oper) (kd : Nat → Nat) : Nat → Array Bool → Ots → Bool
  | _, _, .nil => true
  | n, listed, .cons i x r l => (Region.ready .any ops listed).contains i && (match ops[i]? with | some o => x.chk P N ops o | none => false) && x.kind == kd i && V1 P N ops kd n (listed.setIfInBounds i true) r && Xe1 P N ops kd n listed l
end
def Xbt (pk : List Nat) (ops : Array Oper) : Bool := ops.toList.all fun o => match o.dst with
  | some d => !pk.contains d
  | none => true

def S.chk (P : Program) (N : Nat) : Code → S → Bool
  | .skip, .skip => true
  | .region _ ops draw, .rg ord l _ pk => if draw then decide (ord.length ≤ ops.size) && Region.noSelect ops && Xbt pk ops && Xj1 P N ops (X15 ord l) (Array.replicate ops.size false) ord l else Wc P N ops ops.toList l
  | .region _ ops draw, .rgT n t _ pk => draw && decide (n ≤ ops.size) && Region.noSelect ops && Xbt pk ops && V1 P N ops (X13 t.kinds) n (Array.replicate ops.size false) t
  | .seq a b, .seq x y => S.chk P N a x && S.chk P N b y
  | .cond c a b, .cond d x y => A.chk c d && S.chk P N a x && S.chk P N b y
  | .block n a, .block m x => n == m && S.chk P N a x
  | .loop a, .loop _ x => S.chk P N a x
  | .exit n, .exit m => n == m
  | .ret, .ret => true
  | _, _ => false


structure Ctx where
  w0 : World
  ex : Nat → Prop
  N : Nat
  df : List Deferred
  g : Nat → Option Obj
  m0 : Nat → Option RO
  ev : List (V × Value)

structure Base (c : Ctx) (w : World) (ρ : Env) : Prop where
  size : c.w0.heap.size ≤ w.heap.size
  keep : ∀ b, b < c.w0.heap.size → ¬ c.ex b → w.heap[b]? = c.w0.heap[b]?
  owns : ∀ b, Xna ρ b → c.w0.heap.size ≤ b ∨ c.ex b
  tape : w.tape = c.w0.tape
  os : w.os = c.w0.os
  out : w.output = c.w0.output
  same : ∀ id o, c.m0 id = some o → ∃ o', ρ.m id = some o' ∧ o.le o'
  ext : ∀ p ∈ c.ev, p.1.rep w ρ p.2

theorem Base.tr {c : Ctx} {w w' : World} {ρ ρ' : Env} (h : Base c w ρ) (t : Tr w ρ w' ρ') : Base c w' ρ' := by
  refine ⟨Nat.le_trans h.size t.size, fun b h1 h2 => ?_, fun b h1 => ?_, t.tape.trans h.tape, t.os.trans h.os, t.out.trans h.out, fun id o h1 => ?_, fun p hp => V.rep_tr t (h.ext p hp)⟩
  · refine (t.keep b (fun h3 => ?_) (Nat.lt_of_lt_of_le h1 h.size)).trans (h.keep b h1 h2)
    exact (h.owns b h3).elim (fun h => by omega) h2
  · rcases t.owns b h1 with h3 | h3
    · exact h.owns b h3
    · exact .inl (Nat.le_trans h.size h3)
  · obtain ⟨o', h2, h3⟩ := h.same id o h1
    obtain ⟨o'', h4, h5⟩ := t.same id o' h2
    exact ⟨o'', h4, h3.trans h5⟩

structure Mod (c : Ctx) (xo : Nat → Prop) (ρ : Env) (sl : Xc) (ob : Objs) (a : Act) (w : World) : Prop where
  base : Base c w ρ
  om : OM w ρ ob
  sm : SM w ρ sl a
  size : a.tmps.size = c.N
  df : a.defers = c.df
  xo : ρ.xo = xo
  gl : ρ.gl = c.g

def exM (w : World) (ρ : Env) : Exit → AExit → Prop
  | .normal, .normal => True
  | .exit n, .exit m => n = m
  | .ret, .ret => True
  | .panic ch, .panic v => ∃ u, ch = [{ v := u, recovered := false }] ∧ v.rep w ρ u
  | _, _ => False

def lift (c : Ctx) (xo : Nat → Prop) (Q : W7) : Exit → Act → World → Prop :=
  fun e a w => ∃ ae sl ob ρ, Q ae sl ob ∧ exM w ρ e ae ∧ Mod c xo ρ sl ob a w

theorem Xq {w : World} {ρ : Env} {sl : Xc} {a : Act} {d : Option Nat} {x : V} {v : Value} {N : Nat} {o : Option Nat} (hd : Xas N o d = true) (hN : a.tmps.size = N) (hs : SM w ρ sl a) (hx : x.rep w ρ v) :
    SM w ρ (put sl d x) (a.put o v) ∧ (a.put o v).tmps.size = N ∧ (a.put o v).defers = a.defers := by
  cases o with
  | none =>
    cases d with
    | none => exact ⟨hs, hN, rfl⟩
    | some j => simp [Xas] at hd
  | some k =>
    cases d with
    | none => simp [Xas] at hd
    | some j =>
      simp only [Xas, Bool.and_eq_true, beq_iff_eq, decide_eq_true_eq] at hd
      obtain ⟨rfl, hk⟩ := hd
      refine ⟨fun i => ?_, by simpa [Act.put] using hN, rfl⟩
      simp only [put, look, Act.put]
      split
      · rename_i e; subst e
        have : k < a.tmps.size := by omega
        simpa [this] using hx
      · rename_i e
        have := hs i
        simpa [Array.getElem?_setIfInBounds, e] using this

theorem Xhg {ops : Array Oper} {a : Act} {j s : Nat} {o' : Oper} {b : Bool} (h1 : ops[j]? = some o') (h2 : o'.dst = some s) (h3 : a.tmps.getD s undef = .bool b) : yielded ops a.tmps j = some b := by
  have hs : s < a.tmps.size := by
    rcases Nat.lt_or_ge s a.tmps.size with h | h
    · exact h
    · simp [Array.getD, Nat.not_lt.2 h, undef] at h3
  simp only [Array.getD, hs, dif_pos] at h3
  have : a.tmps[s]? = some (.bool b) := by rw [Array.getElem?_eq_getElem hs]; exact congrArg some h3
  simp [yielded, h1, h2, this]

theorem Xfs {ops : Array Oper} {a : Act} {j s : Nat} {o' : Oper} (h1 : ops[j]? = some o') (h2 : o'.dst = some s) (h3 : a.tmps.getD s undef = undef) : yielded ops a.tmps j = none := by
  rcases Nat.lt_or_ge s a.tmps.size with hs | hs
  · simp only [Array.getD, hs, dif_pos] at h3
    have : a.tmps[s]? = some (.tuple #[]) := by rw [Array.getElem?_eq_getElem hs]; exact congrArg some h3
    simp [yielded, h1, h2, this]
  · have : a.tmps[s]? = none := Array.getElem?_eq_none hs
    simp [yielded, h1, h2, this]

theorem Zw {w : World} {ρ : Env} {sl : Xc} {a : Act} {ops : Array Oper} {o : Oper} {s : Nat} {want : Bool} {Y N : Xc → Prop} (hs : SM w ρ sl a)
    (hg : (match o.guard with | some (j, b) => b == want && (match ops[j]? with | some o' => o'.dst == some s | none => false) | none => false) = true)
    (h : gdK s want sl Y N (look sl s)) :
    (Region.wanted o (yielded ops a.tmps) = true ∧ ∃ sl', SM w ρ sl' a ∧ Y sl') ∨ (Region.wanted o (yielded ops a.tmps) = false ∧ ∃ sl', SM w ρ sl' a ∧ N sl') := by
  split at hg
  · rename_i j b hj
    simp only [Bool.and_eq_true, beq_iff_eq] at hg
    obtain ⟨rfl, hg⟩ := hg
    split at hg
    · rename_i o' ho
      have hd : o'.dst = some s := by simpa using hg
      have hv := hs s
      have key : ∀ c : Bool, a.tmps.getD s undef = .bool c → SM w ρ ((s, .d (.bool c)) :: sl) a := fun c hc k => by
        simp only [look]
        split
        · rename_i e; subst e; rw [hc]; exact rep_bool.2 rfl
        · exact hs k
      unfold gdK at h
      split at h
      · rename_i c e
        rw [e, rep_bool] at hv
        have hy := Xhg (a := a) ho hd hv
        by_cases hcb : c = b
        · subst hcb
          exact .inl ⟨by simp [Region.wanted, hj, hy], _, key c hv, h.1 rfl⟩
        · have hcn : c = !b := by cases c <;> cases b <;> simp_all
          subst hcn
          exact .inr ⟨by simp [Region.wanted, hj, hy], _, key _ hv, h.2 rfl⟩
      · rename_i e
        rw [e, Zh] at hv
        have hy := Xfs (a := a) ho hd hv
        exact .inr ⟨by simp [Region.wanted, hj, hy], _, hs, h⟩
      · exact h.elim
    · simp at hg
  · simp at hg

theorem J9 {P : Prg} {c : Ctx} (hg : P.g = c.g) {xo : Nat → Prop} {ops : Array Oper} {Q : Exit → Act → World → Prop} {K : Xc → Objs → Prop} {Pn : V → Xc → Objs → Prop}
    (hK : ∀ sl ob ρ a w, K sl ob → Mod c xo ρ sl ob a w → Q .normal a w)
    (hP : ∀ v sl ob ρ a w u, Pn v sl ob → Mod c xo ρ sl ob a w → v.rep w ρ u → Q (.panic [{ v := u, recovered := false }]) a w) :
    ∀ (l : List Oper) (its : List It) (sl : Xc) (ob : Objs) (ρ : Env) (a : Act) (w : World), Wc P.p c.N ops l its = true → rwp P K Pn its sl ob → Mod c xo ρ sl ob a w → wpList P.p ops Q l a w
  | [], [], sl, ob, ρ, a, w, _, h, m => by simp only [wpList]; exact hK sl ob ρ a w h m
  | o :: r, i :: s, sl, ob, ρ, a, w, hc, h, m => by
    simp only [Wc, Bool.and_eq_true] at hc
    obtain ⟨h1, h2⟩ := hc
    have step : ∀ (d : Option Nat) (x : I) (sl : Xc), SM w ρ sl a → Xas c.N o.dst d = true → x.chk P.p o.op = true → x.wp P sl ob (fun v ob' => rwp P K Pn s (put sl d v) ob') (fun v ob' => Pn v sl ob') → o.wp P.p a w (wpList P.p ops Q r) Q := by
      intro d x sl hs hd hx hw
      refine I.sound (m.gl.trans hg.symm) hs m.om hx hw o rfl _ _ (fun v y ob' w' ρ' hk hr ho t => ?_) (fun u y ob' w' ρ' hk hr ho t => ?_)
      · obtain ⟨g1, g2, g3⟩ := Xq hd m.size (hs.tr t) hr
        exact J9 hg hK hP r s _ ob' ρ' _ w' h2 hk ⟨m.base.tr t, ho, g1, g2, g3.trans m.df, t.xo.trans m.xo, t.gl.trans m.gl⟩
      · exact hP y sl ob' ρ' a w' u hk ⟨m.base.tr t, ho, hs.tr t, m.size, m.df, t.xo.trans m.xo, t.gl.trans m.gl⟩ hr
    cases i with
    | op d x =>
      simp only [It.chk, Bool.and_eq_true, Option.isNone_iff_eq_none] at h1
      simp only [rwp] at h
      simp only [wpList, Region.wanted, h1.1.2, if_true]
      exact .inl (step d x sl m.sm h1.1.1 h1.2 h)
    | gop g want d x =>
      simp only [It.chk, Bool.and_eq_true] at h1
      simp only [rwp] at h
      simp only [wpList]
      rcases Zw (ops := ops) m.sm h1.1.2 h with ⟨hw, sl', hs, h⟩ | ⟨hw, sl', hs, h⟩
      · rw [if_pos hw]
        exact .inl (step d x sl' hs h1.1.1 h1.2 h)
      · rw [hw]
        simp only [Bool.false_eq_true, if_false]
        obtain ⟨g1, g2, g3⟩ := Xq h1.1.1 m.size hs (Zh.2 rfl)
        exact J9 hg hK hP r s _ ob ρ _ w h2 h ⟨m.base, m.om, g1, g2, g3.trans m.df, m.xo, m.gl⟩
  | [], _ :: _, _, _, _, _, _, hc, _, _ => by simp [Wc] at hc
  | _ :: _, [], _, _, _, _, _, hc, _, _ => by simp [Wc] at hc

theorem SM.keep {w : World} {ρ : Env} {sl : Xc} {a : Act} (hs : SM w ρ sl a) (l : List Nat) : SM w ρ (Xi sl l) a := by
  intro k
  induction l with
  | nil => exact Xf1
  | cons j r ih =>
    simp only [Xi, look]
    split
    · rename_i e; subst e; exact hs j
    · exact ih

def Env.del (ρ : Env) (ids : Nat → Bool) : Env := ⟨fun j => if ids j then none else ρ.m j, ρ.xo, ρ.gl⟩

theorem Uy {ρ : Env} {ids : Nat → Bool} {b : Nat} (h : Xna (ρ.del ids) b) : Xna ρ b := by
  obtain ⟨j, o, h1, h2⟩ := h
  simp only [Env.del] at h1
  split at h1
  · cases h1
  · exact ⟨j, o, h1, h2⟩

theorem Xeq (w : World) (ρ : Env) (ids : Nat → Bool) : Xgt w (own ρ) w (own (ρ.del ids)) := fun _ h _ =>
  ⟨rfl, fun h' => h (h'.elim (fun h => .inl (Uy h)) .inr)⟩

mutual
theorem V.repC_del {w : World} {ρ : Env} {ids : Nat → Bool} : ∀ (x : V) (cs : List Value), V.men ids x = false → x.repC w ρ cs → x.repC w (ρ.del ids) cs
  | .d x, cs, _, h => by simp only [V.repC] at h ⊢; exact D.rep_mono (Xeq w ρ ids) x cs h
  | .ptr id p, cs, hm, h => by
    simp only [V.repC] at h ⊢
    simp only [V.men] at hm
    rcases h with ⟨b, sh, h1, h2⟩ | ⟨h1, h2⟩
    · exact .inl ⟨b, sh, by simp only [Env.del, hm]; exact h1, h2⟩
    · exact .inr ⟨by simp only [Env.del, hm]; exact h1, h2⟩
  | .sl id n, cs, hm, h => by
    simp only [V.repC] at h ⊢
    simp only [V.men] at hm
    obtain ⟨o, u, h1, h2⟩ := h
    exact ⟨o, u, by simp only [Env.del, hm]; exact h1, h2⟩
  | .sd id n, cs, hm, h => by
    simp only [V.repC] at h ⊢
    simp only [V.men] at hm
    obtain ⟨o, u, h1, h2⟩ := h
    exact ⟨o, u, by simp only [Env.del, hm]; exact h1, h2⟩
  | .mp id, cs, hm, h => by
    simp only [V.repC] at h ⊢
    simp only [V.men] at hm
    rcases h with ⟨b, h1, h2⟩ | ⟨h1, h2⟩
    · exact .inl ⟨b, by simp only [Env.del, hm]; exact h1, h2⟩
    · exact .inr ⟨by simp only [Env.del, hm]; exact h1, h2⟩
  | .ep id n sh i p, cs, hm, h => by
    simp only [V.repC] at h ⊢
    simp only [V.men] at hm
    obtain ⟨o, u, h1, h2⟩ := h
    exact ⟨o, u, by simp only [Env.del, hm]; exact h1, h2⟩
  | .fn f fi ca, cs, hm, h => by
    simp only [V.repC] at h ⊢
    simp only [V.men, Bool.or_eq_false_iff] at hm
    obtain ⟨fs, gs, e, h1, h2⟩ := h
    exact ⟨fs, gs, e, V.reps_del fi fs hm.1 h1, V.reps_del ca gs hm.2 h2⟩
  | .agg xs, cs, hm, h => by
    simp only [V.repC] at h ⊢
    simp only [V.men] at hm
    exact V.repCs_del xs cs hm h
  | .iface ty x, cs, hm, h => by
    simp only [V.repC] at h ⊢
    simp only [V.men] at hm
    obtain ⟨u, e, h1⟩ := h
    refine ⟨u, e, ?_⟩
    rcases h1 with h1 | ⟨p, ds, q, r⟩ | ⟨p, r⟩
    · exact .inl h1
    · exact .inr (.inl ⟨p, ds, q, V.repC_del x ds hm r⟩)
    · exact .inr (.inr ⟨p, V.repC_del x _ hm r⟩)
  | .tup xs, cs, hm, h => by
    simp only [V.repC] at h ⊢
    simp only [V.men] at hm
    obtain ⟨vs, e, h1⟩ := h
    exact ⟨vs, e, V.reps_del xs vs hm h1⟩
  | .undef, cs, _, h => by simpa only [V.repC] using h
  | .any, cs, _, h => by simpa only [V.repC] using h
theorem V.repCs_del {w : World} {ρ : Env} {ids : Nat → Bool} : ∀ (xs : List V) (cs : List Value), V.mens ids xs = false → V.repCs w ρ xs cs → V.repCs w (ρ.del ids) xs cs
  | [], cs, _, h => by simpa only [V.repCs] using h
  | x :: r, cs, hm, h => by
    simp only [V.repCs] at h ⊢
    simp only [V.mens, Bool.or_eq_false_iff] at hm
    obtain ⟨c1, c2, e, h1, h2⟩ := h
    exact ⟨c1, c2, e, V.repC_del x c1 hm.1 h1, V.repCs_del r c2 hm.2 h2⟩
theorem V.reps_del {w : World} {ρ : Env} {ids : Nat → Bool} : ∀ (xs : List V) (vs : List Value), V.mens ids xs = false → V.reps w ρ xs vs → V.reps w (ρ.del ids) xs vs
  | [], vs, _, h => by simpa only [V.reps] using h
  | x :: r, vs, hm, h => by
    simp only [V.reps] at h ⊢
    simp only [V.mens, Bool.or_eq_false_iff] at hm
    obtain ⟨u, us, e, h1, h2⟩ := h
    refine ⟨u, us, e, ?_, V.reps_del r us hm.2 h2⟩
    rcases h1 with h1 | ⟨p, ds, q, r⟩ | ⟨p, r⟩
    · exact .inl h1
    · exact .inr (.inl ⟨p, ds, q, V.repC_del x ds hm.1 r⟩)
    · exact .inr (.inr ⟨p, V.repC_del x _ hm.1 r⟩)
end

theorem V.rep_del {w : World} {ρ : Env} {ids : Nat → Bool} {x : V} {u : Value} (hm : V.men ids x = false) (h : x.rep w ρ u) : x.rep w (ρ.del ids) u := by
  rcases h with h1 | ⟨p, ds, q, r⟩ | ⟨p, r⟩
  · exact .inl h1
  · exact .inr (.inl ⟨p, ds, q, V.repC_del x ds hm r⟩)
  · exact .inr (.inr ⟨p, V.repC_del x _ hm r⟩)

theorem Y2.del {w : World} {ρ : Env} {ids : Nat → Bool} : ∀ (l : List (D × V)) (es : List MapEntry), Qa ids l = false → Y2 w ρ l es → Y2 w (ρ.del ids) l es
  | [], es, _, h => h
  | (k, v) :: r, es, hm, h => by
    simp only [Qa, Bool.or_eq_false_iff] at hm
    obtain ⟨e, es', h1, h2, h3, h4⟩ := h
    exact ⟨e, es', h1, h2, V.rep_del hm.1 h3, Y2.del r es' hm.2 h4⟩

theorem Vi {ids : Nat → Bool} : ∀ (ob : Objs) (j : Nat), lookO (Z6 ids ob) j = if ids j then none else lookO ob j
  | [], j => by simp [Z6, lookO]
  | (k, x) :: r, j => by
    simp only [Z6]
    split
    · rename_i h
      rw [Vi r j]
      simp only [lookO]
      by_cases e : k = j
      · subst e; rw [if_pos h, if_pos h]
      · simp [e]
    · rename_i h
      simp only [lookO, Vi r j]
      by_cases e : k = j
      · subst e; rw [if_pos rfl, if_neg h, if_pos rfl]
      · simp [e]

theorem Xj3.drop {ids : Nat → Bool} : ∀ {ob : Objs}, Xj3 ob → Xj3 (Z6 ids ob)
  | [], h => h
  | (k, x) :: r, h => by
    simp only [Z6]
    split
    · exact Xj3.drop h.2
    · refine ⟨?_, Xj3.drop h.2⟩
      rw [Vi, h.1]; split <;> rfl

theorem Y9 {ids : Nat → Bool} : ∀ (ob : Objs) (j E : Nat) (t : V), noMenO ids ob = true → lookO ob j = some (.box E t) → V.men ids t = false
  | [], j, E, t, _, h => by simp [lookO] at h
  | (k, x) :: r, j, E, t, hm, h => by
    simp only [lookO] at h
    split at h
    · simp at h; subst h
      simp only [noMenO, Bool.and_eq_true] at hm
      simpa using hm.1
    · cases x with
      | box _ y => simp only [noMenO, Bool.and_eq_true] at hm; exact Y9 r j E t hm.2 h
      | vec _ _ y => simp only [noMenO, Bool.and_eq_true] at hm; exact Y9 r j E t hm.2 h
      | map y => simp only [noMenO, Bool.and_eq_true] at hm; exact Y9 r j E t hm.2 h
      | arr _ z xs => simp only [noMenO] at hm; exact Y9 r j E t hm h
      | gone => simp only [noMenO] at hm; exact Y9 r j E t hm h
theorem Wj {ids : Nat → Bool} : ∀ (ob : Objs) (j E sz : Nat) (t : List V), noMenO ids ob = true → lookO ob j = some (.vec E sz t) → V.mens ids t = false
  | [], j, E, sz, t, _, h => by simp [lookO] at h
  | (k, x) :: r, j, E, sz, t, hm, h => by
    simp only [lookO] at h
    split at h
    · simp at h; subst h
      simp only [noMenO, Bool.and_eq_true] at hm
      simpa using hm.1
    · cases x with
      | box _ y => simp only [noMenO, Bool.and_eq_true] at hm; exact Wj r j E sz t hm.2 h
      | vec _ _ y => simp only [noMenO, Bool.and_eq_true] at hm; exact Wj r j E sz t hm.2 h
      | map y => simp only [noMenO, Bool.and_eq_true] at hm; exact Wj r j E sz t hm.2 h
      | arr _ z xs => simp only [noMenO] at hm; exact Wj r j E sz t hm h
      | gone => simp only [noMenO] at hm; exact Wj r j E sz t hm h
theorem Wm {ids : Nat → Bool} : ∀ (ob : Objs) (j : Nat) (t : List (D × V)), noMenO ids ob = true → lookO ob j = some (.map t) → Qa ids t = false
  | [], j, t, _, h => by simp [lookO] at h
  | (k, x) :: r, j, t, hm, h => by
    simp only [lookO] at h
    split at h
    · simp at h; subst h
      simp only [noMenO, Bool.and_eq_true] at hm
      simpa using hm.1
    · cases x with
      | box _ y => simp only [noMenO, Bool.and_eq_true] at hm; exact Wm r j t hm.2 h
      | vec _ _ y => simp only [noMenO, Bool.and_eq_true] at hm; exact Wm r j t hm.2 h
      | map y => simp only [noMenO, Bool.and_eq_true] at hm; exact Wm r j t hm.2 h
      | arr _ z xs => simp only [noMenO] at hm; exact Wm r j t hm h
      | gone => simp only [noMenO] at hm; exact Wm r j t hm h

theorem Xb7 {ids : Nat → Bool} : ∀ (sl : Xc) (k : Nat), Q7 ids sl = true → V.men ids (look sl k) = false
  | [], k, _ => by simp [look, V.men]
  | (j, v) :: r, k, hm => by
    simp only [Q7, Bool.and_eq_true] at hm
    simp only [look]
    split
    · simpa using hm.1
    · exact Xb7 r k hm.2

theorem OM.del {w : World} {ρ : Env} {ob : Objs} {ids : Nat → Bool} (h : OM w ρ ob) (hm : noMenO ids (Z6 ids ob) = true) : OM w (ρ.del ids) (Z6 ids ob) := by
  refine ⟨fun j x hx => ?_, fun j o hj => ?_, fun i j o p b h1 h2 h3 h4 => ?_, h.xlt, fun b o hb => ⟨(h.glb b o hb).1, (Xeq w ρ ids b (h.glb b o hb).2 (Xu (h.glb b o hb).1)).2⟩, fun b hb => h.xdis b (Uy hb), Xj3.drop h.once⟩
  · have hx0 := hx
    rw [Vi] at hx
    split at hx
    · cases hx
    · rename_i hn
      have h1 := h.one j x hx
      cases x with
      | box E t =>
        obtain ⟨b, cs, g1, g2, g3⟩ := h1
        exact ⟨b, cs, by simp only [Env.del, hn]; exact g1, g2, V.repC_del t cs (Y9 _ j E t hm hx0) g3⟩
      | gone => exact (by simp only [Env.del, hn]; exact h1 : (ρ.del ids).m j = some .gone)
      | arr E sz xs =>
        rcases h1 with ⟨g1, g2⟩ | ⟨b, cap, cs, sp, g1, g2, g3, g4⟩
        · exact .inl ⟨by simp only [Env.del, hn]; exact g1, g2⟩
        · exact .inr ⟨b, cap, cs, sp, by simp only [Env.del, hn]; exact g1, g2, D.repL_mono (Xeq w ρ ids) _ _ g3, g4⟩
      | vec E sz xs =>
        rcases h1 with ⟨g1, g2⟩ | ⟨b, cap, cs, sp, g1, g2, g3, g4⟩
        · exact .inl ⟨by simp only [Env.del, hn]; exact g1, g2⟩
        · exact .inr ⟨b, cap, cs, sp, by simp only [Env.del, hn]; exact g1, g2, V.repCs_del xs cs (Wj _ j E sz xs hm hx0) g3, g4⟩
      | map es =>
        obtain ⟨b, l, clk, g1, g2, g3⟩ := h1
        exact ⟨b, l, clk, by simp only [Env.del, hn]; exact g1, g2, Y2.del es l (Wm _ j es hm hx0) g3⟩
  · simp only [Env.del] at hj
    rw [Vi]
    split at hj
    · cases hj
    · rename_i hn
      rw [if_neg hn]
      exact h.dom j o hj
  · simp only [Env.del] at h1 h2
    split at h1
    · cases h1
    · split at h2
      · cases h2
      · exact h.inj i j o p b h1 h2 h3 h4

section
variable {w : World} {ρ : Env}
mutual
theorem V.men_dom {ids : Nat → Bool} (hd : ∀ id o, ρ.m id = some o → ids id = false) : ∀ (v : V) (cs : List Value), v.repC w ρ cs → V.men ids v = false
  | .d _, _, _ => rfl
  | .ptr id p, cs, h => by
    simp only [V.repC] at h
    simp only [V.men]
    rcases h with ⟨_, _, h, _⟩ | ⟨h, _⟩ <;> exact hd _ _ h
  | .sl id n, cs, h => by simp only [V.repC] at h; obtain ⟨_, _, h, _⟩ := h; exact hd _ _ h
  | .sd id n, cs, h => by simp only [V.repC] at h; obtain ⟨_, _, h, _⟩ := h; exact hd _ _ h
  | .mp id, cs, h => by
    simp only [V.repC] at h
    simp only [V.men]
    rcases h with ⟨_, h, _⟩ | ⟨h, _⟩ <;> exact hd _ _ h
  | .ep id n sh i p, cs, h => by simp only [V.repC] at h; obtain ⟨_, _, h, _⟩ := h; exact hd _ _ h
  | .fn f fi ca, cs, h => by
    simp only [V.repC] at h
    obtain ⟨fs, gs, _, h1, h2⟩ := h
    simp only [V.men, V.mens_dom hd fi fs h1, V.mens_dom hd ca gs h2, Bool.or_self]
  | .agg xs, cs, h => by simp only [V.repC] at h; simp only [V.men]; exact V.menCs_dom hd xs cs h
  | .iface t x, cs, h => by
    simp only [V.repC] at h
    obtain ⟨u, _, h⟩ := h
    simp only [V.men]
    rcases h with h | ⟨_, ds, _, h⟩ | ⟨_, h⟩
    · subst h; rfl
    · exact V.men_dom hd x ds h
    · exact V.men_dom hd x _ h
  | .tup xs, cs, h => by simp only [V.repC] at h; obtain ⟨vs, _, h⟩ := h; simp only [V.men]; exact V.mens_dom hd xs vs h
  | .undef, _, _ => rfl
  | .any, _, _ => rfl
theorem V.menCs_dom {ids : Nat → Bool} (hd : ∀ id o, ρ.m id = some o → ids id = false) : ∀ (xs : List V) (cs : List Value), V.repCs w ρ xs cs → V.mens ids xs = false
  | [], _, _ => rfl
  | x :: r, cs, h => by
    simp only [V.repCs] at h
    obtain ⟨c1, c2, _, h1, h2⟩ := h
    simp only [V.mens, V.men_dom hd x c1 h1, V.menCs_dom hd r c2 h2, Bool.or_self]
theorem V.mens_dom {ids : Nat → Bool} (hd : ∀ id o, ρ.m id = some o → ids id = false) : ∀ (xs : List V) (vs : List Value), V.reps w ρ xs vs → V.mens ids xs = false
  | [], _, _ => rfl
  | x :: r, vs, h => by
    simp only [V.reps] at h
    obtain ⟨u, us, _, h1, h2⟩ := h
    have : V.men ids x = false := by
      rcases h1 with h | ⟨_, ds, _, h⟩ | ⟨_, h⟩
      · subst h; rfl
      · exact V.men_dom hd x ds h
      · exact V.men_dom hd x _ h
    simp only [V.mens, this, V.mens_dom hd r us h2, Bool.or_self]
end
theorem V.men_temp {ids : Nat → Bool} (hd : ∀ id o, ρ.m id = some o → ids id = false) {v : V} {u : Value} (h : v.rep w ρ u) : V.men ids v = false := by
  rcases h with h | ⟨_, ds, _, h⟩ | ⟨_, h⟩
  · subst h; rfl
  · exact V.men_dom hd v ds h
  · exact V.men_dom hd v _ h
end

theorem Mod.sub {c : Ctx} {xo : Nat → Prop} {ρ : Env} {sl : Xc} {ob : Objs} {a : Act} {w : World} {keep : List Nat} {drp : Nat → Bool} (m : Mod c xo ρ sl ob a w) (hd : ∀ id o, c.m0 id = some o → drp id = false) (hv : ∀ p ∈ c.ev, V.men drp p.1 = false)
    (h1 : Q7 drp (Xi sl keep) = true) (h2 : noMenO drp (Z6 drp ob) = true) : Mod c xo (ρ.del drp) (Xi sl keep) (Z6 drp ob) a w :=
  ⟨⟨m.base.size, m.base.keep, fun b hb => m.base.owns b (Uy hb), m.base.tape, m.base.os, m.base.out, fun id o h => (m.base.same id o h).elim fun o' q => ⟨o', by simp only [Env.del, hd id o h]; exact q.1, q.2⟩, fun p hp => V.rep_del (hv p hp) (m.base.ext p hp)⟩, m.om.del h2, fun k => V.rep_del (Xb7 _ k h1) (m.sm.keep keep k), m.size, m.df, m.xo, m.gl⟩

def Xdb (c : Ctx) (xo : Nat → Prop) (pk : List Nat) (Q : W7) (ch : List PanicEntry) (a : Act) (w : World) : Prop :=
  ∃ v sl ob ρ u, Q (.panic v) (Xi sl pk) ob ∧ ch = [{ v := u, recovered := false }] ∧ v.rep w ρ u ∧ Mod c xo ρ (Xi sl pk) ob a w

theorem Xh4 (sl : Xc) : ∀ (pk : List Nat) (k : Nat), k ∉ pk → look (Xi sl pk) k = .any
  | [], k, _ => by simp [Xi, look]
  | j :: r, k, h => by
    simp only [Xi, look]
    have : j ≠ k := fun e => h (by simp [e])
    rw [if_neg this]
    exact Xh4 sl r k (fun h' => h (by simp [h']))

theorem Xh5 {c : Ctx} {xo : Nat → Prop} {pk : List Nat} {Q : W7} {ch : List PanicEntry} {a : Act} {w : World} {d : Option Nat} {v : Value} (hd : ∀ k, d = some k → k ∉ pk) (h : Xdb c xo pk Q ch (a.put d v) w) : Xdb c xo pk Q ch a w := by
  obtain ⟨x, sl, ob, ρ, u, h1, h2, h3, m⟩ := h
  refine ⟨x, sl, ob, ρ, u, h1, h2, h3, m.base, m.om, fun k => ?_, ?_, ?_, m.xo, m.gl⟩
  · by_cases hk : k ∈ pk
    · have := m.sm k
      cases d with
      | none => exact this
      | some j =>
        have hne : j ≠ k := fun e => hd j rfl (e ▸ hk)
        simpa [Act.put, Array.getElem?_setIfInBounds, hne] using this
    · rw [Xh4 sl pk k hk]; exact Xf1
  · have := m.size
    cases d <;> simpa [Act.put] using this
  · have := m.df
    cases d <;> simpa [Act.put] using this

theorem Za {P : Prg} {c : Ctx} (hg : P.g = c.g) {xo : Nat → Prop} {ops : Array Oper} {Q : Exit → Act → World → Prop} {QP : W7} {pk : List Nat} {K : Xc → Objs → Prop} {kd : Nat → Nat}
    (hsel : Region.noSelect ops = true) (hpk : Xbt pk ops = true)
    (hK : ∀ sl ob ρ a w, K sl ob → Mod c xo ρ sl ob a w → Q .normal a w)
    (hQ : ∀ ch a w, Q (.panic ch) a w ↔ Xdb c xo pk QP ch a w) :
    ∀ (ord : List Nat) (its : List It) (listed : Array Bool) (sl : Xc) (ob : Objs) (ρ : Env) (a : Act) (w : World), Xj1 P.p c.N ops kd listed ord its = true → Xba .any ops listed →
      rwp P K (fun v sl ob => QP (.panic v) (Xi sl pk) ob) its sl ob → Mod c xo ρ sl ob a w → Wt P.p .any ops Q Ext (fun j => kd j == 3) ord.length listed a w
  | [], [], listed, sl, ob, ρ, a, w, hc, _, h, m => by
    simp only [Xj1] at hc
    simp only [List.length_nil, Wt]
    exact ⟨by simpa using hc, hK sl ob ρ a w h m⟩
  | i :: r, x :: s, listed, sl, ob, ρ, a, w, hc, hcl, h, m => by
    simp only [Xj1, Bool.and_eq_true] at hc
    obtain ⟨⟨⟨⟨hr, hx⟩, hkd⟩, hkind⟩, hrest⟩ := hc
    have hr' : i ∈ Region.ready .any ops listed := by simpa using hr
    cases ho : ops[i]? with
    | none => simp [ho] at hx
    | some o =>
      simp only [ho] at hx
      have hkd' : x.kind = kd i := by simpa using hkd
      have hpko : ∀ k, o.dst = some k → k ∉ pk := by
        intro k hk
        have := List.all_eq_true.1 hpk o (by simpa using Array.mem_of_getElem? ho)
        simpa [hk] using this
      have hQo : ∀ v : Value, ∀ ch a w, Q (.panic ch) (a.put o.dst v) w → Q (.panic ch) a w := fun v ch a w hq => (hQ ch a w).2 (Xh5 hpko ((hQ ch _ w).1 hq))
      have hcl' := hcl.step hr'
      simp only [List.length_cons]
      -- the operation's state and text, whichever way its guard goes
      have hd : ∃ (d : Option Nat) (y : I), Xas c.N o.dst d = true ∧ y.chk P.p o.op = true ∧ x.kind = y.kind ∧
          ((Region.wanted o (yielded ops a.tmps) = true ∧ ∃ sl', SM w ρ sl' a ∧ y.wp P sl' ob (fun v ob' => rwp P K (fun v sl ob => QP (.panic v) (Xi sl pk) ob) s (put sl' d v) ob') (fun v ob' => QP (.panic v) (Xi sl' pk) ob')) ∨
           (Region.wanted o (yielded ops a.tmps) = false ∧ ∃ sl', SM w ρ sl' a ∧ rwp P K (fun v sl ob => QP (.panic v) (Xi sl pk) ob) s (put sl' d .undef) ob)) := by
        cases x with
        | op d y =>
          simp only [It.chk, Bool.and_eq_true, Option.isNone_iff_eq_none] at hx
          simp only [rwp] at h
          exact ⟨d, y, hx.1.1, hx.2, rfl, .inl ⟨by simp [Region.wanted, hx.1.2], sl, m.sm, h⟩⟩
        | gop g want d y =>
          simp only [It.chk, Bool.and_eq_true] at hx
          simp only [rwp] at h
          exact ⟨d, y, hx.1.1, hx.2, rfl, Zw (ops := ops) m.sm hx.1.2 h⟩
      obtain ⟨d, y, hdst, hy, hky, hways⟩ := hd
      -- an operation that may be taken first
      have first : ∀ l : Bool, (∀ cc, y = .c cc → cc.isLd = l) → (∃ cc, y = .c cc) → Region.free .any ops listed i = true →
          (l = true → ∀ j, j < ops.size → (kd j == 3) = true → j ≠ i → ∃ fuel, Xbo .any ops i fuel j = true) → Wt P.p .any ops Q Ext (fun j => kd j == 3) (r.length + 1) listed a w := by
        intro l hld hcc hfree hwt
        obtain ⟨cc, rfl⟩ := hcc
        have hld := hld cc rfl
        rcases hways with ⟨hw, sl', hs, hwp⟩ | ⟨hw, sl', hs, hwp⟩
        · simp only [I.wp] at hwp
          obtain ⟨v, z, hk, hrep, hrun⟩ := C.sound hs m.om hy hwp
          obtain ⟨g1, g2, g3⟩ := Xq hdst m.size hs hrep
          refine W1 (l := l) Ext.refl (fun _ _ _ => Ext.trans) ho (Region.noSelect_spec hsel) (hQo v) hwt _ listed a w hcl (Region.free_spec ho hfree) hr' (.inl ⟨hw, fun w' hw' => hrun o rfl w' (fun e => hw' (by rw [← hld]; exact e))⟩) ?_
          exact Za hg hsel hpk hK hQ r s _ _ ob ρ _ w hrest hcl' hk ⟨m.base, m.om, g1, g2, g3.trans m.df, m.xo, m.gl⟩
        · obtain ⟨g1, g2, g3⟩ := Xq hdst m.size hs (Zh.2 rfl)
          refine W1 (l := l) Ext.refl (fun _ _ _ => Ext.trans) ho (Region.noSelect_spec hsel) (hQo undef) hwt _ listed a w hcl (Region.free_spec ho hfree) hr' (.inr ⟨hw, rfl⟩) ?_
          exact Za hg hsel hpk hK hQ r s _ _ ob ρ _ w hrest hcl' hwp ⟨m.base, m.om, g1, g2, g3.trans m.df, m.xo, m.gl⟩
      -- the only one that may come up
      have alone : Region.ready .any ops listed = [i] → (y.kind = 2 ∨ y.kind = 3 ∨ y.kind = 4) → Wt P.p .any ops Q Ext (fun j => kd j == 3) (r.length + 1) listed a w := by
        intro hra hk23
        refine ⟨fun h0 => (by rw [hra] at h0; cases h0), fun j hj => ?_⟩
        rw [hra] at hj
        simp at hj; subst hj
        unfold wpOp
        simp only [ho]
        rcases hways with ⟨hw, sl', hs, hwp⟩ | ⟨hw, sl', hs, hwp⟩
        · rw [if_pos hw]
          refine .inl ?_
          rcases hk23 with hk2 | hk3 | hk4
          · refine I.soundE (m.gl.trans hg.symm) hs m.om hk2 hy hwp o rfl _ _ (fun v z w' hk hrep he => ⟨fun _ => he, ?_⟩)
            obtain ⟨g1, g2, g3⟩ := Xq hdst m.size (hs.tr he.tr) hrep
            exact Za hg hsel hpk hK hQ r s _ _ ob ρ _ w' hrest hcl' hk ⟨m.base.tr he.tr, m.om.ext he, g1, g2, g3.trans m.df, m.xo, m.gl⟩
          · refine I.sound (m.gl.trans hg.symm) hs m.om hy hwp o rfl _ _ (fun v z ob' w' ρ' hk hrep ho' t => ⟨fun hf => ?_, ?_⟩) (fun u z ob' w' ρ' hk hrep ho' t => ?_)
            · rw [← hkd', hky, hk3] at hf; cases hf
            · obtain ⟨g1, g2, g3⟩ := Xq hdst m.size (hs.tr t) hrep
              exact Za hg hsel hpk hK hQ r s _ _ ob' ρ' _ w' hrest hcl' hk ⟨m.base.tr t, ho', g1, g2, g3.trans m.df, t.xo.trans m.xo, t.gl.trans m.gl⟩
            · exact (hQ _ _ _).2 ⟨z, sl', ob', ρ', u, hk, rfl, hrep, m.base.tr t, ho', (hs.tr t).keep pk, m.size, m.df, t.xo.trans m.xo, t.gl.trans m.gl⟩
          · refine I.soundX hs m.om hk4 hy hwp o rfl _ _ (fun v z ob' w' ρ' hk hrep ho' t he => ⟨fun _ => he, ?_⟩)
            obtain ⟨g1, g2, g3⟩ := Xq hdst m.size (hs.tr t) hrep
            exact Za hg hsel hpk hK hQ r s _ _ ob' ρ' _ w' hrest hcl' hk ⟨m.base.tr t, ho', g1, g2, g3.trans m.df, t.xo.trans m.xo, t.gl.trans m.gl⟩
        · rw [hw]
          simp only [Bool.false_eq_true, if_false]
          refine ⟨fun _ => Ext.refl w, ?_⟩
          obtain ⟨g1, g2, g3⟩ := Xq hdst m.size hs (Zh.2 rfl)
          exact Za hg hsel hpk hK hQ r s _ _ ob ρ _ w hrest hcl' hwp ⟨m.base, m.om, g1, g2, g3.trans m.df, m.xo, m.gl⟩
      have hkl : y.kind = 0 ∨ y.kind = 1 ∨ y.kind = 2 ∨ y.kind = 3 ∨ y.kind = 4 := by
        cases y with
        | c cc => simp only [I.kind]; split <;> simp
        | _ => simp [I.kind]
      have hcc : ∀ n, (n = 0 ∨ n = 1) → y.kind = n → (∃ cc, y = .c cc) ∧ ∀ cc, y = .c cc → cc.isLd = (n == 1) := by
        intro n hn hyn
        cases y with
        | c cc =>
          refine ⟨⟨cc, rfl⟩, fun c' e => ?_⟩
          cases e
          simp only [I.kind] at hyn
          cases hl : cc.isLd <;> simp [hl] at hyn <;> subst hyn <;> rfl
        | _ => simp [I.kind] at hyn; subst hyn; simp at hn
      rcases hkl with h0 | h1 | h2 | h3 | h4
      · rw [hky, h0] at hkind
        obtain ⟨c1, c2⟩ := hcc 0 (.inl rfl) h0
        exact first false (fun cc e => by simpa using c2 cc e) c1 hkind (by simp)
      · rw [hky, h1] at hkind
        simp only [Bool.and_eq_true] at hkind
        obtain ⟨c1, c2⟩ := hcc 1 (.inr rfl) h1
        refine first true (fun cc e => by simpa using c2 cc e) c1 hkind.1 (fun _ j hj hk3 hne => ⟨ops.size, ?_⟩)
        have := List.all_eq_true.1 hkind.2 j (by simpa using hj)
        have hk3' : kd j = 3 := by simpa using hk3
        simpa [hk3', hne] using this
      · rw [hky, h2] at hkind
        exact alone (by simpa using hkind) (.inl h2)
      · rw [hky, h3] at hkind
        exact alone (by simpa using hkind) (.inr (.inl h3))
      · rw [hky, h4] at hkind
        exact alone (by simpa using hkind) (.inr (.inr h4))
  | [], _ :: _, _, _, _, _, _, _, hc, _, _, _ => by simp [Xj1] at hc
  | _ :: _, [], _, _, _, _, _, _, hc, _, _, _ => by simp [Xj1] at hc

theorem Xm0 {P : Prg} {c : Ctx} (hg : P.g = c.g) {xo : Nat → Prop} {ops : Array Oper} {Q : Exit → Act → World → Prop} {QP : W7} {pk : List Nat} {next : Xc → Objs → Prop} {i : Nat} {o : Oper} {x : It} {sl : Xc} {ob : Objs} {ρ : Env} {a : Act} {w : World} {N : Act → World → Prop}
    (hQ : ∀ ch a w, Q (.panic ch) a w ↔ Xdb c xo pk QP ch a w) (ho : ops[i]? = some o) (hx : x.chk P.p c.N ops o = true) (h : itK P next (fun v sl ob => QP (.panic v) (Xi sl pk) ob) x sl ob) (m : Mod c xo ρ sl ob a w)
    (hN : ∀ sl' ob' ρ' a' w', next sl' ob' → Mod c xo ρ' sl' ob' a' w' → N a' w') : wpOp P.p ops Q i (fun a' w' => (x.kind ≠ 3 → Ext w w') ∧ N a' w') a w := by
  have hd : ∃ (d : Option Nat) (y : I), Xas c.N o.dst d = true ∧ y.chk P.p o.op = true ∧ x.kind = y.kind ∧
      ((Region.wanted o (yielded ops a.tmps) = true ∧ ∃ sl', SM w ρ sl' a ∧ y.wp P sl' ob (fun v ob' => next (put sl' d v) ob') (fun v ob' => QP (.panic v) (Xi sl' pk) ob')) ∨
       (Region.wanted o (yielded ops a.tmps) = false ∧ ∃ sl', SM w ρ sl' a ∧ next (put sl' d .undef) ob)) := by
    cases x with
    | op d y =>
      simp only [It.chk, Bool.and_eq_true, Option.isNone_iff_eq_none] at hx
      exact ⟨d, y, hx.1.1, hx.2, rfl, .inl ⟨by simp [Region.wanted, hx.1.2], sl, m.sm, h⟩⟩
    | gop g want d y =>
      simp only [It.chk, Bool.and_eq_true] at hx
      simp only [itK] at h
      exact ⟨d, y, hx.1.1, hx.2, rfl, Zw (ops := ops) m.sm hx.1.2 h⟩
  obtain ⟨d, y, hdst, hy, hky, hways⟩ := hd
  unfold wpOp
  simp only [ho]
  rcases hways with ⟨hw, sl', hs, hwp⟩ | ⟨hw, sl', hs, hwp⟩
  · rw [if_pos hw]
    refine .inl ?_
    by_cases hk3 : y.kind = 3
    · refine I.sound (m.gl.trans hg.symm) hs m.om hy hwp o rfl _ _ (fun v z ob' w' ρ' hk hrep ho' t => ⟨fun hf => ?_, ?_⟩) (fun u z ob' w' ρ' hk hrep ho' t => ?_)
      · rw [hky] at hf; exact absurd hk3 hf
      · obtain ⟨g1, g2, g3⟩ := Xq hdst m.size (hs.tr t) hrep
        exact hN _ ob' ρ' _ w' hk ⟨m.base.tr t, ho', g1, g2, g3.trans m.df, t.xo.trans m.xo, t.gl.trans m.gl⟩
      · exact (hQ _ _ _).2 ⟨z, sl', ob', ρ', u, hk, rfl, hrep, m.base.tr t, ho', (hs.tr t).keep pk, m.size, m.df, t.xo.trans m.xo, t.gl.trans m.gl⟩
    · by_cases hk2 : y.kind = 2
      · refine I.soundE (m.gl.trans hg.symm) hs m.om hk2 hy hwp o rfl _ _ (fun v z w' hk hrep he => ⟨fun _ => he, ?_⟩)
        obtain ⟨g1, g2, g3⟩ := Xq hdst m.size (hs.tr he.tr) hrep
        exact hN _ ob ρ _ w' hk ⟨m.base.tr he.tr, m.om.ext he, g1, g2, g3.trans m.df, m.xo, m.gl⟩
      · by_cases hk4 : y.kind = 4
        · refine I.soundX hs m.om hk4 hy hwp o rfl _ _ (fun v z ob' w' ρ' hk hrep ho' t he => ⟨fun _ => he, ?_⟩)
          obtain ⟨g1, g2, g3⟩ := Xq hdst m.size (hs.tr t) hrep
          exact hN _ ob' ρ' _ w' hk ⟨m.base.tr t, ho', g1, g2, g3.trans m.df, t.xo.trans m.xo, t.gl.trans m.gl⟩
        cases y with
        | c cc =>
          simp only [I.wp] at hwp
          obtain ⟨v, z, hk, hrep, hrun⟩ := C.sound hs m.om hy hwp
          obtain ⟨g1, g2, g3⟩ := Xq hdst m.size hs hrep
          unfold Oper.wp
          rw [hrun o rfl w (fun _ => Ext.refl w)]
          exact ⟨fun _ => Ext.refl w, hN _ ob ρ _ w hk ⟨m.base, m.om, g1, g2, g3.trans m.df, m.xo, m.gl⟩⟩
        | _ => exfalso; simp [I.kind] at hk2 hk3 hk4
  · rw [hw]
    simp only [Bool.false_eq_true, if_false]
    refine ⟨fun _ => Ext.refl w, ?_⟩
    obtain ⟨g1, g2, g3⟩ := Xq hdst m.size hs (Zh.2 rfl)
    exact hN _ ob ρ _ w hwp ⟨m.base, m.om, g1, g2, g3.trans m.df, m.xo, m.gl⟩

theorem Z3 {P : Prg} {c : Ctx} (hg : P.g = c.g) {xo : Nat → Prop} {ops : Array Oper} {Q : Exit → Act → World → Prop} {QP : W7} {pk : List Nat} {K : Xc → Objs → Prop} {kd : Nat → Nat}
    (hsel : Region.noSelect ops = true) (hpk : Xbt pk ops = true)
    (hK : ∀ sl ob ρ a w, K sl ob → Mod c xo ρ sl ob a w → Q .normal a w)
    (hQ : ∀ ch a w, Q (.panic ch) a w ↔ Xdb c xo pk QP ch a w) :
    ∀ (n : Nat) (t : Ot) (listed : Array Bool) (sl : Xc) (ob : Objs) (ρ : Env) (a : Act) (w : World), V1 P.p c.N ops kd n listed t = true → Xba .any ops listed →
      owp P K (fun v sl ob => QP (.panic v) (Xi sl pk) ob) t sl ob → Mod c xo ρ sl ob a w → Wt P.p .any ops Q Ext (fun j => kd j == 3) n listed a w
  | 0, .done, listed, sl, ob, ρ, a, w, hc, _, h, m => by
    simp only [V1] at hc
    simp only [owp] at h
    simp only [Wt]
    exact ⟨by simpa using hc, hK sl ob ρ a w h m⟩
  | n + 1, .br l, listed, sl, ob, ρ, a, w, hc, hcl, h, m => by
    simp only [V1, Bool.and_eq_true, Bool.not_eq_true'] at hc
    obtain ⟨⟨hne, hall⟩, hcs⟩ := hc
    simp only [owp] at h
    simp only [Wt]
    refine ⟨fun h0 => by rw [h0] at hne; simp at hne, fun j hj => ?_⟩
    have hh := List.all_eq_true.1 hall j hj
    obtain ⟨x, r, o, g1, g2, g3, g4, g5⟩ : ∃ x r o, ops[j]? = some o ∧ x.chk P.p c.N ops o = true ∧ x.kind = kd j ∧ V1 P.p c.N ops kd n (listed.setIfInBounds j true) r = true ∧ itK P (owp P K (fun v sl ob => QP (.panic v) (Xi sl pk) ob) r) (fun v sl ob => QP (.panic v) (Xi sl pk) ob) x sl ob := by
      clear hne hall
      revert h hcs hh
      generalize l = l
      intro hh hcs h
      have go : ∀ (l : Ots), l.has j = true → Xe1 P.p c.N ops kd n listed l = true → Xgv P K (fun v sl ob => QP (.panic v) (Xi sl pk) ob) l sl ob → ∃ x r o, ops[j]? = some o ∧ x.chk P.p c.N ops o = true ∧ x.kind = kd j ∧ V1 P.p c.N ops kd n (listed.setIfInBounds j true) r = true ∧ itK P (owp P K (fun v sl ob => QP (.panic v) (Xi sl pk) ob) r) (fun v sl ob => QP (.panic v) (Xi sl pk) ob) x sl ob := by
        intro l
        induction l using Ots.rec (motive_1 := fun _ => True) with
        | nil => intro h; simp [Ots.has] at h
        | cons i x r l _ ih =>
          intro h1 h2 h3
          simp only [Ots.has, Bool.or_eq_true, beq_iff_eq] at h1
          simp only [Xe1, Bool.and_eq_true] at h2
          simp only [Xgv] at h3
          by_cases e : i = j
          · subst e
            obtain ⟨⟨⟨⟨_, hx⟩, hk⟩, hr⟩, _⟩ := h2
            cases ho : ops[i]? with
            | none => simp [ho] at hx
            | some o => simp only [ho] at hx; exact ⟨x, r, o, rfl, hx, by simpa using hk, hr, h3.1⟩
          · exact ih (h1.resolve_left e) h2.2 h3.2
        | done => trivial
        | one i x r _ => trivial
        | br l _ => trivial
      first | exact go _ hh hcs h | exact go _ h hcs hh
    have hst := Xm0 (Q := Q) (N := fun a' w' => Wt P.p .any ops Q Ext (fun j => kd j == 3) n (listed.setIfInBounds j true) a' w') hg hQ g1 g2 g5 m (fun sl' ob' ρ' a' w' hk m' => Z3 hg hsel hpk hK hQ n r _ sl' ob' ρ' a' w' g4 (hcl.step hj) hk m')
    refine wpOp_mono (fun a' w' h' => ⟨fun hf => h'.1 ?_, h'.2⟩) hst
    rw [g3]; intro e; simp [e] at hf
  | n + 1, .one i x r, listed, sl, ob, ρ, a, w, hc, hcl, h, m => by
    simp only [V1, Bool.and_eq_true] at hc
    obtain ⟨⟨⟨⟨hr, hx⟩, hkd⟩, hkind⟩, hrest⟩ := hc
    have hr' : i ∈ Region.ready .any ops listed := by simpa using hr
    simp only [owp] at h
    cases ho : ops[i]? with
    | none => simp [ho] at hx
    | some o =>
      simp only [ho] at hx
      have hkd' : x.kind = kd i := by simpa using hkd
      have hcl' := hcl.step hr'
      -- the only one that may come up
      have alone : Region.ready .any ops listed = [i] → Wt P.p .any ops Q Ext (fun j => kd j == 3) (n + 1) listed a w := by
        intro hra
        refine ⟨fun h0 => (by rw [hra] at h0; cases h0), fun j hj => ?_⟩
        rw [hra] at hj
        simp at hj; subst hj
        have hst := Xm0 (Q := Q) (N := fun a' w' => Wt P.p .any ops Q Ext (fun j => kd j == 3) n (listed.setIfInBounds j true) a' w') hg hQ ho hx h m (fun sl' ob' ρ' a' w' hk m' => Z3 hg hsel hpk hK hQ n r _ sl' ob' ρ' a' w' hrest hcl' hk m')
        refine wpOp_mono (fun a' w' h' => ⟨fun hf => h'.1 ?_, h'.2⟩) hst
        rw [hkd']; intro e; simp [e] at hf
      have hpko : ∀ k, o.dst = some k → k ∉ pk := by
        intro k hk
        have := List.all_eq_true.1 hpk o (by simpa using Array.mem_of_getElem? ho)
        simpa [hk] using this
      have hQo : ∀ v : Value, ∀ ch a w, Q (.panic ch) (a.put o.dst v) w → Q (.panic ch) a w := fun v ch a w hq => (hQ ch a w).2 (Xh5 hpko ((hQ ch _ w).1 hq))
      have hd : ∃ (d : Option Nat) (y : I), Xas c.N o.dst d = true ∧ y.chk P.p o.op = true ∧ x.kind = y.kind ∧
          ((Region.wanted o (yielded ops a.tmps) = true ∧ ∃ sl', SM w ρ sl' a ∧ y.wp P sl' ob (fun v ob' => owp P K (fun v sl ob => QP (.panic v) (Xi sl pk) ob) r (put sl' d v) ob') (fun v ob' => QP (.panic v) (Xi sl' pk) ob')) ∨
           (Region.wanted o (yielded ops a.tmps) = false ∧ ∃ sl', SM w ρ sl' a ∧ owp P K (fun v sl ob => QP (.panic v) (Xi sl pk) ob) r (put sl' d .undef) ob)) := by
        cases x with
        | op d y =>
          simp only [It.chk, Bool.and_eq_true, Option.isNone_iff_eq_none] at hx
          exact ⟨d, y, hx.1.1, hx.2, rfl, .inl ⟨by simp [Region.wanted, hx.1.2], sl, m.sm, h⟩⟩
        | gop g want d y =>
          simp only [It.chk, Bool.and_eq_true] at hx
          simp only [itK] at h
          exact ⟨d, y, hx.1.1, hx.2, rfl, Zw (ops := ops) m.sm hx.1.2 h⟩
      obtain ⟨d, y, hdst, hy, hky, hways⟩ := hd
      have first : ∀ l : Bool, (∀ cc, y = .c cc → cc.isLd = l) → (∃ cc, y = .c cc) → Region.free .any ops listed i = true →
          (l = true → ∀ j, j < ops.size → (kd j == 3) = true → j ≠ i → ∃ fuel, Xbo .any ops i fuel j = true) → Wt P.p .any ops Q Ext (fun j => kd j == 3) (n + 1) listed a w := by
        intro l hld hcc hfree hwt
        obtain ⟨cc, rfl⟩ := hcc
        have hld := hld cc rfl
        rcases hways with ⟨hw, sl', hs, hwp⟩ | ⟨hw, sl', hs, hwp⟩
        · simp only [I.wp] at hwp
          obtain ⟨v, z, hk, hrep, hrun⟩ := C.sound hs m.om hy hwp
          obtain ⟨g1, g2, g3⟩ := Xq hdst m.size hs hrep
          refine W1 (l := l) Ext.refl (fun _ _ _ => Ext.trans) ho (Region.noSelect_spec hsel) (hQo v) hwt _ listed a w hcl (Region.free_spec ho hfree) hr' (.inl ⟨hw, fun w' hw' => hrun o rfl w' (fun e => hw' (by rw [← hld]; exact e))⟩) ?_
          exact Z3 hg hsel hpk hK hQ n r _ _ ob ρ _ w hrest hcl' hk ⟨m.base, m.om, g1, g2, g3.trans m.df, m.xo, m.gl⟩
        · obtain ⟨g1, g2, g3⟩ := Xq hdst m.size hs (Zh.2 rfl)
          refine W1 (l := l) Ext.refl (fun _ _ _ => Ext.trans) ho (Region.noSelect_spec hsel) (hQo undef) hwt _ listed a w hcl (Region.free_spec ho hfree) hr' (.inr ⟨hw, rfl⟩) ?_
          exact Z3 hg hsel hpk hK hQ n r _ _ ob ρ _ w hrest hcl' hwp ⟨m.base, m.om, g1, g2, g3.trans m.df, m.xo, m.gl⟩
      have hcc : ∀ n, (n = 0 ∨ n = 1) → y.kind = n → (∃ cc, y = .c cc) ∧ ∀ cc, y = .c cc → cc.isLd = (n == 1) := by
        intro n hn hyn
        cases y with
        | c cc =>
          refine ⟨⟨cc, rfl⟩, fun c' e => ?_⟩
          cases e
          simp only [I.kind] at hyn
          cases hl : cc.isLd <;> simp [hl] at hyn <;> subst hyn <;> rfl
        | _ => simp [I.kind] at hyn; subst hyn; simp at hn
      have hkl : y.kind = 0 ∨ y.kind = 1 ∨ y.kind = 2 ∨ y.kind = 3 ∨ y.kind = 4 := by
        cases y with
        | c cc => simp only [I.kind]; split <;> simp
        | _ => simp [I.kind]
      rcases hkl with h0 | h1 | h2 | h3 | h4
      · rw [hky, h0] at hkind
        obtain ⟨c1, c2⟩ := hcc 0 (.inl rfl) h0
        exact first false (fun cc e => by simpa using c2 cc e) c1 hkind (by simp)
      · rw [hky, h1] at hkind
        simp only [Bool.and_eq_true] at hkind
        obtain ⟨c1, c2⟩ := hcc 1 (.inr rfl) h1
        refine first true (fun cc e => by simpa using c2 cc e) c1 hkind.1 (fun _ j hj hk3 hne => ⟨ops.size, ?_⟩)
        have := List.all_eq_true.1 hkind.2 j (by simpa using hj)
        have hk3' : kd j = 3 := by simpa using hk3
        simpa [hk3', hne] using this
      · rw [hky, h2] at hkind
        exact alone (by simpa using hkind)
      · rw [hky, h3] at hkind
        exact alone (by simpa using hkind)
      · rw [hky, h4] at hkind
        exact alone (by simpa using hkind)
  | 0, .one _ _ _, _, _, _, _, _, _, hc, _, _, _ => by simp [V1] at hc
  | 0, .br _, _, _, _, _, _, _, hc, _, _, _ => by simp [V1] at hc
  | _ + 1, .done, _, _, _, _, _, _, hc, _, _, _ => by simp [V1] at hc

theorem Xaf {P : Program} {ops : Array Oper} {Q : Exit → Act → World → Prop} {md : Region.Mode} : ∀ (n m : Nat) (listed : Array Bool) (a : Act) (w : World), n ≤ m → wpAny P md ops Q n listed a w → wpAny P md ops Q m listed a w
  | 0, 0, _, _, _, _, h => h
  | 0, m + 1, listed, a, w, _, h => ⟨fun _ => h.2, fun i hi => by rw [h.1] at hi; cases hi⟩
  | n + 1, m + 1, listed, a, w, hle, h => ⟨h.1, fun i hi => wpOp_mono (fun a' w' h' => Xaf n m _ a' w' (by omega) h') (h.2 i hi)⟩
  | n + 1, 0, _, _, _, hle, _ => by omega

theorem Xa3 {p : Nat → Prop} : ∀ n, p n → ∃ m, p m ∧ ∀ k, p k → m ≤ k := by
  intro n
  induction n using Nat.strongRecOn with
  | _ n ih =>
    intro hn
    by_cases h : ∃ k, p k ∧ k < n
    · obtain ⟨k, hk, hlt⟩ := h; exact ih k hlt hk
    · exact ⟨n, hn, fun k hk => Nat.le_of_not_lt fun hlt => h ⟨k, hk, hlt⟩⟩

theorem Yn {P : Prg} (hm : P.p.follows .mixedOrders = true) {c : Ctx} (hg : P.g = c.g) {xo : Nat → Prop} : ∀ (code : Code) (s : S) (Q : W7) (sl : Xc) (ob : Objs) (ρ : Env) (a : Act) (w : World),
    S.chk P.p c.N code s = true → cwp P s Q sl ob → Mod c xo ρ sl ob a w → code.wp P.p (lift c xo Q) a w
  | .skip, s, Q, sl, ob, ρ, a, w, hc, h, m => by
    cases s <;> simp [S.chk] at hc
    exact wp_skip ⟨.normal, sl, ob, ρ, h, trivial, m⟩
  | .region id ops draw, s, Q, sl, ob, ρ, a, w, hc, h, m => by
    cases s <;> simp only [S.chk, Bool.false_eq_true] at hc
    case rgT n t keep pk =>
      simp only [cwp] at h
      simp only [Bool.and_eq_true] at hc
      obtain ⟨⟨⟨⟨hdr, hlen⟩, hsel⟩, hpk⟩, hcan⟩ := hc
      subst hdr
      have hlen : n ≤ ops.size := by simpa using hlen
      let Q' : Exit → Act → World → Prop := fun e a w => match e with
        | .panic ch => Xdb c xo pk Q ch a w
        | e => lift c xo Q e a w
      have hx : Ext w { w with drawn := w.drawn + 1 } := Ext.drew w _
      have key := Z3 (Q := Q') (QP := Q) (K := fun sl ob => Q .normal (Xi sl keep) ob) hg hsel hpk
        (fun sl ob ρ a w hk m => (⟨.normal, _, ob, ρ, hk, trivial, m.base, m.om, m.sm.keep keep, m.size, m.df, m.xo, m.gl⟩ : lift c xo Q .normal a w))
        (fun ch a w => Iff.rfl) n t (Array.replicate ops.size false) sl ob ρ a { w with drawn := w.drawn + 1 } hcan
        (fun k o _ hl => by
          rcases Nat.lt_or_ge k ops.size with h' | h'
          · simp [h'] at hl
          · simp [h'] at hl) h ⟨m.base.tr hx.tr, m.om.ext hx, m.sm.tr hx.tr, m.size, m.df, m.xo, m.gl⟩
      have hany := Xap _ _ _ _ key
      refine wp_mono (wp_region_any hm (Xaf _ _ _ _ _ hlen hany)) (fun e a' w' he => ?_)
      cases e with
      | panic ch =>
        obtain ⟨v, sl', ob', ρ', u, h1, h2, h3, m'⟩ := he
        exact ⟨.panic v, _, ob', ρ', h1, ⟨u, h2, h3⟩, m'⟩
      | _ => exact he
    rename_i ord l keep pk
    simp only [cwp] at h
    cases draw with
    | false =>
      simp only [Bool.false_eq_true, if_false] at hc
      refine wp_region_list (J9 (c := c) (xo := xo) hg (fun sl ob ρ a w hk m => ?_) (fun v sl ob ρ a w u hk m hr => ?_) ops.toList l sl ob ρ a w hc h m)
      · exact ⟨.normal, _, ob, ρ, hk, trivial, m.base, m.om, m.sm.keep keep, m.size, m.df, m.xo, m.gl⟩
      · exact ⟨.panic v, _, ob, ρ, hk, ⟨u, rfl, hr⟩, m.base, m.om, m.sm.keep pk, m.size, m.df, m.xo, m.gl⟩
    | true =>
      simp only [if_true, Bool.and_eq_true] at hc
      obtain ⟨⟨⟨hlen, hsel⟩, hpk⟩, hcan⟩ := hc
      have hlen : ord.length ≤ ops.size := by simpa using hlen
      let Q' : Exit → Act → World → Prop := fun e a w => match e with
        | .panic ch => Xdb c xo pk Q ch a w
        | e => lift c xo Q e a w
      have hx : Ext w { w with drawn := w.drawn + 1 } := Ext.drew w _
      have key := Za (Q := Q') (QP := Q) (K := fun sl ob => Q .normal (Xi sl keep) ob) hg hsel hpk
        (fun sl ob ρ a w hk m => (⟨.normal, _, ob, ρ, hk, trivial, m.base, m.om, m.sm.keep keep, m.size, m.df, m.xo, m.gl⟩ : lift c xo Q .normal a w))
        (fun ch a w => Iff.rfl) ord l (Array.replicate ops.size false) sl ob ρ a { w with drawn := w.drawn + 1 } hcan
        (fun k o _ hl => by
          rcases Nat.lt_or_ge k ops.size with h' | h'
          · simp [h'] at hl
          · simp [h'] at hl) h ⟨m.base.tr hx.tr, m.om.ext hx, m.sm.tr hx.tr, m.size, m.df, m.xo, m.gl⟩
      have hany := Xap _ _ _ _ key
      refine wp_mono (wp_region_any hm (Xaf _ _ _ _ _ hlen hany)) (fun e a' w' he => ?_)
      cases e with
      | panic ch =>
        obtain ⟨v, sl', ob', ρ', u, h1, h2, h3, m'⟩ := he
        exact ⟨.panic v, _, ob', ρ', h1, ⟨u, h2, h3⟩, m'⟩
      | _ => exact he
  | .seq x y, s, Q, sl, ob, ρ, a, w, hc, h, m => by
    cases s <;> simp [S.chk] at hc
    simp only [cwp] at h
    refine wp_seq (wp_mono (Yn hm hg x _ _ sl ob ρ a w hc.1 h m) ?_)
    rintro e a' w' ⟨ae, sl', ob', ρ', hq, he, m'⟩
    cases ae with
    | normal =>
      cases e <;> simp only [exM] at he
      exact Yn hm hg y _ Q sl' ob' ρ' a' w' hc.2 hq m'
    | exit n =>
      cases e <;> simp only [exM] at he
      exact ⟨.exit n, sl', ob', ρ', hq, he, m'⟩
    | ret =>
      cases e <;> simp only [exM] at he
      exact ⟨.ret, sl', ob', ρ', hq, trivial, m'⟩
    | panic v =>
      cases e <;> simp only [exM] at he
      exact ⟨.panic v, sl', ob', ρ', hq, he, m'⟩
  | .cond d x y, s, Q, sl, ob, ρ, a, w, hc, h, m => by
    cases s <;> simp [S.chk] at hc
    obtain ⟨⟨h1, h2⟩, h3⟩ := hc
    simp only [cwp] at h
    have r1 := A.sound m.sm h1
    unfold Xat at h
    split at h
    · rename_i t e
      rw [e, rep_bool] at r1
      exact wp_cond_split r1 (fun ht => Yn hm hg x _ Q sl ob ρ a w h2 (h.1 ht) m) (fun ht => Yn hm hg y _ Q sl ob ρ a w h3 (h.2 ht) m)
    · exact h.elim
  | .block n x, s, Q, sl, ob, ρ, a, w, hc, h, m => by
    cases s <;> simp [S.chk] at hc
    obtain ⟨rfl, h1⟩ := hc
    simp only [cwp] at h
    refine wp_block (wp_mono (Yn hm hg x _ _ sl ob ρ a w h1 h m) ?_)
    rintro e a' w' ⟨ae, sl', ob', ρ', hq, he, m'⟩
    cases ae with
    | normal =>
      cases e <;> simp only [exM] at he
      exact ⟨.normal, sl', ob', ρ', hq, trivial, m'⟩
    | exit k =>
      cases e <;> simp only [exM] at he
      subst he
      simp only [W3] at hq
      simp only [Exit.inBlock]
      split
      · rename_i e; rw [if_pos e] at hq; exact ⟨.normal, sl', ob', ρ', hq, trivial, m'⟩
      · rename_i e; rw [if_neg e] at hq; exact ⟨.exit _, sl', ob', ρ', hq, rfl, m'⟩
    | ret =>
      cases e <;> simp only [exM] at he
      exact ⟨.ret, sl', ob', ρ', hq, trivial, m'⟩
    | panic v =>
      cases e <;> simp only [exM] at he
      exact ⟨.panic v, sl', ob', ρ', hq, he, m'⟩
  | .loop x, s, Q, sl, ob, ρ, a, w, hc, h, m => by
    cases s <;> simp [S.chk] at hc
    simp only [cwp] at h
    obtain ⟨ι, St, Ot, I, μ, i0, hi0, he0, he1, hstep⟩ := h.run
    let G : Act → World → Nat → Prop := fun a w n => ∃ i ρ, I i ∧ μ i = n ∧ Mod c xo ρ (St i) (Ot i) a w
    let M : Act → World → Nat := fun a w => open Classical in if h : ∃ n, G a w n then Classical.choose (Xa3 (p := G a w) (Classical.choose h) (Classical.choose_spec h)) else 0
    have hM : ∀ a w n, G a w n → G a w (M a w) ∧ M a w ≤ n := by
      intro a w n hn
      have hex : ∃ n, G a w n := ⟨n, hn⟩
      have := Classical.choose_spec (Xa3 (p := G a w) (Classical.choose hex) (Classical.choose_spec hex))
      simp only [M, hex, dif_pos]
      exact ⟨this.1, this.2 n hn⟩
    refine wp_loop (I := fun a w => ∃ n, G a w n) (μ := M) ⟨μ i0, i0, ρ, hi0, rfl, by rw [← he0, ← he1]; exact ⟨m.base, m.om, m.sm.keep _, m.size, m.df, m.xo, m.gl⟩⟩ ?_
    rintro a1 w1 ⟨n, hn⟩
    obtain ⟨⟨i, ρ1, hi, hmu, m1⟩, _⟩ := hM a1 w1 n hn
    refine wp_mono (Yn hm hg x _ _ _ _ ρ1 a1 w1 hc (hstep i hi) m1) ?_
    rintro e a' w' ⟨ae, sl', ob', ρ', hq, he, m'⟩
    cases ae with
    | normal =>
      cases e <;> simp only [exM] at he
      simp only [Ub] at hq
      obtain ⟨drp, q1, q2, j, hj, hlt, hSj, hOj⟩ := hq
      have hold1 : ∀ id o, ρ1.m id = some o → young (fresh (Ot i)) drp id = false := fun id o h0 => by
        obtain ⟨x, hx⟩ := m1.om.dom id o h0
        have hlt : ¬ fresh (Ot i) ≤ id := fun hle => by rw [Yd _ _ hle] at hx; cases hx
        simp [young, hlt]
      have hold : ∀ id o, c.m0 id = some o → young (fresh (Ot i)) drp id = false := fun id o h0 => by
        obtain ⟨o', h1, _⟩ := m1.base.same id o h0
        exact hold1 id o' h1
      have hev : ∀ p ∈ c.ev, V.men (young (fresh (Ot i)) drp) p.1 = false := fun p hp => V.men_temp hold1 (m1.base.ext p hp)
      have hg : G a' w' (μ j) := ⟨j, _, hj, rfl, by rw [← hSj, ← hOj]; exact m'.sub hold hev q1 q2⟩
      have := hM a' w' _ hg
      exact ⟨⟨_, hg⟩, by omega⟩
    | exit k =>
      cases e <;> simp only [exM] at he
      exact ⟨.exit k, sl', ob', ρ', hq, he, m'⟩
    | ret =>
      cases e <;> simp only [exM] at he
      exact ⟨.ret, sl', ob', ρ', hq, trivial, m'⟩
    | panic v =>
      cases e <;> simp only [exM] at he
      exact ⟨.panic v, sl', ob', ρ', hq, he, m'⟩
  | .exit n, s, Q, sl, ob, ρ, a, w, hc, h, m => by
    cases s <;> simp [S.chk] at hc
    subst hc
    exact wp_exit ⟨.exit n, sl, ob, ρ, h, rfl, m⟩
  | .ret, s, Q, sl, ob, ρ, a, w, hc, h, m => by
    cases s <;> simp [S.chk] at hc
    exact wp_ret ⟨.ret, sl, ob, ρ, h, trivial, m⟩
  | .rangeFunc _ _ _ _, s, Q, sl, ob, ρ, a, w, hc, h, m => by cases s <;> simp [S.chk] at hc
  | .scope _, s, Q, sl, ob, ρ, a, w, hc, h, m => by cases s <;> simp [S.chk] at hc
  | .label _, s, Q, sl, ob, ρ, a, w, hc, h, m => by cases s <;> simp [S.chk] at hc
  | .goto _, s, Q, sl, ob, ρ, a, w, hc, h, m => by cases s <;> simp [S.chk] at hc
  | .refuse _, s, Q, sl, ob, ρ, a, w, hc, h, m => by cases s <;> simp [S.chk] at hc
end Go.Ab
/- Functions: what is shown of a body is a fact on the call. Over any program; no condition. -/
namespace Go.Ab
open Go

inductive RV where
 | t (k : Nat)
 | c (k n : Nat) (ag : Bool)

def RV.chk (P : Program) : ResultVar → RV → Bool
 | .tmp j, .t k => j == k
 | .cell a ty, .c k n ag => a == k && X8 P ty == some n && (P.underlying ty).isSome && agT P ty == ag
 | _, _ => false
def Qf (P : Program) : List ResultVar → List RV → Bool
 | [], [] => true
 | x :: r, y :: s => y.chk P x && Qf P r s
 | _, _ => false

def RV.wp (sl : Xc) (ob : Objs) (K : V → Prop) : RV → Prop
 | .t k => K (look sl k)
 | .c k n ag => ldK ob n ag K (look sl k)
def W8 (sl : Xc) (ob : Objs) : List RV → (List V → Prop) → Prop
 | [], K => K []
 | x :: r, K => x.wp sl ob fun v => W8 sl ob r fun vs => K (v :: vs)

def V2 : List V → V
 | [v] => v
 | vs => .tup vs

def Ww (K : List D → Objs → Prop) : Option (List D × Objs) → Prop
 | some (l, ob) => K l ob
 | none => False

def Xci (rs : List RV) (K : V → Prop) : W7
 | .normal, sl, ob => W8 sl ob rs fun vs => Ww (fun l _ => K (V2 (l.map .d))) (V.givs ob vs)
 | .ret, sl, ob => W8 sl ob rs fun vs => Ww (fun l _ => K (V2 (l.map .d))) (V.givs ob vs)
 | .exit _, _, _ => False
 | .panic _, _, _ => False

def gvO (v : V) (ob : Objs) (K : V → Objs → Prop) : Option (D × Objs) → Prop
 | some (d, ob') => K (.d d) ob'
 | none => K v ob
def Xey : List V → Objs → (List V → Objs → Prop) → Prop
 | [], ob, K => K [] ob
 | v :: r, ob, K => gvO v ob (fun v' ob' => Xey r ob' fun vs ob'' => K (v' :: vs) ob'') (V.giv ob v)
def Ys (n : Nat) (K : Objs → Prop) (vs : List V) (ob : Objs) : Prop :=
 ∃ kp : List Nat, V.mens (young n kp) vs = false ∧ noMenO (young n kp) (Z6 (young n kp) ob) = true ∧ K (Z6 (young n kp) ob)
def Xgb (n : Nat) (rs : List RV) (K : Out → Objs → Prop) : W7
 | .normal, sl, ob => W8 sl ob rs fun vs => Xey vs ob fun vs ob => Ys n (K (.ret (V2 vs))) vs ob
 | .ret, sl, ob => W8 sl ob rs fun vs => Xey vs ob fun vs ob => Ys n (K (.ret (V2 vs))) vs ob
 | .panic v, _, ob => Ys n (K (.panic v)) [v] ob
 | .exit _, _, _ => False

def J2 (k : Nat) : List V → Xc
 | [] => []
 | v :: r => (k, v) :: J2 (k + 1) r

def X1 (P : Program) (f n : Nat) (s : S) (rs : List RV) : Bool := match P.funcs[f]? with
 | some fn => match fn.body with
  | some code => decide (n ≤ fn.ntmps) && S.chk P fn.ntmps code s && Qf P fn.results.toList rs
  | none => false
 | none => false

section
variable {P : Program} {w : World} {ρ : Env}

def Xdy (a : Act) (r : ResultVar) : Sem Value := match r with
 | .tmp t => pure (a.tmps.getD t undef)
 | .cell x t => do loadVar t (← asAddr (a.tmps.getD x undef))

theorem Xhd {a : Act} {sl : Xc} {ob : Objs} (hs : SM w ρ sl a) (hO : OM w ρ ob) : ∀ (xs : List ResultVar) (rs : List RV) (K : List V → Prop), Qf P xs rs = true → W8 sl ob rs K →
  ∃ vs us, K vs ∧ V.reps w ρ vs us ∧ (xs.mapM (Xdy a)).run P w = .ok us w
 | [], [], K, _, h => ⟨[], [], h, by simp [V.reps], by simp⟩
 | x :: r, y :: s, K, hc, h => by
  simp only [Qf, Bool.and_eq_true] at hc
  simp only [W8] at h
  have one : ∃ v u, W8 sl ob s (fun vs => K (v :: vs)) ∧ v.rep w ρ u ∧ (Xdy a x).run P w = .ok u w := by
   cases x with
   | tmp t =>
    cases y with
    | t k => simp [RV.chk] at hc; obtain ⟨rfl, _⟩ := hc; exact ⟨_, _, h, hs t, by simp [Xdy]⟩
    | c k n ag => simp [RV.chk] at hc
   | cell z t =>
    cases y with
    | t k => simp [RV.chk] at hc
    | c k n ag =>
     simp only [RV.chk, Bool.and_eq_true, beq_iff_eq] at hc
     obtain ⟨⟨⟨⟨rfl, h1⟩, h2⟩, h3⟩, _⟩ := hc
     simp only [RV.wp] at h
     obtain ⟨v, y, hK, hr, hrun⟩ := Xb0 (P := P) (a := a) (n := n) (ag := ag) (x := .t z) (op := .load t (.tmp z)) hs hO (by simp [C.chk, h1, h2, h3, A.chk]) (by simpa [A.ev] using h)
     refine ⟨y, v, hK, hr, ?_⟩
     have := hrun ⟨none, .load t (.tmp z), 0, "", #[], none⟩ rfl w (fun _ => Ext.refl w)
     simp only [execOp, Act.eval, Sem.run_bind, Instr.loadAt] at this
     simp only [Xdy, Sem.run_bind]
     generalize hv : a.tmps.getD z undef = pv at *
     cases pv with
     | pointer ad =>
      cases ad with
      | none => simp [Instr.sureAddr] at this
      | some ad =>
       simp only [Instr.sureAddr, Sem.run_pure, Result.andThen_ok] at this
       simp only [asAddr, Sem.run_pure, Result.andThen_ok]
       revert this
       generalize (loadVar t ad).run P w = res
       intro this
       cases res with
       | ok x w' => simp at this; obtain ⟨rfl, rfl⟩ := this; rfl
       | halt x w' => simp at this
     | _ => simp [Instr.sureAddr] at this
  obtain ⟨v, u, h1, h2, h3⟩ := one
  obtain ⟨vs, us, k, h4, h5⟩ := Xhd hs hO r s _ hc.2 h1
  refine ⟨v :: vs, u :: us, k, ?_, ?_⟩
  ·simp only [V.reps]; exact ⟨u, us, rfl, h2, h4⟩
  ·simp only [List.mapM_cons, Sem.run_bind, h3, Result.andThen_ok, h5, Sem.run_pure]
 | [], _ :: _, _, hc, _ => by simp [Qf] at hc
 | _ :: _, [], _, hc, _ => by simp [Qf] at hc

def Xq1 : List Value → Value
 | [u] => u
 | us => .tuple us.toArray

theorem Vt {fn : Func} {a : Act} {sl : Xc} {ob : Objs} {rs : List RV} {K : List V → Prop} (hs : SM w ρ sl a) (hO : OM w ρ ob) (hc : Qf P fn.results.toList rs = true) (h : W8 sl ob rs K) :
  ∃ vs us, K vs ∧ V.reps w ρ vs us ∧ (results fn a.tmps).run P w = .ok (Xq1 us) w := by
 obtain ⟨vs, us, k, h1, h2⟩ := Xhd (P := P) hs hO _ _ _ hc h
 refine ⟨vs, us, k, h1, ?_⟩
 have h3 : (fn.results.mapM (Xdy a)).run P w = .ok us.toArray w := by
  rw [Array.mapM_eq_mapM_toList]
  simp only [Sem.run_map, h2, Result.andThen_ok]
 have h4 : results fn a.tmps = (fn.results.mapM (Xdy a) >>= fun vs => pure (if h : vs.size = 1 then vs[0] else .tuple vs)) := rfl
 rw [h4, Sem.run_bind]
 simp only [h3, Result.andThen_ok, Sem.run_pure]
 congr 1
 cases us with
 | nil => simp [Xq1]
 | cons u r =>
  cases r with
  | nil => simp [Xq1]
  | cons u' r' => simp [Xq1]

theorem Jp {vs : List V} {us : List Value} (h : V.reps w ρ vs us) : (V2 vs).rep w ρ (Xq1 us) := by
 cases vs with
 | nil =>
  simp only [V.reps] at h; subst h
  rw [show V2 [] = .tup [] from rfl, rep_tup]; exact ⟨[], rfl, by simp [V.reps]⟩
 | cons v r =>
  simp only [V.reps] at h
  obtain ⟨u, us', rfl, h1, h2⟩ := h
  cases r with
  | nil => simp only [V.reps] at h2; subst h2; exact h1
  | cons v' r' =>
   have h2' := h2
   simp only [V.reps] at h2
   obtain ⟨u', us'', rfl, h3, h4⟩ := h2
   show (V.tup _).rep w ρ _
   rw [rep_tup]
   refine ⟨_, rfl, ?_⟩
   simp only [V.reps]
   exact ⟨u, _, rfl, h1, u', us'', rfl, h3, h4⟩

theorem Xam : ∀ (vs : List V) (us : List Value) {ρ : Env} {ob ob' : Objs} {l : List D}, OM w ρ ob → V.reps w ρ vs us → V.givs ob vs = some (l, ob') → ∃ ρ', Tr w ρ w ρ' ∧ OM w ρ' ob' ∧ V.reps w ρ' (l.map .d) us
 | [], us, ρ, ob, ob', l, hO, h, e => by
  simp only [V.givs, Option.some.injEq, Prod.mk.injEq] at e
  obtain ⟨rfl, rfl⟩ := e
  exact ⟨ρ, Tr.refl _ _, hO, by simpa only [List.map_nil, V.reps] using h⟩
 | x :: r, us, ρ, ob, ob', l, hO, h, e => by
  simp only [V.givs] at e
  simp only [V.reps] at h
  obtain ⟨u, us', rfl, h1, h2⟩ := h
  split at e
  ·rename_i dd ob1 hg
   obtain ⟨ρ1, t1, o1, hr⟩ := Xb1 hO (u := u) h1 hg
   cases hg2 : V.givs ob1 r with
   | none => simp [hg2, Xfn] at e
   | some q =>
    obtain ⟨l2, ob2⟩ := q
    simp only [hg2, Xfn, Option.some.injEq, Prod.mk.injEq] at e
    obtain ⟨rfl, rfl⟩ := e
    obtain ⟨ρ2, t2, o2, hr2⟩ := Xam r us' o1 (V.reps_tr t1 _ _ h2) hg2
    exact ⟨ρ2, t1.trans t2, o2, by simp only [List.map_cons, V.reps]; exact ⟨u, us', rfl, V.rep_tr t2 hr, hr2⟩⟩
  ·cases e
theorem Xc9 : ∀ (vs : List V) (us : List Value) {ρ : Env} {ob : Objs} {K : List V → Objs → Prop}, OM w ρ ob → V.reps w ρ vs us → Xey vs ob K → ∃ vs' ob' ρ', K vs' ob' ∧ Tr w ρ w ρ' ∧ OM w ρ' ob' ∧ V.reps w ρ' vs' us
 | [], us, ρ, ob, K, hO, h, e => by
  simp only [Xey] at e
  exact ⟨[], ob, ρ, e, Tr.refl _ _, hO, h⟩
 | x :: r, us, ρ, ob, K, hO, h, e => by
  simp only [Xey] at e
  simp only [V.reps] at h
  obtain ⟨u, us', rfl, h1, h2⟩ := h
  cases hg : V.giv ob x with
  | none =>
   simp only [hg, gvO] at e
   obtain ⟨vs', ob', ρ', k, t, o, hr⟩ := Xc9 r us' hO h2 e
   exact ⟨_, ob', ρ', k, t, o, by simp only [V.reps]; exact ⟨u, us', rfl, V.rep_tr (u := u) t h1, hr⟩⟩
  | some q =>
   obtain ⟨dd, ob1⟩ := q
   simp only [hg, gvO] at e
   obtain ⟨ρ1, t1, o1, hr⟩ := Xb1 hO (u := u) h1 hg
   obtain ⟨vs', ob', ρ', k, t, o, hr2⟩ := Xc9 r us' o1 (V.reps_tr t1 _ _ h2) e
   exact ⟨_, ob', ρ', k, t1.trans t, o, by simp only [V.reps]; exact ⟨u, us', rfl, V.rep_tr t hr, hr2⟩⟩

theorem Jq {vs : List V} {us : List Value} (h : V.reps w ρ vs us) : ∀ (k : Nat) (t : Array Value), (∀ i (hi : i < us.length), t.getD (k + i) undef = us[i]) → ∀ j, (look (J2 k vs) j).rep w ρ (t.getD j undef) := by
 induction vs generalizing us with
 | nil => intro k t _ j; exact Xf1
 | cons v r ih =>
  simp only [V.reps] at h
  obtain ⟨u, us', rfl, h1, h2⟩ := h
  intro k t ht j
  simp only [J2, look]
  split
  ·rename_i e; subst e
   have := ht 0 (by simp)
   simp only [Nat.add_zero, List.getElem_cons_zero] at this
   rw [this]; exact h1
  ·refine ih h2 (k + 1) t (fun i hi => ?_) j
   have := ht (i + 1) (by simpa using hi)
   simp only [List.getElem_cons_succ] at this
   rw [← this]; congr 1; omega

theorem Uk {ρ1 : Env} (mo : Xgt w (own ρ) w (own ρ1)) : ∀ (vs : List V) (us : List Value) (ds : List D), vs = ds.map .d → V.reps w ρ vs us → V.reps w ρ1 vs us
 | [], us, ds, _, h => by simpa [V.reps] using h
 | v :: r, us, [], e, h => by simp at e
 | v :: r, us, d :: ds, e, h => by
  simp only [List.map_cons, List.cons.injEq] at e
  obtain ⟨rfl, e⟩ := e
  simp only [V.reps] at h ⊢
  obtain ⟨u, us', rfl, h1, h2⟩ := h
  refine ⟨u, us', rfl, ?_, Uk mo r us' ds e h2⟩
  rcases h1 with h1 | ⟨p, x, q, r⟩ | ⟨p, r⟩
  ·cases h1
  ·exact .inr (.inl ⟨p, x, q, by simp only [V.repC] at r ⊢; exact D.rep_mono mo d x r⟩)
  ·exact .inr (.inr ⟨p, by simp only [V.repC] at r ⊢; exact D.rep_mono mo d _ r⟩)

theorem Zx : ∀ {vs : List V} {us : List Value}, V.reps w ρ vs us → us.length = vs.length
 | [], us, h => by simp [V.reps] at h; simp [h]
 | v :: r, us, h => by
  simp only [V.reps] at h
  obtain ⟨u, us', rfl, _, h2⟩ := h
  simp [Zx h2]

theorem Xd2 {P : Prg} (hm : P.p.follows .mixedOrders = true) {f : Nat} {s : S} {rs : List RV} {ds : List D} {ob0 : Objs} {K : V → Prop} (hc : X1 P.p f ds.length s rs = true)
  (h : cwp P s (Xci rs K) (J2 0 (ds.map .d)) []) : PCall P f (ds.map .d) ob0 K := by
 unfold X1 at hc
 split at hc
 ·rename_i fn hf
  split at hc
  ·rename_i code hb
   simp only [Bool.and_eq_true, decide_eq_true_eq] at hc
   obtain ⟨⟨hn, h1⟩, h2⟩ := hc
   refine ⟨fun w ρ args hO hg hr => calls_of_wp hf hb ?_⟩
   let ρ0 : Env := ⟨fun _ => none, own ρ, ρ.gl⟩
   let c : Ctx := ⟨w, fun _ => False, fn.ntmps, [], P.g, fun _ => none, []⟩
   have hnone : ∀ b, ¬ Xna ρ0 b := fun b ⟨_, _, h, _⟩ => by cases h
   have hlt : ∀ b, own ρ b → b < w.heap.size := fun b h => h.elim (fun ⟨_, _, h1, h2⟩ => Qk hO h1 h2) (hO.xlt b)
   have mo : Xgt w (own ρ) w (own ρ0) := fun b h1 _ => ⟨rfl, fun h2 => h2.elim (hnone b) h1⟩
   have hr0 := Uk mo _ _ ds rfl hr
   have hlen : args.length = ds.length := by simpa using Zx hr
   have m : Mod c (own ρ) ρ0 (J2 0 (ds.map .d)) [] { tmps := args.toArray ++ Array.replicate (fn.ntmps - args.toArray.size) undef, defers := [] } w := by
    refine ⟨⟨Nat.le_refl _, fun _ _ _ => rfl, fun b h => absurd h (hnone b), rfl, rfl, rfl, (fun id o h => by cases h), (fun p hp => by cases hp)⟩, ⟨fun j x hx => (by simp [lookO] at hx), fun j o hj => (by cases hj), fun i j o p b hi => (by cases hi), fun b hb => hlt b hb, fun b o hb => ⟨(hO.glb b o hb).1, fun h => h.elim (hnone b) (hO.glb b o hb).2⟩, fun b hb => absurd hb (hnone b), trivial⟩, ?_, ?_, rfl, rfl, hg⟩
    ·refine Jq hr0 0 _ (fun i hi => ?_)
     simp [Array.getElem?_append, hi]
    ·simp [c]; omega
   refine wp_mono (Yn hm rfl code s _ _ _ ρ0 _ w h1 h m) ?_
   rintro e a' w' ⟨ae, sl', ob', ρ', hq, he, m'⟩
   have hfin : W8 sl' ob' rs (fun vs => Ww (fun l _ => K (V2 (l.map .d))) (V.givs ob' vs)) → a'.defers = [] ∧ ∃ v, (results fn a'.tmps).run P.p w' = .ok v w' ∧ ∃ x u, K x ∧ Ending.returned v = .returned u ∧ x.rep w' ρ u ∧ Ext w w' := by
    intro hq
    obtain ⟨vs, us, hk, hrep, hrun⟩ := Vt (P := P.p) (fn := fn) m'.sm m'.om h2 hq
    cases hgv : V.givs ob' vs with
    | none => simp [hgv, Ww] at hk
    | some q =>
     obtain ⟨l, ob2⟩ := q
     simp only [hgv, Ww] at hk
     obtain ⟨ρ2, t2, o2, hr2⟩ := Xam vs us m'.om hrep hgv
     have mo2 : Xgt w' (own ρ2) w' (own ρ) := fun b h1 _ => ⟨rfl, fun h2 => h1 (.inr (by rw [t2.xo, m'.xo]; exact h2))⟩
     have hrep' := Uk mo2 _ _ l rfl hr2
     have hext : Ext w w' := ⟨m'.base.size, fun b hb => m'.base.keep b hb (fun h => h), m'.base.tape, m'.base.os, m'.base.out⟩
     exact ⟨m'.df, Xq1 us, hrun, V2 (l.map .d), Xq1 us, hk, rfl, Jp hrep', hext⟩
   cases ae with
   | normal =>
    cases e <;> simp only [exM] at he
    exact hfin hq
   | ret =>
    cases e <;> simp only [exM] at he
    exact hfin hq
   | exit n => exact hq.elim
   | panic v => exact hq.elim
  ·simp at hc
 ·simp at hc

theorem Xhx {ids : Nat → Bool} {vs : List V} {us : List Value} (hm : V.mens ids vs = false) (h : V.reps w ρ vs us) : V.reps w (ρ.del ids) vs us := V.reps_del vs us hm h

def Ob.noMen (ids : Nat → Bool) : Ob → Prop
 | .box _ t => V.men ids t = false
 | .vec _ _ xs => V.mens ids xs = false
 | .map es => Qa ids es = false
 | _ => True
theorem Wr {ids : Nat → Bool} : ∀ (ob : Objs), (∀ e ∈ ob, e.2.noMen ids) → noMenO ids ob = true
 | [], _ => rfl
 | (j, .box E t) :: r, h => by
  simp only [noMenO, Bool.and_eq_true, Bool.not_eq_true']
  exact ⟨h (j, .box E t) (by simp), Wr r fun e he => h e (by simp [he])⟩
 | (j, .vec E z t) :: r, h => by
  simp only [noMenO, Bool.and_eq_true, Bool.not_eq_true']
  exact ⟨h (j, .vec E z t) (by simp), Wr r fun e he => h e (by simp [he])⟩
 | (j, .map t) :: r, h => by
  simp only [noMenO, Bool.and_eq_true, Bool.not_eq_true']
  exact ⟨h (j, .map t) (by simp), Wr r fun e he => h e (by simp [he])⟩
 | (j, .arr _ _ _) :: r, h => by simp only [noMenO]; exact Wr r fun e he => h e (by simp [he])
 | (j, .gone) :: r, h => by simp only [noMenO]; exact Wr r fun e he => h e (by simp [he])
theorem Xg8 {ids : Nat → Bool} (hd : ∀ id o, ρ.m id = some o → ids id = false) : ∀ (l : List (D × V)) (es : List MapEntry), Y2 w ρ l es → Qa ids l = false
 | [], _, _ => rfl
 | (k, v) :: r, es, h => by
  obtain ⟨e, es', _, _, h3, h4⟩ := h
  simp only [Qa, V.men_temp hd h3, Xg8 hd r es' h4, Bool.or_self]
theorem Xl5.noMen {ids : Nat → Bool} (hd : ∀ id o, ρ.m id = some o → ids id = false) {j : Nat} {x : Ob} (h : Xl5 w ρ j x) : x.noMen ids := by
 cases x with
 | box E t => obtain ⟨b, cs, _, _, h3⟩ := h; exact V.men_dom hd _ _ h3
 | vec E sz xs =>
  rcases h with ⟨_, rfl⟩ | ⟨b, cap, cs, sp, _, _, h3, _⟩
  ·rfl
  ·exact V.menCs_dom hd _ _ h3
 | map es => obtain ⟨b, l, clk, _, _, h3⟩ := h; exact Xg8 hd _ _ h3
 | arr E sz xs => trivial
 | gone => trivial
theorem Xdp {P : Prg} (hm : P.p.follows .mixedOrders = true) {f : Nat} {s : S} {rs : List RV} {vs : List V} {ob : Objs} {K : Out → Objs → Prop} (hc : X1 P.p f vs.length s rs = true)
  (h : cwp P s (Xgb (fresh ob) rs K) (J2 0 vs) ob) : ACall P f vs ob K := by
 unfold X1 at hc
 split at hc
 ·rename_i fn hf
  split at hc
  ·rename_i code hb
   simp only [Bool.and_eq_true, decide_eq_true_eq] at hc
   obtain ⟨⟨hn, h1⟩, h2⟩ := hc
   refine ⟨fun w ρ args hO hg hr => calls_of_wp hf hb ?_⟩
   let c : Ctx := ⟨w, Xna ρ, fn.ntmps, [], P.g, ρ.m, []⟩
   have hlen : args.length = vs.length := by simpa using Zx hr
   have m : Mod c ρ.xo ρ (J2 0 vs) ob { tmps := args.toArray ++ Array.replicate (fn.ntmps - args.toArray.size) undef, defers := [] } w := by
    refine ⟨⟨Nat.le_refl _, fun _ _ _ => rfl, fun b h => .inr h, rfl, rfl, rfl, fun id o h => ⟨o, h, .refl o⟩, (fun p hp => by cases hp)⟩, hO, ?_, ?_, rfl, rfl, hg⟩
    ·refine Jq hr 0 _ (fun i hi => ?_)
     simp [Array.getElem?_append, hi]
    ·simp [c]; omega
   refine wp_mono (Yn hm rfl code s _ _ _ ρ _ w h1 h m) ?_
   rintro e a' w' ⟨ae, sl', ob', ρ', hq, he, m'⟩
   have old : ∀ kp id o, ρ.m id = some o → young (fresh ob) kp id = false := fun kp id o h0 => by
    obtain ⟨x, hx⟩ := hO.dom id o h0
    have hlt : ¬ fresh ob ≤ id := fun hle => by rw [Yd _ _ hle] at hx; cases hx
    simp [young, hlt]
   have tr : ∀ {ρ2 : Env}, Tr w' ρ' w' ρ2 → ∀ kp, Tr w ρ w' (ρ2.del (young (fresh ob) kp)) := fun {ρ2} t kp => by
    have b2 := m'.base.tr t
    refine ⟨b2.size, fun b h1 h2 => b2.keep b h2 h1, fun b h1 => (b2.owns b (Uy h1)).symm, ?_, ?_, fun id o h1 => ?_, b2.tape, b2.os, b2.out⟩
    ·show ρ2.xo = ρ.xo; rw [t.xo, m'.xo]
    ·show ρ2.gl = ρ.gl; rw [t.gl, m'.gl, hg]
    ·obtain ⟨o', h3, h4⟩ := b2.same id o h1
     exact ⟨o', by simp only [Env.del, old kp id o h1]; exact h3, h4⟩
   have hfin : W8 sl' ob' rs (fun vs => Xey vs ob' fun vs ob' => Ys (fresh ob) (K (.ret (V2 vs))) vs ob') → a'.defers = [] ∧ ∃ v, (results fn a'.tmps).run P.p w' = .ok v w' ∧ ∃ out ob2 ρ2, K out ob2 ∧ Xu3 w' ρ2 (.returned v) out ∧ OM w' ρ2 ob2 ∧ Tr w ρ w' ρ2 := by
    intro hq
    obtain ⟨vs, us, hk, hrep, hrun⟩ := Vt (P := P.p) (fn := fn) m'.sm m'.om h2 hq
    obtain ⟨vs', ob2, ρ2, ⟨kp, k1, k2, k3⟩, t2, o2, hr2⟩ := Xc9 vs us m'.om hrep hk
    exact ⟨m'.df, Xq1 us, hrun, .ret (V2 vs'), _, _, k3, Jp (Xhx k1 hr2), o2.del k2, tr t2 kp⟩
   cases ae with
   | normal =>
    cases e <;> simp only [exM] at he
    exact hfin hq
   | ret =>
    cases e <;> simp only [exM] at he
    exact hfin hq
   | exit n => exact hq.elim
   | panic v =>
    cases e <;> simp only [exM] at he
    obtain ⟨u, rfl, hu⟩ := he
    obtain ⟨kp, k1, k2, k3⟩ := hq
    simp only [V.mens, Bool.or_false] at k1
    exact ⟨m'.df, .panic v, _, _, k3, ⟨u, rfl, V.rep_del k1 hu⟩, m'.om.del k2, tr (Tr.refl _ _) kp⟩
  ·simp at hc
 ·simp at hc

theorem ACall.of_wf {P : Prg} {f : Nat} {vs : List V} {ob : Objs} {K : Out → Objs → Prop} (h : (∀ kp, V.mens (young (fresh ob) kp) vs = false) → (∀ kp, noMenO (young (fresh ob) kp) ob = true) → ACall P f vs ob K) : ACall P f vs ob K := by
 refine ⟨fun w ρ args hO hg hr => ?_⟩
 have old : ∀ kp id o, ρ.m id = some o → young (fresh ob) kp id = false := fun kp id o h0 => by
  obtain ⟨x, hx⟩ := hO.dom id o h0
  have hlt : ¬ fresh ob ≤ id := fun hle => by rw [Yd _ _ hle] at hx; cases hx
  simp [young, hlt]
 exact (h (fun kp => V.mens_dom (old kp) _ _ hr) (fun kp => Wr ob fun e he => (hO.one e.1 _ (hO.once.look e he)).noMen (old kp))).run w ρ args hO hg hr

theorem Xy7 {P : Prg} {p : Program} (hP : P.p = p) (hm : p.follows .mixedOrders = true) {f : Nat} {s : S} {rs : List RV} {ds : List D} {ob0 : Objs} {K : V → Prop} (hc : X1 p f ds.length s rs = true)
  (h : cwp P s (Xci rs K) (J2 0 (ds.map .d)) []) : PCall P f (ds.map .d) ob0 K := by
 subst hP
 exact Xd2 hm hc h
end
end Go.Ab
/- The equations by which an abstract state is walked. Over any program; no condition. -/
namespace Go.Ab
open Go
section
variable (P : Prg) (K : V → Prop) (KO : V → Objs → Prop) (Pn : V → Objs → Prop) (Q : W7) (next : Xc → Objs → Prop) (sl : Xc) (ob : Objs) (r : Xc) (ro : Objs) (v v' : V) (x y z : A) (k j n : Nat) (b c : Bool) (m m' : Int) (kd kd' : IntKind) (s s' : List UInt8) (xs : List D) (vs : List V) (d : D)
@[simp] theorem Xmm : look ((k, v) :: r) k = v := by simp [look]
@[simp] theorem Xuq (h : (j == k) = false) : look ((j, v) :: r) k = look r k := by simp at h; simp [look, h]
@[simp] theorem lookO_eq (o : Ob) : lookO ((k, o) :: ro) k = some o := by simp [lookO]
@[simp] theorem Xn6 (o : Ob) (h : (j == k) = false) : lookO ((j, o) :: ro) k = lookO ro k := by simp at h; simp [lookO, h]
@[simp] theorem setO_eq (o o' : Ob) : setO ((k, o) :: ro) k o' = (k, o') :: ro := by simp [setO]
@[simp] theorem setO_ne (o o' : Ob) (h : (j == k) = false) : setO ((j, o) :: ro) k o' = (j, o) :: setO ro k o' := by simp at h; simp [setO, h]
@[simp] theorem put_some : put sl (some k) v = (k, v) :: sl := by simp only [put]
@[simp] theorem put_none : put sl none v = sl := by simp only [put]
@[simp] theorem Ycn : A.ev sl (.t k) = look sl k := by simp only [A.ev]
@[simp] theorem ev_int : A.ev sl (.int kd m) = .d (.int kd m) := by simp only [A.ev]
@[simp] theorem ev_bool : A.ev sl (.bool b) = .d (.bool b) := by simp only [A.ev]
@[simp] theorem ev_str : A.ev sl (.str s) = .d (.str s) := by simp only [A.ev]
@[simp] theorem ev_nils : A.ev sl .nils = .d .nils := by simp only [A.ev]
@[simp] theorem ev_nili : A.ev sl .nili = .d .nili := by simp only [A.ev]
@[simp] theorem ev_fn : A.ev sl (.fn k) = .fn k [] [] := by simp only [A.ev]
-- calm operations
@[simp] theorem wp_mv : C.wp sl ob K (.mv x) = K (x.ev sl) := by simp only [C.wp]
@[simp] theorem wp_pick : C.wp sl ob K (.pick x y z) = Ji K (x.ev sl) (y.ev sl) (z.ev sl) := by simp only [C.wp]
@[simp] theorem X4u : Ji K (.d (.bool true)) v v' = K v := by unfold Ji; split <;> simp_all
@[simp] theorem X5n : Ji K (.d (.bool false)) v v' = K v' := by unfold Ji; split <;> simp_all
@[simp] theorem wp_not : C.wp sl ob K (.not x) = Xvj K (x.ev sl) := by simp only [C.wp]
@[simp] theorem notK_b : Xvj K (.d (.bool b)) = K (.d (.bool (!b))) := by simp only [Xvj]
@[simp] theorem wp_neg : C.wp sl ob K (.neg x) = Xrz K (x.ev sl) := by simp only [C.wp]
@[simp] theorem negK_i : Xrz K (.d (.int kd m)) = K (.d (.int kd (kd.wrap (0 - m)))) := by simp only [Xrz]
@[simp] theorem wp_bin (op : BinOp) : C.wp sl ob K (.bin op x y) = Xm2 op K (x.ev sl) (y.ev sl) := by simp only [C.wp]
@[simp] theorem binK_i (op : BinOp) : Xm2 op K (.d (.int kd m)) (.d (.int kd' m')) = Xqd op kd kd' m m' K := by simp only [Xm2]
@[simp] theorem binK_s (op : BinOp) : Xm2 op K (.d (.str s)) (.d (.str s')) = Xqf op s s' K := by simp only [Xm2]
@[simp] theorem intK_sub : Xqd .sub kd kd m m' K = K (.d (.int kd (kd.wrap (m - m')))) := by simp [Xqd]
@[simp] theorem strK_eql : Xqf .eql s s' K = K (.d (.bool (s == s'))) := by simp [Xqf]
@[simp] theorem strK_neq : Xqf .neq s s' K = K (.d (.bool (s != s'))) := by simp [Xqf]
@[simp] theorem wp_isnil : C.wp sl ob K (.isnil b x) = Vc b K (x.ev sl) := by simp only [C.wp]
@[simp] theorem isnilK_n : Vc b K (.d .nili) = K (.d (.bool b)) := by simp only [Vc]
@[simp] theorem isnilK_di : Vc b K (.d (.iface k d)) = K (.d (.bool (!b))) := by simp only [Vc]
@[simp] theorem wp_fnil : C.wp sl ob K (.fnil b x) = Xao b K (x.ev sl) := by simp only [C.wp]
@[simp] theorem fnilK_n : Xao b K (.d .nilf) = K (.d (.bool b)) := by simp only [Xao]
@[simp] theorem fnilK_f (l1 l2 : List V) : Xao b K (.fn k l1 l2) = K (.d (.bool (!b))) := by simp only [Xao]
@[simp] theorem mkiV_d : Xxr k (.d d) = .d (.iface k d) := by simp only [Xxr]
@[simp] theorem mkfV_eq (l1 l2 : List V) : X14 k l1 l2 = X2m k l1 l2 (V.allD l1) (V.allD l2) := by simp only [X14]
@[simp] theorem mkfO_n1 (l1 l2 : List V) (o : Option (List D)) : X2m k l1 l2 none o = .fn k l1 l2 := by cases o <;> simp only [X2m]
@[simp] theorem mkfO_n2 (l1 l2 : List V) (o : Option (List D)) : X2m k l1 l2 o none = .fn k l1 l2 := by cases o <;> simp only [X2m]
@[simp] theorem wp_cvi : C.wp sl ob K (.cvi kd x) = Xqx kd K (x.ev sl) := by simp only [C.wp]
@[simp] theorem cviK_i : Xqx kd K (.d (.int kd' m)) = K (.d (.int kd (kd.wrap m))) := by simp only [Xqx]
@[simp] theorem wp_idx : C.wp sl ob K (.idx x y) = Xw0 K (x.ev sl) (y.ev sl) := by simp only [C.wp]
@[simp] theorem idxK_s : Xw0 K (.d (.str s)) (.d (.int kd m)) = ((0 ≤ m ∧ m < s.length) ∧ K (.d (.int .u8 (s.getD m.toNat 0).toNat))) := by simp only [Xw0]
@[simp] theorem wp_idxA : C.wp sl ob K (.idxA n x y) = Xc8 n K (x.ev sl) (y.ev sl) := by simp only [C.wp]
@[simp] theorem idxAK_l : Xc8 n K (.d (.list n xs)) (.d (.int kd m)) = ((0 ≤ m ∧ m < xs.length) ∧ K (.d (.ref (xs.getD m.toNat default)))) := by simp [Xc8]
@[simp] theorem wp_idxP : C.wp sl ob K (.idxP k n x y) = Xbm ob k n K (x.ev sl) (y.ev sl) := by simp only [C.wp]
@[simp] theorem idxPK_p (p : List Nat) : Xbm ob k n K (.ptr j p) (.d (.int kd m)) = ((0 ≤ m ∧ m < k) ∧ (∃ ks, Ut (atO ob j p) = some ks ∧ ks.length = k ∧ ∀ k ∈ ks, k.size = n) ∧ K (.ptr j (p ++ [m.toNat]))) := by simp only [Xbm]
@[simp] theorem idxPK_c : Xbm ob k n K (.d (.ref (.agg xs))) (.d (.int kd m)) = ((0 ≤ m ∧ m < k) ∧ xs.length = k ∧ (∀ x ∈ xs, x.sz = n) ∧ K (.d (.ref (xs.getD m.toNat default)))) := by simp only [Xbm]
@[simp] theorem wp_fldA : C.wp sl ob K (.fldA k n x) = Qm ob k n K (x.ev sl) := by simp only [C.wp]
@[simp] theorem fldAK_p (p : List Nat) : Qm ob k n K (.ptr j p) = Us j p k n K (Ut (atO ob j p)) := by simp only [Qm]
@[simp] theorem fldAKo_s (p : List Nat) : Us j p k n K (some vs) = (k < vs.length ∧ Sh.sizes ((vs.take k).map V.shape) = n ∧ K (.ptr j (p ++ [k]))) := by simp only [Us]
@[simp] theorem fldAK_c : Qm ob k n K (.d (.ref (.agg xs))) = (k < xs.length ∧ D.szs (xs.take k) = n ∧ K (.d (.ref (xs.getD k default)))) := by simp only [Qm]
@[simp] theorem wp_fld : C.wp sl ob K (.fld k j n b x) = Xw1 k j n b K (x.ev sl).kids := by simp only [C.wp]
@[simp] theorem wp_ld : C.wp sl ob K (.ld n b x) = ldK ob n b K (x.ev sl) := by simp only [C.wp]
@[simp] theorem ldK_p (p : List Nat) : ldK ob n b K (.ptr j p) = Xws n b K (atO ob j p) := by simp only [ldK]
@[simp] theorem ldKo_s : Xws n b K (some v) = (v.size = n ∧ v.isAgg = b ∧ K v) := by simp only [Xws]
@[simp] theorem ldK_c : ldK ob n b K (.d (.ref d)) = (d.sz = n ∧ (V.d d).isAgg = b ∧ K (.d d)) := by simp only [ldK]
@[simp] theorem wp_nilc : C.wp sl ob K (.nilc x) = Xbp K (x.ev sl) := by simp only [C.wp]
@[simp] theorem nilcK_p (p : List Nat) : Xbp K (.ptr j p) = K (.ptr j p) := by simp only [Xbp]
@[simp] theorem nilcK_c : Xbp K (.d (.ref d)) = K (.d (.ref d)) := by simp only [Xbp]
@[simp] theorem wp_lenS : C.wp sl ob K (.lenS x) = Xca K (x.ev sl) := by simp only [C.wp]
@[simp] theorem lenSK_s : Xca K (.d (.str s)) = K (.d (.int .i64 s.length)) := by simp only [Xca]
@[simp] theorem wp_lenL : C.wp sl ob K (.lenL x) = Jz ob K (x.ev sl) := by simp only [C.wp]
@[simp] theorem lenLK_l : Jz ob K (.d (.list n xs)) = K (.d (.int .i64 xs.length)) := by simp only [Jz]
@[simp] theorem lenLK_n : Jz ob K (.d .nils) = K (.d (.int .i64 0)) := by simp only [Jz]
@[simp] theorem lenLK_o : Jz ob K (.sl j n) = ((∃ E z xs, lookO ob j = some (.arr E z xs) ∧ n = xs.length) ∧ K (.d (.int .i64 n))) := by simp only [Jz]
@[simp] theorem wp_slcS (lo hi : Option A) : C.wp sl ob K (.slcS x lo hi) = Xdh (lo.map (A.ev sl)) (hi.map (A.ev sl)) K (x.ev sl) := by simp only [C.wp]
@[simp] theorem slcSK_s (lo hi : Option V) : Xdh lo hi K (.d (.str s)) = J3 s.length (fun l h => K (.d (.str ((s.take h).drop l)))) lo hi := by simp only [Xdh]
@[simp] theorem wp_slcL (lo hi : Option A) : C.wp sl ob K (.slcL n x lo hi) = Xdo n (lo.map (A.ev sl)) (hi.map (A.ev sl)) K (x.ev sl) := by simp only [C.wp]
@[simp] theorem slcLK_l (lo hi : Option V) : Xdo n lo hi K (.d (.list n xs)) = J3 xs.length (fun l h => K (.d (.list n ((xs.take h).drop l)))) lo hi := by simp [Xdo]
@[simp] theorem bndK_sn (KK : Nat → Nat → Prop) : J3 n KK (some (.d (.int kd m))) none = ((0 ≤ m ∧ m ≤ n) ∧ KK m.toNat n) := by simp only [J3]
@[simp] theorem bndK_ns (KK : Nat → Nat → Prop) : J3 n KK none (some (.d (.int kd m))) = ((0 ≤ m ∧ m ≤ n) ∧ KK 0 m.toNat) := by simp only [J3]
@[simp] theorem bndK_ss (KK : Nat → Nat → Prop) : J3 n KK (some (.d (.int kd m))) (some (.d (.int kd' m'))) = ((0 ≤ m' ∧ m' ≤ n) ∧ (0 ≤ m ∧ m ≤ m') ∧ KK m.toNat m'.toNat) := by simp only [J3]
@[simp] theorem wp_ext : C.wp sl ob K (.ext x n) = Xw5 n K (x.ev sl) := by simp only [C.wp]
@[simp] theorem extK_t : Xw5 n K (.tup vs) = (n < vs.length ∧ K (vs.getD n .any)) := by simp only [Xw5]
@[simp] theorem wp_bld (ps : List (Nat × A)) : C.wp sl ob K (.bld xs ps) = Xaq (xs.map .d) (ps.map fun p => (p.1, p.2.ev sl)) fun ks => K (V.mk ks) := by simp only [C.wp]
@[simp] theorem bldK_n (KL : List V → Prop) : Xaq vs [] KL = KL vs := by simp only [Xaq]
@[simp] theorem bldK_c (KL : List V → Prop) (l : List (Nat × V)) : Xaq vs ((k, v) :: l) KL = (k < vs.length ∧ v.shape = (vs.getD k .any).shape ∧ v ≠ .any ∧ Xaq (vs.set k v) l KL) := by simp only [Xaq]
@[simp] theorem wp_mkf (l l' : List A) : C.wp sl ob K (.mkf k l l') = K (X14 k (l.map (A.ev sl)) (l'.map (A.ev sl))) := by simp only [C.wp]
@[simp] theorem wp_mki : C.wp sl ob K (.mki k x) = K (Xxr k (x.ev sl)) := by simp only [C.wp]
@[simp] theorem wp_tas : C.wp sl ob K (.tas k d x) = Xw6 k d K (x.ev sl) := by simp only [C.wp]
-- trees
@[simp] theorem kids_agg : V.kids (.agg vs) = some vs := by simp only [V.kids]
@[simp] theorem kids_d : V.kids (.d (.agg xs)) = some (xs.map .d) := by simp only [V.kids]
@[simp] theorem kidsO_s : Ut (some v) = v.kids := by simp only [Ut]
def atB (p : List Nat) : Option Ob → Option V
 | some (.box _ t) => t.at p
 | _ => none
@[simp] theorem atO_b (p : List Nat) : atO ob k p = atB p (lookO ob k) := by
 unfold atO atB
 cases lookO ob k with
 | none => rfl
 | some o => cases o <;> rfl
@[simp] theorem atB_s (p : List Nat) (E : Nat) : atB p (some (.box E v)) = v.at p := by simp only [atB]
@[simp] theorem at_nil : V.at v [] = some v := by simp [V.at]
def Xhl (i : Nat) (p : List Nat) : Option (List V) → Option V
 | some ks => atKid' p ks[i]?
 | none => none
where atKid' (p : List Nat) : Option V → Option V
 | some k => V.at k p
 | none => none
@[simp] theorem at_cons (p : List Nat) : V.at v (k :: p) = Xhl k p v.kids := by
 simp only [V.at, Xhl]
 cases v.kids with
 | none => rfl
 | some ks => simp only [Xhl.atKid']; cases ks[k]? <;> rfl
@[simp] theorem atKid_s (p : List Nat) : Xhl k p (some vs) = Xhl.atKid' p vs[k]? := by simp only [Xhl]
@[simp] theorem atKid'_s (p : List Nat) : Xhl.atKid' p (some v) = V.at v p := by simp only [Xhl.atKid']
@[simp] theorem set_nil : V.set v [] v' = some v' := by simp [V.set]
def V3 (i : Nat) (p : List Nat) (x : V) : Option (List V) → Option V
 | some ks => setKid1 i p x ks ks[i]?
 | none => none
where
 setKid1 (i : Nat) (p : List Nat) (x : V) (ks : List V) : Option V → Option V
 | some k => setKid2 i ks (V.set k p x)
 | none => none
 setKid2 (i : Nat) (ks : List V) : Option V → Option V
 | some k' => some (V.mk (ks.set i k'))
 | none => none
@[simp] theorem set_cons (p : List Nat) : V.set v (k :: p) v' = V3 k p v' v.kids := by
 simp only [V.set, V3]
 cases v.kids with
 | none => rfl
 | some ks =>
  simp only [V3.setKid1]
  cases ks[k]? with
  | none => rfl
  | some y => simp only [V3.setKid2]; cases V.set y p v' <;> rfl
@[simp] theorem setKid_s (p : List Nat) : V3 k p v (some vs) = V3.setKid1 k p v vs vs[k]? := by simp only [V3]
@[simp] theorem setKid1_s (p : List Nat) : V3.setKid1 k p v vs (some v') = V3.setKid2 k vs (V.set v' p v) := by simp only [V3.setKid1]
@[simp] theorem setKid2_s : V3.setKid2 k vs (some v) = some (V.mk (vs.set k v)) := by simp only [V3.setKid2]
@[simp] theorem allD_nil : V.allD [] = some [] := by simp [V.allD]
def Xt6 (x : D) : Option (List D) → Option (List D)
 | some l => some (x :: l)
 | none => none
@[simp] theorem allD_cons : V.allD (.d d :: vs) = Xt6 d (V.allD vs) := by simp only [V.allD]; cases V.allD vs <;> rfl
@[simp] theorem consD_s : Xt6 d (some xs) = some (d :: xs) := by simp only [Xt6]
@[simp] theorem consD_n : Xt6 d none = none := by simp only [Xt6]
@[simp] theorem allD_map : V.allD (xs.map .d) = some xs := by induction xs with | nil => rfl | cons x r ih => simp [ih]
@[simp] theorem allD_fn (a1 a2 : List V) : V.allD (.fn k a1 a2 :: vs) = none := by simp only [V.allD]
@[simp] theorem allD_sl : V.allD (.sl k n :: vs) = none := by simp only [V.allD]
@[simp] theorem allD_agg (l : List V) : V.allD (.agg l :: vs) = none := by simp only [V.allD]
@[simp] theorem allD_ptr (p : List Nat) : V.allD (.ptr k p :: vs) = none := by simp only [V.allD]
def mkO (vs : List V) : Option (List D) → V
 | some l => .d (.agg l)
 | none => .agg vs
@[simp] theorem mk_eq : V.mk vs = mkO vs (V.allD vs) := by unfold V.mk mkO; cases V.allD vs <;> rfl
@[simp] theorem mkO_s : mkO vs (some xs) = .d (.agg xs) := by simp only [mkO]
@[simp] theorem mkO_n : mkO vs none = .agg vs := by simp only [mkO]
-- sizes, shapes
attribute [simp] D.sz D.szs Sh.size Sh.sizes D.shape D.shapes V.shape V.shapes V.isAgg V.sto V.stos V.size V.men V.mens
-- operations on memory
@[simp] theorem qw (e : C) : I.wp P sl ob KO Pn (.c e) = e.wp sl ob (fun v => KO v ob) := by simp only [I.wp]
@[simp] theorem qv : I.wp P sl ob KO Pn (.box k x) = Xqb k ob KO (x.ev sl) := by simp only [I.wp]
@[simp] theorem qr : I.wp P sl ob KO Pn (.alloc k d) = Xqb k ob KO (.d d) := by simp only [I.wp]
@[simp] theorem boxK_eq : Xqb k ob KO v = (v.sto = true ∧ KO (.ptr (fresh ob) []) ((fresh ob, .box k v) :: ob)) := by simp only [Xqb]
@[simp] theorem qu (ps : List (Nat × A)) : I.wp P sl ob KO Pn (.bls n xs ps) = Xaq (xs.map .d) (ps.map fun p => (p.1, p.2.ev sl)) (fun ks => dK (fun l => KO (.d (.list n l)) ob) (V.allD ks)) := by simp only [I.wp]
@[simp] theorem dK_s (KD : List D → Prop) : dK KD (some xs) = KD xs := by simp only [dK]
@[simp] theorem qt (ps : List (Nat × A)) : I.wp P sl ob KO Pn (.blo j n xs ps) = Xaq (xs.map .d) (ps.map fun p => (p.1, p.2.ev sl)) (fun ks => dK (fun l => KO (.sl (fresh ob) l.length) ((fresh ob, .arr j n l) :: ob)) (V.allD ks)) := by simp only [I.wp]
@[simp] theorem zh : I.wp P sl ob KO Pn (.st n x y) = stK ob n (y.ev sl) KO (x.ev sl) := by simp only [I.wp]
@[simp] theorem stK_p (p : List Nat) : stK ob n v KO (.ptr k p) = Xwz ob k p n v KO (lookO ob k) := by simp only [stK]
@[simp] theorem stKo_s (p : List Nat) (t : V) (E : Nat) : Xwz ob k p n v KO (some (.box E t)) = Xw2 ob k p n E v t KO (t.at p) := by simp only [Xwz]
def X6z (ob : Objs) (id E : Nat) (K : V → Objs → Prop) : Option V → Prop
 | some t' => K .undef (setO ob id (.box E t'))
 | none => False
@[simp] theorem stKt_s (p : List Nat) (t : V) (E : Nat) : Xw2 ob k p n E v t KO (some v') = (v.shape = v'.shape ∧ v'.size = n ∧ v.sto = true ∧ X6z ob k E KO (t.set p v)) := by
 simp only [Xw2]; cases t.set p v <;> simp [X6z]
@[simp] theorem stKs_s (E : Nat) : X6z ob k E KO (some v) = KO .undef (setO ob k (.box E v)) := by simp only [X6z]
@[simp] theorem qs (E sz B : Nat) : I.wp P sl ob KO Pn (.app E sz B x y) = Xwy sz (fun ys => Xdf E sz B ob ys KO (x.ev sl)) (y.ev sl) := by simp only [I.wp]
@[simp] theorem srcK_l (KD : List D → Prop) : Xwy n KD (.d (.list n xs)) = KD xs := by simp [Xwy]
@[simp] theorem appK_s (E sz B : Nat) : Xdf E sz B ob xs KO (.sl k n) = Xdj k E sz B n ob xs KO (lookO ob k) := by simp [Xdf]
@[simp] theorem appK_n (E sz B : Nat) : Xdf E sz B ob xs KO (.d .nils) = ((2 * xs.length + 192) * B ≤ 281474976710656 ∧ KO (.sl (fresh ob) xs.length) ((fresh ob, .arr E sz xs) :: ob)) := by simp only [Xdf]
@[simp] theorem appKo_s (E sz B : Nat) (ys : List D) : Xdj k E sz B n ob xs KO (some (.arr E sz ys)) = (n = ys.length ∧ (2 * (ys.length + xs.length) + 192) * B ≤ 281474976710656 ∧ KO (.sl k (ys.length + xs.length)) (setO ob k (.arr E sz (ys ++ xs)))) := by simp [Xdj]
@[simp] theorem iwp_appS (E B : Nat) : I.wp P sl ob KO Pn (.appS E B x y) = Xf2 (fun ys => Xdf E 1 B ob ys KO (x.ev sl)) (y.ev sl) := by simp only [I.wp]
@[simp] theorem srcSK_s (KD : List D → Prop) : Xf2 KD (.d (.str s)) = KD (bytesD s) := by simp only [Xf2]
@[simp] theorem zb : I.wp P sl ob KO Pn (.mvf x) = Xid KO (V.giv ob (x.ev sl)) := by simp only [I.wp]
@[simp] theorem givK_s : Xid KO (some (d, ob)) = KO (.d d) ob := by simp only [Xid]
@[simp] theorem za : I.wp P sl ob KO Pn (.ldf n b x) = Xs5 n b ob KO (x.ev sl) := by simp only [I.wp]
@[simp] theorem ldfK_p (p : List Nat) : Xs5 n b ob KO (.ptr k p) = Xdg n b ob KO (atO ob k p) := by simp only [Xs5]
@[simp] theorem ldfKo_s : Xdg n b ob KO (some v) = (v.size = n ∧ v.isAgg = b ∧ Xid KO (V.giv ob v)) := by simp only [Xdg]
@[simp] theorem zd (E sz : Nat) (p : List Nat) : I.wp P sl ob KO Pn (.mvg E sz y x p) = Xg4 ob E sz p (y.ev sl) KO (x.ev sl) := by simp only [I.wp]
@[simp] theorem ze (l : List (Nat × Nat × List Nat)) : I.wp P sl ob KO Pn (.mvn y x l) = Xpq (y.ev sl) KO (x.ev sl) l ob := by simp only [I.wp]
@[simp] theorem mvnK_n (v x : V) : Xpq v KO x [] ob = KO v ob := by simp only [Xpq]
@[simp] theorem mvnK_c (v x : V) (e : Nat × Nat × List Nat) (l : List (Nat × Nat × List Nat)) : Xpq v KO x (e :: l) ob = Xg4 ob e.1 e.2.1 e.2.2 v (fun _ ob' => Xpq v KO x l ob') x := by simp only [Xpq]
@[simp] theorem mvgK_p (E sz : Nat) (p q : List Nat) : Xg4 ob E sz p v KO (.ptr k q) = Xdi ob k (q ++ p) E sz v KO (lookO ob k) := by simp only [Xg4]
@[simp] theorem mvgKt_s (E E0 sz : Nat) (p : List Nat) (t : V) : Xdi ob k p E sz v KO (some (.box E0 t)) = ((t.at p = some (.d .nils) ∧ Xh8 ob k E0 E sz v KO (t.set p (.sl (fresh ob) 0))) ∨ ((∃ i n, t.at p = some (.sl i n)) ∧ KO v ob)) := by simp only [Xdi]
@[simp] theorem mvgKs_s (E E0 sz : Nat) (t : V) : Xh8 ob k E0 E sz v KO (some t) = KO v ((fresh ob, .arr E sz []) :: setO ob k (.box E0 t)) := by simp only [Xh8]
@[simp] theorem iwp_cvb : I.wp P sl ob KO Pn (.cvb x) = Xus ob KO (x.ev sl) := by simp only [I.wp]
@[simp] theorem cvbK_s : Xus ob KO (.sl k n) = Xe8 k n ob KO (lookO ob k) := by simp only [Xus]
@[simp] theorem cvbKo_s (E sz : Nat) : Xe8 k n ob KO (some (.arr E sz xs)) = (sz ≠ 0 ∧ n = xs.length ∧ xs ≠ [] ∧ KO (.d (.list sz xs)) (setO ob k .gone)) := by simp only [Xe8]
@[simp] theorem wp_usd : C.wp sl ob K (.usd x) = Xpn ob K (x.ev sl) := by simp only [C.wp]
@[simp] theorem usdK_s : Xpn ob K (.sl k n) = ((∃ E sz xs, lookO ob k = some (.arr E sz xs) ∧ sz ≠ 0 ∧ n = xs.length ∧ xs ≠ []) ∧ K (.sd k n)) := by simp only [Xpn]
@[simp] theorem usdK_n : Xpn ob K (.d .nils) = K (.d .nilp) := by simp only [Xpn]
@[simp] theorem iwp_ustr (E : Nat) : I.wp P sl ob KO Pn (.ustr E x y) = J8 E ob KO (x.ev sl) (y.ev sl) := by simp only [I.wp]
@[simp] theorem ustrK_s (E : Nat) : J8 E ob KO (.sd k n) (.d (.int .i64 m)) = Js k n m E ob KO (lookO ob k) := by simp only [J8]
@[simp] theorem ustrK_n (E : Nat) : J8 E ob KO (.d .nilp) (.d (.int .i64 m)) = (m = 0 ∧ KO (.d (.str [])) ob) := by simp only [J8]
@[simp] theorem ustrKo_s (E E' sz : Nat) : Js k n m E ob KO (some (.arr E' sz xs)) = (E' = E ∧ sz = 1 ∧ n = xs.length ∧ m = n ∧ n ≤ 9223372036854775807 ∧ xs ≠ [] ∧ ∃ s, xs = bytesD s ∧ KO (.d (.str s)) (setO ob k .gone)) := by simp only [Js]
-- values given up
@[simp] theorem giv_d : V.giv ob (.d d) = some (d, ob) := by simp only [V.giv]
@[simp] theorem giv_sl : V.giv ob (.sl k n) = X7h ob k n (lookO ob k) := by simp only [V.giv]
@[simp] theorem givO_s (E sz : Nat) : X7h ob k n (some (.arr E sz xs)) = if sz ≠ 0 ∧ n = xs.length then some (.list sz xs, setO ob k .gone) else none := by simp only [X7h]
@[simp] theorem giv_agg : V.giv ob (.agg vs) = X6o (V.givs ob vs) := by simp only [V.giv]
@[simp] theorem giv_fn (l1 l2 : List V) : V.giv ob (.fn k l1 l2) = none := by simp only [V.giv]
@[simp] theorem givs_nil : V.givs ob [] = some ([], ob) := by simp only [V.givs]
def X25 (r : List V) : Option (D × Objs) → Option (List D × Objs)
 | some (x, ob1) => Xfn x (V.givs ob1 r)
 | none => none
@[simp] theorem givs_cons : V.givs ob (v :: vs) = X25 vs (V.giv ob v) := by
 simp only [V.givs]; cases V.giv ob v with
 | none => rfl
 | some q => obtain ⟨y, ob1⟩ := q; rfl
@[simp] theorem bindO_s : X25 vs (some (d, ob)) = Xfn d (V.givs ob vs) := by simp only [X25]
@[simp] theorem consO_s (l : List D) : Xfn d (some (l, ob)) = some (d :: l, ob) := by simp only [Xfn]
@[simp] theorem aggO_s (l : List D) : X6o (some (l, ob)) = some (.agg l, ob) := by simp only [X6o]
@[simp] theorem givsK_s (KD : List D → Objs → Prop) (l : List D) : Ww KD (some (l, ob)) = KD l ob := by simp only [Ww]
@[simp] theorem gvsK_nil (KL : List V → Objs → Prop) : Xey [] ob KL = KL [] ob := by simp only [Xey]
@[simp] theorem gvsK_cons (KL : List V → Objs → Prop) : Xey (v :: vs) ob KL = gvO v ob (fun v' ob' => Xey vs ob' fun vs ob'' => KL (v' :: vs) ob'') (V.giv ob v) := by simp only [Xey]
@[simp] theorem gvO_s : gvO v ob KO (some (d, ro)) = KO (.d d) ro := by simp only [gvO]
@[simp] theorem gvO_n : gvO v ob KO none = KO v ob := by simp only [gvO]
-- names
@[simp] theorem fresh_nil : fresh [] = 0 := by simp only [fresh]
@[simp] theorem fresh_cons (o : Ob) : fresh ((k, o) :: ro) = if fresh ro ≤ k then k + 1 else fresh ro := by simp only [fresh]
@[simp] theorem fresh_set (o : Ob) : fresh (setO ob k o) = fresh ob := by
 induction ob with
 | nil => simp [setO]
 | cons e r ih => obtain ⟨i, y⟩ := e; simp only [setO]; split <;> simp [fresh, ih]
@[simp] theorem fresh_ne (h : (lookO ob k).isSome = true) : (fresh ob == k) = false := by
 rw [beq_eq_false_iff_ne]; intro e; rw [← e, Yq] at h; cases h
@[simp] theorem fresh_add_ne (h : (lookO ob k).isSome = true) : (fresh ob + n == k) = false := by
 rw [beq_eq_false_iff_ne]; intro e; rw [← e, Yd ob _ (by omega)] at h; cases h
@[simp] theorem lookO_set_eq (o : Ob) (h : (lookO ob k).isSome = true) : lookO (setO ob k o) k = some o := by
 rw [Yc ob k k (Option.isSome_iff_exists.1 h)]; simp
@[simp] theorem lookO_set_ne (o : Ob) (h : (j == k) = false) : lookO (setO ob j o) k = lookO ob k := by
 by_cases hs : (lookO ob j).isSome = true
 ·rw [Yc ob j k (Option.isSome_iff_exists.1 hs)]; simp at h; rw [if_neg (fun e => h e.symm)]
 ·have hn : lookO ob j = none := by simpa using hs
  have : ∀ (ob : Objs), lookO ob j = none → setO ob j o = ob := fun ob => by
   induction ob with
   | nil => intro _; rfl
   | cons e r ih => obtain ⟨i, y⟩ := e; intro h; simp only [lookO] at h; split at h; cases h; rename_i hne; simp [setO, hne, ih h]
  rw [this ob hn]
@[simp] theorem Xn7 (o o' : Ob) : setO (setO ob k o) k o' = setO ob k o' := by
 induction ob with
 | nil => rfl
 | cons e r ih =>
  obtain ⟨i, y⟩ := e
  by_cases h : i = k
  ·subst h; simp [setO]
  ·simp [setO, h, ih]
-- young objects dropped
@[simp] theorem young_lt (l : List Nat) (h : k < n) : young n l k = false := by simp [young]; omega
@[simp] theorem young_old (l : List Nat) (h : (lookO ob k).isSome = true) : young (fresh ob) l k = false := by
 have : k < fresh ob := by
  rcases Nat.lt_or_ge k (fresh ob) with h1 | h1
  ·exact h1
  ·rw [Yd ob k h1] at h; cases h
 simp [young]; omega
@[simp] theorem young_self : young n [] n = true := by simp [young]
@[simp] theorem young_add : young n [] (n + k) = true := by simp [young]
theorem noMenO_set_box (ids : Nat → Bool) (E : Nat) (h : noMenO ids ob = true) (hv : V.men ids v = false) : noMenO ids (setO ob k (.box E v)) = true := by
 induction ob with
 | nil => rfl
 | cons e r ih =>
  obtain ⟨i, y⟩ := e
  simp only [setO]
  split
  ·cases y <;> simp_all [noMenO]
  ·cases y <;> simp_all [noMenO]
theorem noMenO_set_arr (ids : Nat → Bool) (E z : Nat) (h : noMenO ids ob = true) : noMenO ids (setO ob k (.arr E z xs)) = true := by
 induction ob with
 | nil => rfl
 | cons e r ih =>
  obtain ⟨i, y⟩ := e
  simp only [setO]
  split
  ·cases y <;> simp_all [noMenO]
  ·cases y <;> simp_all [noMenO]
theorem Yw (ids : Nat → Bool) (E : Nat) (h : noMenO ids ob = true) (hl : lookO ob k = some (.box E v)) : V.men ids v = false := Y9 ob k E v h hl
@[simp] theorem qx (l : List A) : I.wp P sl ob KO Pn (.call k l) = ACall P k (l.map (A.ev sl)) ob (Xk2 KO Pn) := by simp only [I.wp]
@[simp] theorem qy (l : List A) : I.wp P sl ob KO Pn (.callv x l) = Uv P (l.map (A.ev sl)) ob KO Pn (x.ev sl) := by simp only [I.wp]
@[simp] theorem callvK_f (a1 a2 : List V) : Uv P vs ob KO Pn (.fn k a1 a2) = (Xh P.p k = true ∧ ACall P k (a1 ++ vs ++ a2) ob (Xk2 KO Pn)) := by simp only [Uv]
@[simp] theorem callvK_df (a1 a2 : List D) : Uv P vs ob KO Pn (.d (.fn k a1 a2)) = (Xh P.p k = true ∧ ACall P k (a1.map .d ++ vs ++ a2.map .d) ob (Xk2 KO Pn)) := by simp only [Uv]
@[simp] theorem zj : Xk2 KO Pn (.ret v) ob = KO v ob := by simp only [Xk2]
@[simp] theorem zi : Xk2 KO Pn (.panic v) ob = Pn v ob := by simp only [Xk2]
@[simp] theorem iwp_panic : I.wp P sl ob KO Pn (.panic x) = Jn ob Pn (x.ev sl) := by simp only [I.wp]
@[simp] theorem panicK_d : Jn ob Pn (.d (.iface k d)) = Pn (.d (.iface k d)) ob := by simp only [Jn]
@[simp] theorem zf (E sz : Nat) : I.wp P sl ob KO Pn (.nilo E sz x) = Xf8 E sz ob KO (x.ev sl) := by simp only [I.wp]
@[simp] theorem niloK_n (E sz : Nat) : Xf8 E sz ob KO (.d .nils) = KO (.sl (fresh ob) 0) ((fresh ob, .arr E sz []) :: ob) := by simp only [Xf8]
-- regions and statements
@[simp] theorem gdK_ff (Y N : Xc → Prop) : gdK k false sl Y N (.d (.bool false)) = Y ((k, .d (.bool false)) :: sl) := by simp [gdK]
@[simp] theorem gdK_ft (Y N : Xc → Prop) : gdK k false sl Y N (.d (.bool true)) = N ((k, .d (.bool true)) :: sl) := by simp [gdK]
@[simp] theorem keepS_nil : Xi sl [] = [] := by simp only [Xi]
@[simp] theorem keepS_cons (l : List Nat) : Xi sl (k :: l) = (k, look sl k) :: Xi sl l := by simp only [Xi]
@[simp] theorem zg (l : List A) : I.wp P sl ob KO Pn (.pcall k l) = PCall P k (l.map (A.ev sl)) ob (fun v => KO v ob) := by simp only [I.wp]
@[simp] theorem condK_t (Y N : Prop) : Xat Y N (.d (.bool true)) = Y := by simp [Xat]
@[simp] theorem condK_f (Y N : Prop) : Xat Y N (.d (.bool false)) = N := by simp [Xat]
@[simp low] theorem condK_b (Y N : Prop) : Xat Y N (.d (.bool b)) = ((b = true → Y) ∧ (b = false → N)) := by simp only [Xat]
@[simp] theorem zw : Ub next Q .normal sl ob = next sl ob := by simp only [Ub]
@[simp] theorem zu : Ub next Q (.exit n) sl ob = Q (.exit n) sl ob := by simp only [Ub]
@[simp] theorem zy : Ub next Q .ret sl ob = Q .ret sl ob := by simp only [Ub]
@[simp] theorem zx : Ub next Q (.panic v) sl ob = Q (.panic v) sl ob := by simp only [Ub]
@[simp] theorem qb : W3 n Q .normal sl ob = Q .normal sl ob := by simp only [W3]
@[simp] theorem qa : W3 n Q (.exit n) sl ob = Q .normal sl ob := by simp [W3]
@[simp] theorem qd : W3 n Q .ret sl ob = Q .ret sl ob := by simp only [W3]
@[simp] theorem qc : W3 n Q (.panic v) sl ob = Q (.panic v) sl ob := by simp only [W3]
attribute [simp] Q7 noMenO Z6
-- results
@[simp] theorem pureQ_r (rs : List RV) : Xci rs K .ret sl ob = W8 sl ob rs fun vs => Ww (fun l _ => K (V2 (l.map .d))) (V.givs ob vs) := by simp only [Xci]
@[simp] theorem pureQ_p (rs : List RV) : Xci rs K (.panic v) sl ob = False := by simp only [Xci]
@[simp] theorem qe (rs : List RV) (KU : Out → Objs → Prop) : Xgb n rs KU .normal sl ob = W8 sl ob rs fun vs => Xey vs ob fun vs ob => Ys n (KU (.ret (V2 vs))) vs ob := by simp only [Xgb]
@[simp] theorem qg (rs : List RV) (KU : Out → Objs → Prop) : Xgb n rs KU .ret sl ob = W8 sl ob rs fun vs => Xey vs ob fun vs ob => Ys n (KU (.ret (V2 vs))) vs ob := by simp only [Xgb]
@[simp] theorem qf (rs : List RV) (KU : Out → Objs → Prop) : Xgb n rs KU (.panic v) sl ob = Ys n (KU (.panic v)) [v] ob := by simp only [Xgb]
@[simp] theorem resK_nil (KL : List V → Prop) : W8 sl ob [] KL = KL [] := by simp only [W8]
@[simp] theorem resK_t (KL : List V → Prop) (rs : List RV) : W8 sl ob (.t k :: rs) KL = W8 sl ob rs fun vs => KL (look sl k :: vs) := by simp only [W8, RV.wp]
@[simp] theorem resK_c (KL : List V → Prop) (rs : List RV) : W8 sl ob (.c k n b :: rs) KL = ldK ob n b (fun v => W8 sl ob rs fun vs => KL (v :: vs)) (look sl k) := by simp only [W8, RV.wp]
@[simp] theorem retV_1 : V2 [v] = v := by simp only [V2]
@[simp] theorem retV_0 : V2 [] = .tup [] := by simp only [V2]
@[simp] theorem retV_2 : V2 (v :: v' :: vs) = .tup (v :: v' :: vs) := by simp only [V2]
@[simp] theorem argS_nil : J2 k [] = [] := by simp only [J2]
@[simp] theorem argS_cons : J2 k (v :: vs) = (k, v) :: J2 (k + 1) vs := by simp only [J2]
end

@[congr] theorem I_wp_congr {P : Prg} {sl : Xc} {ob : Objs} {KO : V → Objs → Prop} {Pn : V → Objs → Prop} {i : I} : I.wp P sl ob KO Pn i = I.wp P sl ob KO Pn i := rfl
@[congr] theorem C_wp_congr {sl : Xc} {ob : Objs} {K : V → Prop} {e : C} : C.wp sl ob K e = C.wp sl ob K e := rfl
@[congr] theorem rwp_congr {P : Prg} {KS : Xc → Objs → Prop} {PS : V → Xc → Objs → Prop} {l : List It} {sl : Xc} {ob : Objs} : rwp P KS PS l sl ob = rwp P KS PS l sl ob := rfl
@[congr] theorem gdK_congr {k : Nat} {b : Bool} {sl : Xc} {Y N : Xc → Prop} {v v' : V} (h0 : v = v') : gdK k b sl Y N v = gdK k b sl Y N v' := by rw [h0]
@[congr] theorem condK_congr {Y N : Prop} {v v' : V} (h0 : v = v') : Xat Y N v = Xat Y N v' := by rw [h0]
@[congr] theorem pickK_congr {K : V → Prop} {u u' : V} {v v' : V} {w w' : V} (h0 : u = u') (h1 : v = v') (h2 : w = w') : Ji K u v w = Ji K u' v' w' := by rw [h0, h1, h2]
@[congr] theorem notK_congr {K : V → Prop} {v v' : V} (h0 : v = v') : Xvj K v = Xvj K v' := by rw [h0]
@[congr] theorem negK_congr {K : V → Prop} {v v' : V} (h0 : v = v') : Xrz K v = Xrz K v' := by rw [h0]
@[congr] theorem cvsK_congr {K : V → Prop} {v v' : V} (h0 : v = v') : X5s K v = X5s K v' := by rw [h0]
@[congr] theorem nilcK_congr {K : V → Prop} {v v' : V} (h0 : v = v') : Xbp K v = Xbp K v' := by rw [h0]
@[congr] theorem lenSK_congr {K : V → Prop} {v v' : V} (h0 : v = v') : Xca K v = Xca K v' := by rw [h0]
@[congr] theorem b2sK_congr {K : V → Prop} {v v' : V} (h0 : v = v') : X6m K v = X6m K v' := by rw [h0]
@[congr] theorem s2bK_congr {K : V → Prop} {v v' : V} (h0 : v = v') : X6s K v = X6s K v' := by rw [h0]
@[congr] theorem binK_congr {op : BinOp} {K : V → Prop} {u u' : V} {v v' : V} (h0 : u = u') (h1 : v = v') : Xm2 op K u v = Xm2 op K u' v' := by rw [h0, h1]
@[congr] theorem intK_congr {op : BinOp} {k j : IntKind} {K : V → Prop} {a a' : Int} {b b' : Int} (h0 : a = a') (h1 : b = b') : Xqd op k j a b K = Xqd op k j a' b' K := by rw [h0, h1]
@[congr] theorem strK_congr {op : BinOp} {K : V → Prop} {a a' : List UInt8} {b b' : List UInt8} (h0 : a = a') (h1 : b = b') : Xqf op a b K = Xqf op a' b' K := by rw [h0, h1]
@[congr] theorem beqK_congr {e : Bool} {K : V → Prop} {u u' : V} {v v' : V} (h0 : u = u') (h1 : v = v') : X27 e K u v = X27 e K u' v' := by rw [h0, h1]
@[congr] theorem isnilK_congr {e : Bool} {K : V → Prop} {v v' : V} (h0 : v = v') : Vc e K v = Vc e K v' := by rw [h0]
@[congr] theorem cviK_congr {k : IntKind} {K : V → Prop} {v v' : V} (h0 : v = v') : Xqx k K v = Xqx k K v' := by rw [h0]
@[congr] theorem idxK_congr {K : V → Prop} {u u' : V} {v v' : V} (h0 : u = u') (h1 : v = v') : Xw0 K u v = Xw0 K u' v' := by rw [h0, h1]
@[congr] theorem idxAK_congr {n : Nat} {K : V → Prop} {u u' : V} {v v' : V} (h0 : u = u') (h1 : v = v') : Xc8 n K u v = Xc8 n K u' v' := by rw [h0, h1]
@[congr] theorem idxPK_congr {ob : Objs} {k n : Nat} {K : V → Prop} {u u' : V} {v v' : V} (h0 : u = u') (h1 : v = v') : Xbm ob k n K u v = Xbm ob k n K u' v' := by rw [h0, h1]
@[congr] theorem fldAK_congr {ob : Objs} {k n : Nat} {K : V → Prop} {v v' : V} (h0 : v = v') : Qm ob k n K v = Qm ob k n K v' := by rw [h0]
@[congr] theorem fldAKo_congr {j : Nat} {p : List Nat} {k n : Nat} {K : V → Prop} {v v' : Option (List V)} (h0 : v = v') : Us j p k n K v = Us j p k n K v' := by rw [h0]
@[congr] theorem fldK_congr {k j n : Nat} {b : Bool} {K : V → Prop} {v v' : Option (List V)} (h0 : v = v') : Xw1 k j n b K v = Xw1 k j n b K v' := by rw [h0]
@[congr] theorem ldK_congr {ob : Objs} {n : Nat} {b : Bool} {K : V → Prop} {v v' : V} (h0 : v = v') : ldK ob n b K v = ldK ob n b K v' := by rw [h0]
@[congr] theorem ldKo_congr {n : Nat} {b : Bool} {K : V → Prop} {v v' : Option V} (h0 : v = v') : Xws n b K v = Xws n b K v' := by rw [h0]
@[congr] theorem lenLK_congr {ob : Objs} {K : V → Prop} {v v' : V} (h0 : v = v') : Jz ob K v = Jz ob K v' := by rw [h0]
@[congr] theorem bndK_congr {n : Nat} {KK : Nat → Nat → Prop} {u u' : Option V} {v v' : Option V} (h0 : u = u') (h1 : v = v') : J3 n KK u v = J3 n KK u' v' := by rw [h0, h1]
@[congr] theorem slcSK_congr {K : V → Prop} {l l' : Option V} {h h' : Option V} {v v' : V} (h0 : l = l') (h1 : h = h') (h2 : v = v') : Xdh l h K v = Xdh l' h' K v' := by rw [h0, h1, h2]
@[congr] theorem slcLK_congr {n : Nat} {K : V → Prop} {l l' : Option V} {h h' : Option V} {v v' : V} (h0 : l = l') (h1 : h = h') (h2 : v = v') : Xdo n l h K v = Xdo n l' h' K v' := by rw [h0, h1, h2]
@[congr] theorem extK_congr {n : Nat} {K : V → Prop} {v v' : V} (h0 : v = v') : Xw5 n K v = Xw5 n K v' := by rw [h0]
@[congr] theorem bldK_congr {KL : List V → Prop} {u u' : List V} {l l' : List (Nat × V)} (h0 : u = u') (h1 : l = l') : Xaq u l KL = Xaq u' l' KL := by rw [h0, h1]
@[congr] theorem tasK_congr {k : Nat} {d : D} {K : V → Prop} {v v' : V} (h0 : v = v') : Xw6 k d K v = Xw6 k d K v' := by rw [h0]
@[congr] theorem boxK_congr {k : Nat} {ob : Objs} {KO : V → Objs → Prop} {v v' : V} (h0 : v = v') : Xqb k ob KO v = Xqb k ob KO v' := by rw [h0]
@[congr] theorem stK_congr {ob : Objs} {n : Nat} {KO : V → Objs → Prop} {u u' : V} {v v' : V} (h0 : u = u') (h1 : v = v') : stK ob n u KO v = stK ob n u' KO v' := by rw [h0, h1]
@[congr] theorem stKo_congr {ob : Objs} {k : Nat} {p : List Nat} {n : Nat} {u : V} {KO : V → Objs → Prop} {v v' : Option Ob} (h0 : v = v') : Xwz ob k p n u KO v = Xwz ob k p n u KO v' := by rw [h0]
@[congr] theorem stKt_congr {ob : Objs} {k : Nat} {p : List Nat} {n E : Nat} {u t : V} {KO : V → Objs → Prop} {v v' : Option V} (h0 : v = v') : Xw2 ob k p n E u t KO v = Xw2 ob k p n E u t KO v' := by rw [h0]
@[congr] theorem stKs_congr {ob : Objs} {k E : Nat} {KO : V → Objs → Prop} {v v' : Option V} (h0 : v = v') : X6z ob k E KO v = X6z ob k E KO v' := by rw [h0]
@[congr] theorem dK_congr {KD : List D → Prop} {v v' : Option (List D)} (h0 : v = v') : dK KD v = dK KD v' := by rw [h0]
@[congr] theorem callvK_congr {P : Prg} {ob : Objs} {KO : V → Objs → Prop} {Pn : V → Objs → Prop} {u u' : List V} {v v' : V} (h0 : u = u') (h1 : v = v') : Uv P u ob KO Pn v = Uv P u' ob KO Pn v' := by rw [h0, h1]
@[congr] theorem panicK_congr {ob : Objs} {Pn : V → Objs → Prop} {v v' : V} (h0 : v = v') : Jn ob Pn v = Jn ob Pn v' := by rw [h0]
@[congr] theorem srcK_congr {n : Nat} {KD : List D → Prop} {v v' : V} (h0 : v = v') : Xwy n KD v = Xwy n KD v' := by rw [h0]
@[congr] theorem appK_congr {E sz B : Nat} {ob : Objs} {xs : List D} {KO : V → Objs → Prop} {v v' : V} (h0 : v = v') : Xdf E sz B ob xs KO v = Xdf E sz B ob xs KO v' := by rw [h0]
@[congr] theorem appKo_congr {k E sz B n : Nat} {ob : Objs} {xs : List D} {KO : V → Objs → Prop} {v v' : Option Ob} (h0 : v = v') : Xdj k E sz B n ob xs KO v = Xdj k E sz B n ob xs KO v' := by rw [h0]
@[congr] theorem niloK_congr {E sz : Nat} {ob : Objs} {KO : V → Objs → Prop} {v v' : V} (h0 : v = v') : Xf8 E sz ob KO v = Xf8 E sz ob KO v' := by rw [h0]
@[congr] theorem srcSK_congr {KD : List D → Prop} {v v' : V} (h0 : v = v') : Xf2 KD v = Xf2 KD v' := by rw [h0]
@[congr] theorem pnilK_congr {e : Bool} {K : V → Prop} {v v' : V} (h0 : v = v') : Xky e K v = Xky e K v' := by rw [h0]
@[congr] theorem fnilK_congr {e : Bool} {K : V → Prop} {v v' : V} (h0 : v = v') : Xao e K v = Xao e K v' := by rw [h0]
@[congr] theorem peqK_congr {ob : Objs} {e : Bool} {K : V → Prop} {u u' v v' : V} (h1 : u = u') (h0 : v = v') : X60 ob e K u v = X60 ob e K u' v' := by rw [h0, h1]
@[congr] theorem givK_congr {KO : V → Objs → Prop} {v v' : Option (D × Objs)} (h0 : v = v') : Xid KO v = Xid KO v' := by rw [h0]
@[congr] theorem givsK_congr {KO : List D → Objs → Prop} {v v' : Option (List D × Objs)} (h0 : v = v') : Ww KO v = Ww KO v' := by rw [h0]
@[congr] theorem gvO_congr {u : V} {ob : Objs} {KO : V → Objs → Prop} {v v' : Option (D × Objs)} (h0 : v = v') : gvO u ob KO v = gvO u ob KO v' := by rw [h0]
@[congr] theorem gvsK_congr {KL : List V → Objs → Prop} {u u' : List V} {ob ob' : Objs} (h0 : u = u') (h1 : ob = ob') : Xey u ob KL = Xey u' ob' KL := by rw [h0, h1]
@[congr] theorem leaveK_congr {n : Nat} {K : Objs → Prop} {u u' : List V} {ob ob' : Objs} (h0 : u = u') (h1 : ob = ob') : Ys n K u ob = Ys n K u' ob' := by rw [h0, h1]
@[congr] theorem ldfK_congr {n : Nat} {b : Bool} {ob : Objs} {KO : V → Objs → Prop} {v v' : V} (h0 : v = v') : Xs5 n b ob KO v = Xs5 n b ob KO v' := by rw [h0]
@[congr] theorem ldfKo_congr {n : Nat} {b : Bool} {ob : Objs} {KO : V → Objs → Prop} {v v' : Option V} (h0 : v = v') : Xdg n b ob KO v = Xdg n b ob KO v' := by rw [h0]
@[congr] theorem mvgK_congr {ob : Objs} {E sz : Nat} {p : List Nat} {KO : V → Objs → Prop} {u u' v v' : V} (h1 : u = u') (h0 : v = v') : Xg4 ob E sz p u KO v = Xg4 ob E sz p u' KO v' := by rw [h0, h1]
@[congr] theorem mvgKt_congr {ob : Objs} {k E sz : Nat} {p p' : List Nat} {KO : V → Objs → Prop} {u : V} {v v' : Option Ob} (h1 : p = p') (h0 : v = v') : Xdi ob k p E sz u KO v = Xdi ob k p' E sz u KO v' := by rw [h0, h1]
@[congr] theorem mvgKs_congr {ob : Objs} {k E0 E sz : Nat} {KO : V → Objs → Prop} {u : V} {v v' : Option V} (h0 : v = v') : Xh8 ob k E0 E sz u KO v = Xh8 ob k E0 E sz u KO v' := by rw [h0]
@[congr] theorem cvbK_congr {ob : Objs} {KO : V → Objs → Prop} {v v' : V} (h0 : v = v') : Xus ob KO v = Xus ob KO v' := by rw [h0]
@[congr] theorem cvbKo_congr {k n : Nat} {ob : Objs} {KO : V → Objs → Prop} {v v' : Option Ob} (h0 : v = v') : Xe8 k n ob KO v = Xe8 k n ob KO v' := by rw [h0]
@[congr] theorem usdK_congr {ob : Objs} {K : V → Prop} {v v' : V} (h0 : v = v') : Xpn ob K v = Xpn ob K v' := by rw [h0]
@[congr] theorem ustrK_congr {E : Nat} {ob : Objs} {KO : V → Objs → Prop} {u u' v v' : V} (h1 : u = u') (h0 : v = v') : J8 E ob KO u v = J8 E ob KO u' v' := by rw [h0, h1]
@[congr] theorem ustrKo_congr {k n : Nat} {m : Int} {E : Nat} {ob : Objs} {KO : V → Objs → Prop} {v v' : Option Ob} (h0 : v = v') : Js k n m E ob KO v = Js k n m E ob KO v' := by rw [h0]
@[congr] theorem resK_congr {sl : Xc} {ob : Objs} {rs : List RV} {KL : List V → Prop} : W8 sl ob rs KL = W8 sl ob rs KL := rfl
@[congr] theorem ACall_congr {P : Prg} {f : Nat} {vs vs' : List V} {ob ob' : Objs} {K : Out → Objs → Prop} (h : vs = vs') (h' : ob = ob') : ACall P f vs ob K = ACall P f vs' ob' K := by rw [h, h']
@[congr] theorem PCall_congr {P : Prg} {f : Nat} {vs vs' : List V} {ob ob' : Objs} {K : V → Prop} (h : vs = vs') (h' : ob = ob') : PCall P f vs ob K = PCall P f vs' ob' K := by rw [h, h']
@[congr] theorem ALoop_congr {keep : List Nat} {body : W7 → Xc → Objs → Prop} {Q : W7} {sl sl' : Xc} {ob ob' : Objs} (h : sl = sl') (h' : ob = ob') : ALoop keep body Q sl ob = ALoop keep body Q sl' ob' := by rw [h, h']

theorem ALoop.of {keep : List Nat} {body : W7 → Xc → Objs → Prop} {Q : W7} {sl : Xc} {ob : Objs} {ι : Type} (S : ι → Xc) (O : ι → Objs) (I : ι → Prop) (μ : ι → Nat) (i0 : ι) (h0 : I i0) (hs : Xi sl keep = S i0) (ho : ob = O i0)
  (step : ∀ i, I i → body (Ub (sub keep (fresh (O i)) fun sl' ob' => ∃ j, I j ∧ μ j < μ i ∧ sl' = S j ∧ ob' = O j) Q) (S i) (O i)) : ALoop keep body Q sl ob :=
 ⟨⟨ι, S, O, I, μ, i0, h0, hs, ho, step⟩⟩

theorem ALoop.go {keep : List Nat} {body : W7 → Xc → Objs → Prop} {Q : W7} {sl : Xc} {ob : Objs} {ι : Type} (S : ι → Xc) (O : ι → Objs) (I : ι → Prop) (μ : ι → Nat) (i0 : ι) (h0 : I i0) (hs : Xi sl keep = S i0) (ho : ob = O i0)
  (step : ∀ i, I i → ∀ R : W7, (∀ kp j sl' ob', I j → μ j < μ i → Xi sl' keep = S j → Z6 (young (fresh (O i)) kp) ob' = O j → Q7 (young (fresh (O i)) kp) (S j) = true → noMenO (young (fresh (O i)) kp) (O j) = true → R .normal sl' ob') →
   (∀ n sl' ob', Q (.exit n) sl' ob' → R (.exit n) sl' ob') → (∀ sl' ob', Q .ret sl' ob' → R .ret sl' ob') → (∀ v sl' ob', Q (.panic v) sl' ob' → R (.panic v) sl' ob') → body R (S i) (O i)) : ALoop keep body Q sl ob := by
 refine ALoop.of S O I μ i0 h0 hs ho fun i hi => step i hi _ (fun kp j sl' ob' h1 h2 h3 h4 h5 h6 => ?_) (fun _ _ _ h => h) (fun _ _ h => h) (fun _ _ _ h => h)
 simp only [Ub, sub]
 refine ⟨kp, ?_⟩
 rw [h3, h4]
 exact ⟨h5, h6, j, h1, h2, rfl, rfl⟩
@[congr] theorem cwp_congr {P : Prg} {s : S} {Q : W7} {sl sl' : Xc} {ob ob' : Objs} (h : sl = sl') (h' : ob = ob') : cwp P s Q sl ob = cwp P s Q sl' ob' := by rw [h, h']
end Go.Ab
/- Expressions: what an operation that only reads yields, as a value. Over any program; no condition. -/
namespace Go.Ab
open Go

def Xc1 : V → V → V → V
 | .d (.bool t), .d (.bool x), .d (.bool y) => .d (.bool (if t then x else y))
 | .d (.bool t), x, y => if t then x else y
 | _, _, _ => .any
def X46 : V → V
 | .d (.bool b) => .d (.bool (!b))
 | _ => .any
def X43 : V → V
 | .d (.int k n) => .d (.int k (k.wrap (0 - n)))
 | _ => .any
def Xa1 (op : BinOp) (k : IntKind) (a b : Int) : V :=
 match op with
 | .add => .d (.int k (k.wrap (a + b)))
 | .sub => .d (.int k (k.wrap (a - b)))
 | .mul => .d (.int k (k.wrap (a * b)))
 | .quo => .d (.int k (k.wrap (a.tdiv b)))
 | .rem => .d (.int k (a.tmod b))
 | .and | .or | .xor | .andNot => .d (.int k (X2d op k a b))
 | .shl => .d (.int k (k.wrap (a * 2 ^ (min b.toNat k.bits))))
 | .shr => .d (.int k (a.fdiv (2 ^ (min b.toNat k.bits))))
 | .eql => .d (.bool (a == b))
 | .neq => .d (.bool (a != b))
 | .lss => .d (.bool (decide (a < b)))
 | .leq => .d (.bool (decide (a ≤ b)))
 | .gtr => .d (.bool (decide (b < a)))
 | .geq => .d (.bool (decide (b ≤ a)))
def X00 (op : BinOp) (x y : List UInt8) : V :=
 match op with
 | .add => .d (.str (x ++ y))
 | .eql => .d (.bool (x == y))
 | .neq => .d (.bool (x != y))
 | .lss => .d (.bool (Op.bytesLess x y))
 | .leq => .d (.bool (Op.bytesLess x y || x == y))
 | .gtr => .d (.bool (!(Op.bytesLess x y || x == y)))
 | .geq => .d (.bool (!Op.bytesLess x y))
 | _ => .any
def X4q (op : BinOp) : V → V → V
 | .d (.int k a), .d (.int _ b) => Xa1 op k a b
 | .d (.str x), .d (.str y) => X00 op x y
 | _, _ => .any
def Yet (e : Bool) : V → V → V
 | .d (.bool x), .d (.bool y) => .d (.bool ((x == y) == e))
 | _, _ => .any
def Jh (e : Bool) : V → V
 | .d .nili => .d (.bool e)
 | .iface _ _ => .d (.bool (!e))
 | .d (.iface _ _) => .d (.bool (!e))
 | _ => .any
def X29 (e : Bool) : V → V
 | .d .nilp => .d (.bool e)
 | .d (.ref _) => .d (.bool (!e))
 | .ptr _ _ => .d (.bool (!e))
 | _ => .any
def Xgq (e : Bool) : V → V
 | .d .nilf => .d (.bool e)
 | .d (.fn _ _ _) => .d (.bool (!e))
 | .fn _ _ _ => .d (.bool (!e))
 | _ => .any
def X56 : V → V
 | .sl id n => .sd id n
 | .d .nils => .d .nilp
 | _ => .any
def X3u (k : IntKind) : V → V
 | .d (.int _ n) => .d (.int k (k.wrap n))
 | _ => .any
def Yeo : V → V
 | .d (.str s) => .d (.str s)
 | _ => .any
def X9w : V → V → V
 | .d (.str s), .d (.int _ n) => .d (.int .u8 (s.getD n.toNat 0).toNat)
 | _, _ => .any
def Xoz : V → V → V
 | .d (.list _ xs), .d (.int _ n) => .d (.ref (xs.getD n.toNat default))
 | _, _ => .any
def Xgo : V → V → V
 | .ptr id p, .d (.int _ n) => .ptr id (p ++ [n.toNat])
 | .d (.ref (.agg xs)), .d (.int _ n) => .d (.ref (xs.getD n.toNat default))
 | _, _ => .any
def Xik (f : Nat) : V → V
 | .ptr id p => .ptr id (p ++ [f])
 | .d (.ref (.agg xs)) => .d (.ref (xs.getD f default))
 | _ => .any
def X6l (f : Nat) : Option (List V) → V
 | some ks => ks.getD f .any
 | none => .any
def X9b : Option V → V
 | some v => v
 | none => .any
def ldV (ob : Objs) : V → V
 | .ptr id p => X9b (atO ob id p)
 | .d (.ref x) => .d x
 | _ => .any
def Xj6 : V → V
 | .d (.str s) => .d (.int .i64 s.length)
 | _ => .any
def Xdn : V → V
 | .d (.list _ xs) => .d (.int .i64 xs.length)
 | .d .nils => .d (.int .i64 0)
 | .sl _ n => .d (.int .i64 n)
 | _ => .any
def Xwv (len : Nat) (K : Nat → Nat → V) : Option V → Option V → V
 | none, none => K 0 len
 | some (.d (.int _ l)), none => K l.toNat len
 | none, some (.d (.int _ h)) => K 0 h.toNat
 | some (.d (.int _ l)), some (.d (.int _ h)) => K l.toNat h.toNat
 | _, _ => .any
def Jc (lo hi : Option V) : V → V
 | .d (.str s) => Xwv s.length (fun l h => .d (.str ((s.take h).drop l))) lo hi
 | _ => .any
def Xp2 (lo hi : Option V) : V → V
 | .d (.list sz xs) => Xwv xs.length (fun l h => .d (.list sz ((xs.take h).drop l))) lo hi
 | _ => .any
def X6k (i : Nat) : V → V
 | .tup xs => xs.getD i .any
 | _ => .any
def X6r (t : Nat) (z : D) : V → V
 | .iface t' v => if t' = t then .tup [v, .d (.bool true)] else .tup [.d z, .d (.bool false)]
 | .d (.iface t' x) => if t' = t then .tup [.d x, .d (.bool true)] else .tup [.d z, .d (.bool false)]
 | .d .nili => .tup [.d z, .d (.bool false)]
 | _ => .any

def X6p (e : Bool) : V → V → V
 | .d x, .d y => .d (.bool (D.eqb x y == e))
 | _, _ => .any
def Yfs : V → V → V
 | .d (.agg xs), .d (.int _ n) => .d (xs.getD n.toNat default)
 | _, _ => .any

def C.val (sl : Xc) (ob : Objs) : C → V
 | .mv x => x.ev sl
 | .pick c a b => Xc1 (c.ev sl) (a.ev sl) (b.ev sl)
 | .not x => X46 (x.ev sl)
 | .neg x => X43 (x.ev sl)
 | .bin op x y => X4q op (x.ev sl) (y.ev sl)
 | .beq e x y => Yet e (x.ev sl) (y.ev sl)
 | .isnil e x => Jh e (x.ev sl)
 | .pnil e x => X29 e (x.ev sl)
 | .fnil e x => Xgq e (x.ev sl)
 | .peq e _ _ => .d (.bool e)
 | .usd x => X56 (x.ev sl)
 | .cvi k x => X3u k (x.ev sl)
 | .cvs x => Yeo (x.ev sl)
 | .idx x i => X9w (x.ev sl) (i.ev sl)
 | .idxA _ x i => Xoz (x.ev sl) (i.ev sl)
 | .idxP _ _ x i => Xgo (x.ev sl) (i.ev sl)
 | .fldA f _ x => Xik f (x.ev sl)
 | .fld f _ _ _ x => X6l f (x.ev sl).kids
 | .ld _ _ x => ldV ob (x.ev sl)
 | .nilc x => x.ev sl
 | .lenS x => Xj6 (x.ev sl)
 | .lenL x => Xdn (x.ev sl)
 | .lenA n => .d (.int .i64 n)
 | .slcS x lo hi => Jc (lo.map (A.ev sl)) (hi.map (A.ev sl)) (x.ev sl)
 | .slcL _ x lo hi => Xp2 (lo.map (A.ev sl)) (hi.map (A.ev sl)) (x.ev sl)
 | .ext x i => X6k i (x.ev sl)
 | .bld _ _ => .any
 | .mkf f first cap => X14 f (first.map (A.ev sl)) (cap.map (A.ev sl))
 | .mki t x => Xxr t (x.ev sl)
 | .tas t z x => X6r t z (x.ev sl)
 | .eqD _ e x y => X6p e (x.ev sl) (y.ev sl)
 | .aix _ _ _ x i => Yfs (x.ev sl) (i.ev sl)

def C.ok (sl : Xc) (ob : Objs) (c : C) : Prop := c.wp sl ob fun v => v = c.val sl ob

theorem Xud {op : BinOp} {k k' : IntKind} {a b : Int} {K K' : V → Prop} (hk : ∀ v, K v → K' v) (h : Xqd op k k' a b K) : Xqd op k k' a b K' := by
 cases op <;> simp only [Xqd] at h ⊢ <;> first | exact ⟨h.1, hk _ h.2⟩ | exact ⟨h.1, h.2.1, hk _ h.2.2⟩
theorem Xq3 {op : BinOp} {a b : List UInt8} {K K' : V → Prop} (hk : ∀ v, K v → K' v) (h : Xqf op a b K) : Xqf op a b K' := by
 cases op <;> simp only [Xqf] at h ⊢ <;> first | exact hk _ h | exact ⟨h.1, hk _ h.2⟩ | exact h.elim
theorem Xh7 {n : Nat} {K K' : Nat → Nat → Prop} (hk : ∀ l h, K l h → K' l h) {lo hi : Option V} (h : J3 n K lo hi) : J3 n K' lo hi := by
 unfold J3 at h ⊢
 split <;> simp_all
theorem Jg {K K' : List V → Prop} (hk : ∀ l, K l → K' l) : ∀ (ps : List (Nat × V)) (ks : List V), Xaq ks ps K → Xaq ks ps K'
 | [], _, h => hk _ h
 | (_, _) :: r, _, h => ⟨h.1, h.2.1, h.2.2.1, Jg hk r _ h.2.2.2⟩
theorem C.wp_mono {sl : Xc} {ob : Objs} {K K' : V → Prop} (hk : ∀ v, K v → K' v) (c : C) (h : c.wp sl ob K) : c.wp sl ob K' := by
 cases c <;> simp only [C.wp] at h ⊢
 case mv => exact hk _ h
 case lenA => exact hk _ h
 case mkf => exact hk _ h
 case mki => exact hk _ h
 case bld => exact Jg (fun _ => hk _) _ _ h
 case bin x y =>
  generalize A.ev sl x = v at h ⊢; generalize A.ev sl y = u at h ⊢
  unfold Xm2 at h; split at h
  ·exact Xud hk h
  ·exact Xq3 hk h
  ·exact h.elim
 case slcS x lo hi =>
  generalize A.ev sl x = v at h ⊢
  unfold Xdh at h; split at h
  ·exact Xh7 (fun _ _ => hk _) h
  ·exact h.elim
 case slcL x lo hi =>
  generalize A.ev sl x = v at h ⊢
  unfold Xdo at h; split at h
  ·exact ⟨h.1, Xh7 (fun _ _ => hk _) h.2⟩
  ·exact h.elim
 case pick x y z =>
  generalize A.ev sl x = v at h ⊢; generalize A.ev sl y = u at h ⊢; generalize A.ev sl z = t at h ⊢
  unfold Ji at h; split at h
  ·exact hk _ h
  ·rename_i hn; simp only [Ji]; exact ⟨fun e => hk _ (h.1 e), fun e => hk _ (h.2 e)⟩
  ·exact h.elim
 case fld x =>
  generalize (A.ev sl x).kids = v at h ⊢
  unfold Xw1 at h; split at h
  ·exact ⟨h.1, h.2.1, h.2.2.1, h.2.2.2.1, hk _ h.2.2.2.2⟩
  ·exact h.elim
 case fldA x =>
  generalize A.ev sl x = v at h ⊢
  unfold Qm at h; split at h
  ·simp only [Qm]
   generalize Ut _ = v at h ⊢
   unfold Us at h; split at h
   ·exact ⟨h.1, h.2.1, hk _ h.2.2⟩
   ·exact h.elim
  ·exact ⟨h.1, h.2.1, hk _ h.2.2⟩
  ·exact h.elim
 case ld x =>
  generalize A.ev sl x = v at h ⊢
  unfold ldK at h; split at h
  ·simp only [ldK]
   generalize atO _ _ _ = v at h ⊢
   unfold Xws at h; split at h
   ·exact ⟨h.1, h.2.1, hk _ h.2.2⟩
   ·exact h.elim
  ·exact ⟨h.1, h.2.1, hk _ h.2.2⟩
  ·exact h.elim
 case tas x =>
  generalize A.ev sl x = v at h ⊢
  unfold Xw6 at h; split at h
  ·exact ⟨fun e => hk _ (h.1 e), fun e => hk _ (h.2 e)⟩
  ·exact ⟨fun e => hk _ (h.1 e), fun e => hk _ (h.2 e)⟩
  ·exact hk _ h
  ·exact h.elim
 case pnil x => generalize A.ev sl x = v at h ⊢; unfold Xky at h; split at h <;> first | exact hk _ h | exact h.elim
 case fnil x => generalize A.ev sl x = v at h ⊢; unfold Xao at h; split at h <;> first | exact hk _ h | exact h.elim
 case usd x => generalize A.ev sl x = v at h ⊢; unfold Xpn at h; split at h <;> first | exact ⟨h.1, hk _ h.2⟩ | exact hk _ h | exact h.elim
 case peq x y => generalize A.ev sl x = v at h ⊢; generalize A.ev sl y = u at h ⊢; unfold X60 at h; split at h <;> first | exact ⟨h.1, h.2.1, h.2.2.1, hk _ h.2.2.2⟩ | exact h.elim
 case not x => generalize A.ev sl x = v at h ⊢; unfold Xvj at h; split at h <;> first | exact hk _ h | exact h.elim
 case neg x => generalize A.ev sl x = v at h ⊢; unfold Xrz at h; split at h <;> first | exact hk _ h | exact h.elim
 case isnil x => generalize A.ev sl x = v at h ⊢; unfold Vc at h; split at h <;> first | exact hk _ h | exact h.elim
 case cvi x => generalize A.ev sl x = v at h ⊢; unfold Xqx at h; split at h <;> first | exact hk _ h | exact h.elim
 case cvs x => generalize A.ev sl x = v at h ⊢; unfold X5s at h; split at h <;> first | exact hk _ h | exact h.elim
 case nilc x => generalize A.ev sl x = v at h ⊢; unfold Xbp at h; split at h <;> first | exact hk _ h | exact h.elim
 case lenS x => generalize A.ev sl x = v at h ⊢; unfold Xca at h; split at h <;> first | exact hk _ h | exact h.elim
 case lenL x => generalize A.ev sl x = v at h ⊢; unfold Jz at h; split at h <;> first | exact hk _ h | exact ⟨h.1, hk _ h.2⟩ | exact h.elim
 case ext x _ => generalize A.ev sl x = v at h ⊢; unfold Xw5 at h; split at h <;> first | exact ⟨h.1, hk _ h.2⟩ | exact h.elim
 case eqD x y => generalize A.ev sl x = v at h ⊢; generalize A.ev sl y = u at h ⊢; unfold Ya8 at h; split at h <;> first | exact ⟨h.1, h.2.1, hk _ h.2.2⟩ | exact h.elim
 case aix x y => generalize A.ev sl x = v at h ⊢; generalize A.ev sl y = u at h ⊢; unfold Xyj at h; split at h <;> first | exact ⟨h.1, h.2.1, h.2.2.1, hk _ h.2.2.2⟩ | exact h.elim
 case beq x y => generalize A.ev sl x = v at h ⊢; generalize A.ev sl y = u at h ⊢; unfold X27 at h; split at h <;> first | exact hk _ h | exact h.elim
 case idx x y => generalize A.ev sl x = v at h ⊢; generalize A.ev sl y = u at h ⊢; unfold Xw0 at h; split at h <;> first | exact ⟨h.1, hk _ h.2⟩ | exact h.elim
 case idxA x y => generalize A.ev sl x = v at h ⊢; generalize A.ev sl y = u at h ⊢; unfold Xc8 at h; split at h <;> first | exact ⟨h.1, h.2.1, hk _ h.2.2⟩ | exact h.elim
 case idxP x y => generalize A.ev sl x = v at h ⊢; generalize A.ev sl y = u at h ⊢; unfold Xbm at h; split at h <;> first | exact ⟨h.1, h.2.1, hk _ h.2.2⟩ | exact ⟨h.1, h.2.1, h.2.2.1, hk _ h.2.2.2⟩ | exact h.elim
theorem C.wp_of {sl : Xc} {ob : Objs} {K : V → Prop} {c : C} (h : c.ok sl ob) (hK : K (c.val sl ob)) : c.wp sl ob K :=
 C.wp_mono (fun _ e => e ▸ hK) c h
end Go.Ab
/- Regions folded into expressions: the expressions, what they yield, and how a region is folded. Over any program; no condition. -/
namespace Go.Ab
open Go

inductive E where
 | a (x : A)
 | u (c : C) (x : E)
 | b (c : C) (x y : E)
 | t (c : C) (x y z : E)
 | ite (c x y : E)
 | call (f : Nat) (x : E)
 | nil
 | cons (x r : E)

structure Fn where
 pre : List V → Prop
 val : List V → V
abbrev Tab := List (Nat × Fn)
def Qz : Tab → Nat → Option Fn
 | [], _ => none
 | (j, x) :: r, k => if j = k then some x else Qz r k
def TOk (P : Prg) (T : Tab) : Prop := ∀ f F, Qz T f = some F → ∀ vs, F.pre vs → ∀ (ob : Objs) (K : V → Prop), K (F.val vs) → PCall P f vs ob K

def isB (pol : Bool) : V → Bool
 | .d (.bool b) => b == pol
 | _ => false
def Xcd : V → Prop
 | .d (.bool _) => True
 | _ => False
def Xt0 (x : V) : V → V
 | .tup xs => .tup (x :: xs)
 | _ => .any
def Xzc : Option Fn → V → V
 | some F, .tup vs => F.val vs
 | _, _ => .any
def Xzd : Option Fn → V → Prop
 | some F, .tup vs => F.pre vs
 | _, _ => False

def E.val (T : Tab) (sl : Xc) (ob : Objs) : E → V
 | .a x => x.ev sl
 | .u c x => c.val [(0, x.val T sl ob)] ob
 | .b c x y => c.val [(0, x.val T sl ob), (1, y.val T sl ob)] ob
 | .t c x y z => c.val [(0, x.val T sl ob), (1, y.val T sl ob), (2, z.val T sl ob)] ob
 | .ite c x y => Xc1 (c.val T sl ob) (x.val T sl ob) (y.val T sl ob)
 | .call f x => Xzc (Qz T f) (x.val T sl ob)
 | .nil => .tup []
 | .cons x r => Xt0 (x.val T sl ob) (r.val T sl ob)
def E.ok (T : Tab) (sl : Xc) (ob : Objs) : E → Prop
 | .a _ => True
 | .u c x => x.ok T sl ob ∧ c.ok [(0, x.val T sl ob)] ob
 | .b c x y => x.ok T sl ob ∧ y.ok T sl ob ∧ c.ok [(0, x.val T sl ob), (1, y.val T sl ob)] ob
 | .t c x y z => x.ok T sl ob ∧ y.ok T sl ob ∧ z.ok T sl ob ∧ c.ok [(0, x.val T sl ob), (1, y.val T sl ob), (2, z.val T sl ob)] ob
 | .ite c x y => c.ok T sl ob ∧ Xcd (c.val T sl ob) ∧ (isB true (c.val T sl ob) = true → x.ok T sl ob) ∧ (isB false (c.val T sl ob) = true → y.ok T sl ob)
 | .call f x => x.ok T sl ob ∧ Xzd (Qz T f) (x.val T sl ob)
 | .nil => True
 | .cons x r => x.ok T sl ob ∧ r.ok T sl ob

def A.men (k : Nat) : A → Bool
 | .t j => j == k
 | _ => false
def E.men (k : Nat) : E → Bool
 | .a x => x.men k
 | .u _ x => x.men k
 | .b _ x y => x.men k || y.men k
 | .t _ x y z => x.men k || y.men k || z.men k
 | .ite x y z => x.men k || y.men k || z.men k
 | .call _ x => x.men k
 | .nil => false
 | .cons x y => x.men k || y.men k
def C.rd : C → Bool
 | .ld _ _ _ => true
 | _ => false
def E.rd : E → Bool
 | .a _ => false
 | .u c x => c.rd || x.rd
 | .b c x y => c.rd || x.rd || y.rd
 | .t c x y z => c.rd || x.rd || y.rd || z.rd
 | .ite x y z => x.rd || y.rd || z.rd
 | .call _ x => x.rd
 | .nil => false
 | .cons x y => x.rd || y.rd
def E.isA : E → Bool
 | .a _ => true
 | _ => false

theorem E.val_sl {T : Tab} {sl : Xc} {ob : Objs} {k : Nat} {v : V} : ∀ {e : E}, e.men k = false → e.val T ((k, v) :: sl) ob = e.val T sl ob
 | .a x, h => by
  cases x <;> simp only [E.val, A.ev]
  rename_i j
  simp only [E.men, A.men, beq_eq_false_iff_ne, ne_eq] at h
  have h' : ¬ k = j := fun e => h e.symm
  simp [look, h']
 | .u c x, h => by simp only [E.men] at h; simp only [E.val, E.val_sl h]
 | .b c x y, h => by simp only [E.men, Bool.or_eq_false_iff] at h; simp only [E.val, E.val_sl h.1, E.val_sl h.2]
 | .t c x y z, h => by simp only [E.men, Bool.or_eq_false_iff] at h; simp only [E.val, E.val_sl h.1.1, E.val_sl h.1.2, E.val_sl h.2]
 | .ite x y z, h => by simp only [E.men, Bool.or_eq_false_iff] at h; simp only [E.val, E.val_sl h.1.1, E.val_sl h.1.2, E.val_sl h.2]
 | .call f x, h => by simp only [E.men] at h; simp only [E.val, E.val_sl h]
 | .nil, _ => rfl
 | .cons x y, h => by simp only [E.men, Bool.or_eq_false_iff] at h; simp only [E.val, E.val_sl h.1, E.val_sl h.2]
theorem C.val_ob {sl : Xc} {ob ob' : Objs} {c : C} (h : c.rd = false) : c.val sl ob = c.val sl ob' := by
 cases c <;> simp_all [C.rd, C.val]
theorem E.val_ob {T : Tab} {sl : Xc} {ob ob' : Objs} : ∀ {e : E}, e.rd = false → e.val T sl ob = e.val T sl ob'
 | .a x, h => rfl
 | .u c x, h => by simp only [E.rd, Bool.or_eq_false_iff] at h; simp only [E.val, E.val_ob (ob' := ob') h.2, C.val_ob (ob' := ob') h.1]
 | .b c x y, h => by simp only [E.rd, Bool.or_eq_false_iff] at h; simp only [E.val, E.val_ob (ob' := ob') h.1.2, E.val_ob (ob' := ob') h.2, C.val_ob (ob' := ob') h.1.1]
 | .t c x y z, h => by simp only [E.rd, Bool.or_eq_false_iff] at h; simp only [E.val, E.val_ob (ob' := ob') h.1.1.2, E.val_ob (ob' := ob') h.1.2, E.val_ob (ob' := ob') h.2, C.val_ob (ob' := ob') h.1.1.1]
 | .ite x y z, h => by simp only [E.rd, Bool.or_eq_false_iff] at h; simp only [E.val, E.val_ob (ob' := ob') h.1.1, E.val_ob (ob' := ob') h.1.2, E.val_ob (ob' := ob') h.2]
 | .call f x, h => by simp only [E.rd] at h; simp only [E.val, E.val_ob (ob' := ob') h]
 | .nil, _ => rfl
 | .cons x y, h => by simp only [E.rd, Bool.or_eq_false_iff] at h; simp only [E.val, E.val_ob (ob' := ob') h.1, E.val_ob (ob' := ob') h.2]


abbrev Uc := List (Nat × Bool)
abbrev Sg := List (Nat × Option (Uc × E))
def Wa : Sg → Nat → Option (Option (Uc × E))
 | [], _ => none
 | (j, x) :: r, k => if j = k then some x else Wa r k
def ent (σ : Sg) (k : Nat) : Option (Uc × E) := match Wa σ k with
 | none => some ([], .a (.t k))
 | some x => x
def Xt (sl : Xc) (p : Uc) : Bool := p.all fun g => isB g.2 (look sl g.1)
def Zl (T : Tab) (sl : Xc) (ob : Objs) (p : List (E × Bool)) : Bool := p.all fun g => isB g.2 (g.1.val T sl ob)
def Inv (T : Tab) (σ : Sg) (sl sl0 : Xc) (ob : Objs) : Prop := ∀ k p e, ent σ k = some (p, e) →
 (Xt sl p = true → look sl k = e.val T sl0 ob) ∧ (Xt sl p = false → look sl k = .undef)

def opE (σ : Sg) (p : Uc) : A → Option E
 | .t k => match ent σ k with
  | some (q, e) => if q.isPrefixOf p then some e else none
  | none => none
 | x => some (.a x)
def Wo (σ : Sg) (p : Uc) (c : C) (x : A) : Option E := match opE σ p x with
 | some x => some (.u c x)
 | none => none
def U8 (σ : Sg) (p : Uc) (c : C) (x y : A) : Option E := match opE σ p x, opE σ p y with
 | some x, some y => some (.b c x y)
 | _, _ => none
def Xpc (σ : Sg) (p : Uc) (c : C) (x y z : A) : Option E := match opE σ p x, opE σ p y, opE σ p z with
 | some x, some y, some z => some (.t c x y z)
 | _, _, _ => none
def X3w (σ : Sg) (p : Uc) (g : Nat) (x y : A) : Option E := match opE σ p (.t g), opE σ (p ++ [(g, true)]) x, opE σ (p ++ [(g, false)]) y with
 | some c, some x, some y => some (.ite c x y)
 | _, _, _ => none
def Xjp (σ : Sg) (p : Uc) : List A → Option E
 | [] => some .nil
 | x :: r => match opE σ p x, Xjp σ p r with
  | some x, some r => some (.cons x r)
  | _, _ => none

def C.lift (σ : Sg) (p : Uc) : C → Option E
 | .mv x => opE σ p x
 | .pick (.t g) x y => X3w σ p g x y
 | .pick _ _ _ => none
 | .not x => Wo σ p (.not (.t 0)) x
 | .neg x => Wo σ p (.neg (.t 0)) x
 | .bin o x y => U8 σ p (.bin o (.t 0) (.t 1)) x y
 | .beq e x y => U8 σ p (.beq e (.t 0) (.t 1)) x y
 | .isnil e x => Wo σ p (.isnil e (.t 0)) x
 | .pnil e x => Wo σ p (.pnil e (.t 0)) x
 | .fnil e x => Wo σ p (.fnil e (.t 0)) x
 | .peq e x y => U8 σ p (.peq e (.t 0) (.t 1)) x y
 | .usd x => Wo σ p (.usd (.t 0)) x
 | .cvi k x => Wo σ p (.cvi k (.t 0)) x
 | .cvs x => Wo σ p (.cvs (.t 0)) x
 | .idx x i => U8 σ p (.idx (.t 0) (.t 1)) x i
 | .idxA z x i => U8 σ p (.idxA z (.t 0) (.t 1)) x i
 | .idxP n z x i => U8 σ p (.idxP n z (.t 0) (.t 1)) x i
 | .fldA f fo x => Wo σ p (.fldA f fo (.t 0)) x
 | .fld f fo n ag x => Wo σ p (.fld f fo n ag (.t 0)) x
 | .ld n ag x => Wo σ p (.ld n ag (.t 0)) x
 | .nilc x => Wo σ p (.nilc (.t 0)) x
 | .lenS x => Wo σ p (.lenS (.t 0)) x
 | .lenL x => Wo σ p (.lenL (.t 0)) x
 | .lenA n => some (.a (.int .i64 n))
 | .slcS x none none => Wo σ p (.slcS (.t 0) none none) x
 | .slcS x (some l) none => U8 σ p (.slcS (.t 0) (some (.t 1)) none) x l
 | .slcS x none (some h) => U8 σ p (.slcS (.t 0) none (some (.t 1))) x h
 | .slcS x (some l) (some h) => Xpc σ p (.slcS (.t 0) (some (.t 1)) (some (.t 2))) x l h
 | .slcL z x none none => Wo σ p (.slcL z (.t 0) none none) x
 | .slcL z x (some l) none => U8 σ p (.slcL z (.t 0) (some (.t 1)) none) x l
 | .slcL z x none (some h) => U8 σ p (.slcL z (.t 0) none (some (.t 1))) x h
 | .slcL z x (some l) (some h) => Xpc σ p (.slcL z (.t 0) (some (.t 1)) (some (.t 2))) x l h
 | .ext x i => Wo σ p (.ext (.t 0) i) x
 | .mki t x => Wo σ p (.mki t (.t 0)) x
 | .tas t z x => Wo σ p (.tas t z (.t 0)) x
 | .eqD ty e x y => U8 σ p (.eqD ty e (.t 0) (.t 1)) x y
 | .aix n z ag x i => U8 σ p (.aix n z ag (.t 0) (.t 1)) x i
 | .bld _ _ => none
 | .mkf _ _ _ => none
def I.lift (fs : List Nat) (σ : Sg) (p : Uc) : I → Option E
 | .c x => x.lift σ p
 | .pcall f args => if fs.contains f then (match Xjp σ p args with | some e => some (.call f e) | none => none) else none
 | _ => none

def Xc3 (σ : Sg) (p : Uc) : A → List Nat
 | .t k => match ent σ k with
  | some (q, _) => if q == p then [k] else []
  | none => []
 | _ => []
def X99 (σ : Sg) (p : Uc) : List A → List Nat
 | [] => []
 | x :: r => Xc3 σ p x ++ X99 σ p r
def C.cons (σ : Sg) (p : Uc) : C → List Nat
 | .mv x | .not x | .neg x | .isnil _ x | .pnil _ x | .fnil _ x | .usd x | .cvi _ x | .cvs x | .fldA _ _ x | .fld _ _ _ _ x | .ld _ _ x | .nilc x | .lenS x | .lenL x | .ext x _ | .mki _ x | .tas _ _ x => Xc3 σ p x
 | .bin _ x y | .beq _ x y | .peq _ x y | .idx x y | .idxA _ x y | .idxP _ _ x y | .eqD _ _ x y | .aix _ _ _ x y => Xc3 σ p x ++ Xc3 σ p y
 | .slcS x none none | .slcL _ x none none => Xc3 σ p x
 | .slcS x (some y) none | .slcL _ x (some y) none | .slcS x none (some y) | .slcL _ x none (some y) => Xc3 σ p x ++ Xc3 σ p y
 | .slcS x (some y) (some z) | .slcL _ x (some y) (some z) => Xc3 σ p x ++ Xc3 σ p y ++ Xc3 σ p z
 | .pick (.t g) x y => Xc3 σ p (.t g) ++ Xc3 σ (p ++ [(g, true)]) x ++ Xc3 σ (p ++ [(g, false)]) y
 | _ => []
def I.cons (σ : Sg) (p : Uc) : I → List Nat
 | .c x => x.cons σ p
 | .pcall _ args => X99 σ p args
 | _ => []
def I.gcons (σ : Sg) (p : Uc) : I → List Nat
 | .c (.pick (.t g) _ _) => Xc3 σ p (.t g)
 | _ => []

section
variable {P : Prg} {T : Tab} {σ : Sg} {sl sl0 : Xc} {ob : Objs} {p : Uc}

theorem Xbg {q : Uc} (h : q.isPrefixOf p = true) (hp : Xt sl p = true) : Xt sl q = true := by
 rw [List.isPrefixOf_iff_prefix] at h
 obtain ⟨t, rfl⟩ := h
 simp only [Xt, List.all_append, Bool.and_eq_true] at hp ⊢
 exact hp.1
theorem Zp (hI : Inv T σ sl sl0 ob) (hp : Xt sl p = true) {x : A} {e : E} (h : opE σ p x = some e) : e.val T sl0 ob = x.ev sl := by
 cases x with
 | t k =>
  simp only [opE] at h
  split at h
  ·rename_i q e' he
   split at h
   ·rename_i hq
    cases h
    exact ((hI k q e he).1 (Xbg hq hp)).symm
   ·cases h
  ·cases h
 | _ => simp only [opE] at h; cases h; rfl
theorem Xog {c : C} {x : A} {e : E} (h : Wo σ p c x = some e) : ∃ ex, e = .u c ex ∧ opE σ p x = some ex := by
 unfold Wo at h; split at h
 ·cases h; exact ⟨_, rfl, by assumption⟩
 ·cases h
theorem Xn4 {c : C} {x y : A} {e : E} (h : U8 σ p c x y = some e) : ∃ ex ey, e = .b c ex ey ∧ opE σ p x = some ex ∧ opE σ p y = some ey := by
 unfold U8 at h; split at h
 ·cases h; exact ⟨_, _, rfl, by assumption, by assumption⟩
 ·cases h
theorem Xnx {c : C} {x y z : A} {e : E} (h : Xpc σ p c x y z = some e) : ∃ ex ey ez, e = .t c ex ey ez ∧ opE σ p x = some ex ∧ opE σ p y = some ey ∧ opE σ p z = some ez := by
 unfold Xpc at h; split at h
 ·cases h; exact ⟨_, _, _, rfl, by assumption, by assumption, by assumption⟩
 ·cases h
theorem Xev {g : Nat} {x y : A} {e : E} (h : X3w σ p g x y = some e) : ∃ ec ex ey, e = .ite ec ex ey ∧ opE σ p (.t g) = some ec ∧ opE σ (p ++ [(g, true)]) x = some ex ∧ opE σ (p ++ [(g, false)]) y = some ey := by
 unfold X3w at h; split at h
 ·cases h; exact ⟨_, _, _, rfl, by assumption, by assumption, by assumption⟩
 ·cases h
theorem Xhj (hI : Inv T σ sl sl0 ob) (hp : Xt sl p = true) : ∀ {xs : List A} {e : E}, Xjp σ p xs = some e → e.val T sl0 ob = .tup (xs.map (A.ev sl))
 | [], e, h => by simp only [Xjp] at h; cases h; rfl
 | x :: r, e, h => by
  simp only [Xjp] at h
  split at h
  ·rename_i ex er hx hr
   cases h
   simp only [E.val, Zp hI hp hx, Xhj hI hp hr, Xt0, List.map_cons]
  ·cases h
theorem Xqh (x y : V) : Xc1 (.d (.bool true)) x y = x := by unfold Xc1; split <;> simp_all
theorem Xwc (x y : V) : Xc1 (.d (.bool false)) x y = y := by unfold Xc1; split <;> simp_all
theorem Xuz {v : V} (h : ¬ Xcd v) (x y : V) : Xc1 v x y = .any := by unfold Xc1; split <;> simp_all [Xcd]
theorem Xge {v : V} (h : Xcd v) : v = .d (.bool true) ∨ v = .d (.bool false) := by
 unfold Xcd at h; split at h
 ·rename_i b; cases b <;> simp
 ·exact h.elim

theorem C.lift_sound (hI : Inv T σ sl sl0 ob) (hp : Xt sl p = true) {c : C} {e : E} (h : c.lift σ p = some e) : e.val T sl0 ob = c.val sl ob ∧ (e.ok T sl0 ob → c.ok sl ob) := by
 have l1 : ∀ {c x}, Wo σ p c x = some e → ∃ ex, e = .u c ex ∧ ex.val T sl0 ob = x.ev sl := fun h => by
  obtain ⟨ex, rfl, hx⟩ := Xog h; exact ⟨ex, rfl, Zp hI hp hx⟩
 have l2 : ∀ {c x y}, U8 σ p c x y = some e → ∃ ex ey, e = .b c ex ey ∧ ex.val T sl0 ob = x.ev sl ∧ ey.val T sl0 ob = y.ev sl := fun h => by
  obtain ⟨ex, ey, rfl, hx, hy⟩ := Xn4 h; exact ⟨ex, ey, rfl, Zp hI hp hx, Zp hI hp hy⟩
 have l3 : ∀ {c x y z}, Xpc σ p c x y z = some e → ∃ ex ey ez, e = .t c ex ey ez ∧ ex.val T sl0 ob = x.ev sl ∧ ey.val T sl0 ob = y.ev sl ∧ ez.val T sl0 ob = z.ev sl := fun h => by
  obtain ⟨ex, ey, ez, rfl, hx, hy, hz⟩ := Xnx h; exact ⟨ex, ey, ez, rfl, Zp hI hp hx, Zp hI hp hy, Zp hI hp hz⟩
 unfold C.lift at h
 split at h
 case h_1 => exact ⟨by rw [Zp hI hp h]; rfl, fun _ => rfl⟩
 case h_2 g x y =>
  obtain ⟨ec, ex, ey, rfl, hc, hx, hy⟩ := Xev h
  have hcv := Zp hI hp hc
  simp only [A.ev] at hcv
  have hpt : ∀ b, look sl g = .d (.bool b) → Xt sl (p ++ [(g, b)]) = true := fun b hb => by
   simp only [Xt, List.all_append, Bool.and_eq_true] at hp ⊢
   exact ⟨hp, by simp [hb, isB]⟩
  simp only [E.val, E.ok, C.val, C.ok, C.wp, Ycn, hcv]
  by_cases hb : Xcd (look sl g)
  ·rcases Xge hb with hb | hb
   ·have := Zp hI (hpt true hb) hx
    rw [hb]; simp only [Xqh, X4u, this]; exact ⟨trivial, fun _ => trivial⟩
   ·have := Zp hI (hpt false hb) hy
    rw [hb]; simp only [Xwc, X5n, this]; exact ⟨trivial, fun _ => trivial⟩
  ·rw [Xuz hb, Xuz hb]; exact ⟨rfl, fun h => (hb h.2.1).elim⟩
 case h_24 => cases h; exact ⟨rfl, fun _ => rfl⟩
 all_goals first
  | (cases h; done)
  | (obtain ⟨ex, rfl, hx⟩ := l1 h; simp only [E.val, E.ok, C.val, C.ok, C.wp, Ycn, Xmm, hx, Option.map]; exact ⟨trivial, fun h => h.2⟩)
  | (obtain ⟨ex, ey, rfl, hx, hy⟩ := l2 h; simp only [E.val, E.ok, C.val, C.ok, C.wp, Ycn, Xmm, Xuq, Nat.reduceBEq, hx, hy, Option.map]; exact ⟨trivial, fun h => h.2.2⟩)
  | (obtain ⟨ex, ey, ez, rfl, hx, hy, hz⟩ := l3 h; simp only [E.val, E.ok, C.val, C.ok, C.wp, Ycn, Xmm, Xuq, Nat.reduceBEq, hx, hy, hz, Option.map]; exact ⟨trivial, fun h => h.2.2.2⟩)
end
end Go.Ab
/- Regions folded into expressions: that the fold Xhq what is shown. Over any program; no condition. -/
namespace Go.Ab
open Go

section
variable {P : Prg} {T : Tab} {σ : Sg} {sl sl0 : Xc} {ob : Objs} {p : Uc}

theorem Z8 {x : A} {k : Nat} {ex : E} (hk : k ∈ Xc3 σ p x) (h : opE σ p x = some ex) : ent σ k = some (p, ex) := by
 cases x with
 | t j =>
  simp only [Xc3] at hk
  simp only [opE] at h
  split at hk
  ·rename_i q e he
   split at hk
   ·rename_i hq
    simp at hk; subst hk
    simp at hq; subst hq
    rw [he] at h
    simp at h
    rw [he, h]
   ·cases hk
  ·cases hk
 | _ => simp [Xc3] at hk
theorem Yy {g : Nat} {b : Bool} : Xt sl (p ++ [(g, b)]) = (Xt sl p && isB b (look sl g)) := by
 simp [Xt, List.all_append]
theorem Xm4 : ∀ {xs : List A} {e : E}, Xjp σ p xs = some e → ∀ {k q ek}, k ∈ X99 σ p xs → ent σ k = some (q, ek) → q = p ∧ (e.ok T sl0 ob → ek.ok T sl0 ob)
 | [], _, _, k, _, _, hk, _ => by simp [X99] at hk
 | x :: r, e, h, k, q, ek, hk, he => by
  simp only [Xjp] at h
  split at h
  ·rename_i ex er hx hr
   cases h
   simp only [X99, List.mem_append] at hk
   rcases hk with hk | hk
   ·have := Z8 hk hx
    rw [he] at this; cases this
    exact ⟨rfl, fun h => h.1⟩
   ·obtain ⟨h1, h2⟩ := Xm4 hr hk he
    exact ⟨h1, fun h => h2 h.2⟩
  ·cases h

theorem C.cov (hI : Inv T σ sl sl0 ob) {c : C} {e : E} (h : c.lift σ p = some e) {k : Nat} {q : Uc} {ek : E} (hk : k ∈ c.cons σ p) (he : ent σ k = some (q, ek)) (hq : Xt sl q = true) (ho : Xt sl p = true → e.ok T sl0 ob) : ek.ok T sl0 ob := by
 have l1 : ∀ {c x}, Wo σ p c x = some e → k ∈ Xc3 σ p x → ek.ok T sl0 ob := fun h hk => by
  obtain ⟨ex, rfl, hx⟩ := Xog h
  have := Z8 hk hx
  rw [he] at this; cases this
  exact (ho hq).1
 have l2 : ∀ {c x y}, U8 σ p c x y = some e → k ∈ Xc3 σ p x ++ Xc3 σ p y → ek.ok T sl0 ob := fun h hk => by
  obtain ⟨ex, ey, rfl, hx, hy⟩ := Xn4 h
  rw [List.mem_append] at hk
  rcases hk with hk | hk
  ·have := Z8 hk hx
   rw [he] at this; cases this
   exact (ho hq).1
  ·have := Z8 hk hy
   rw [he] at this; cases this
   exact (ho hq).2.1
 have l3 : ∀ {c x y z}, Xpc σ p c x y z = some e → k ∈ Xc3 σ p x ++ Xc3 σ p y ++ Xc3 σ p z → ek.ok T sl0 ob := fun h hk => by
  obtain ⟨ex, ey, ez, rfl, hx, hy, hz⟩ := Xnx h
  rw [List.mem_append, List.mem_append] at hk
  rcases hk with (hk | hk) | hk
  ·have := Z8 hk hx
   rw [he] at this; cases this
   exact (ho hq).1
  ·have := Z8 hk hy
   rw [he] at this; cases this
   exact (ho hq).2.1
  ·have := Z8 hk hz
   rw [he] at this; cases this
   exact (ho hq).2.2.1
 unfold C.lift at h
 split at h <;> simp only [C.cons] at hk
 case h_1 =>
  have := Z8 hk h
  rw [he] at this; cases this
  exact ho hq
 case h_2 g x y =>
  obtain ⟨ec, ex, ey, rfl, hc, hx, hy⟩ := Xev h
  rw [List.mem_append, List.mem_append] at hk
  rcases hk with (hk | hk) | hk
  ·have := Z8 hk hc
   rw [he] at this; cases this
   exact (ho hq).1
  ·have := Z8 hk hx
   rw [he] at this; cases this
   rw [Yy, Bool.and_eq_true] at hq
   have hv := Zp hI hq.1 hc
   exact (ho hq.1).2.2.1 (by rw [hv]; exact hq.2)
  ·have := Z8 hk hy
   rw [he] at this; cases this
   rw [Yy, Bool.and_eq_true] at hq
   have hv := Zp hI hq.1 hc
   exact (ho hq.1).2.2.2 (by rw [hv]; exact hq.2)
 all_goals first
  | (cases h; done)
  | exact l1 h hk
  | exact l2 h hk
  | exact l3 h hk
  | (cases hk; done)
theorem I.cov (hI : Inv T σ sl sl0 ob) {fs : List Nat} {i : I} {e : E} (h : i.lift fs σ p = some e) {k : Nat} {q : Uc} {ek : E} (hk : k ∈ i.cons σ p) (he : ent σ k = some (q, ek)) (hq : Xt sl q = true) (ho : Xt sl p = true → e.ok T sl0 ob) : ek.ok T sl0 ob := by
 cases i <;> simp only [I.lift] at h <;> simp only [I.cons] at hk
 case c x => exact C.cov hI h hk he hq ho
 case pcall f args =>
  split at h
  ·split at h
   ·rename_i e' ha
    cases h
    obtain ⟨rfl, h2⟩ := Xm4 (T := T) (sl0 := sl0) (ob := ob) ha hk he
    exact h2 (ho hq).1
   ·cases h
  ·cases h
 all_goals cases h
theorem I.gcov {fs : List Nat} {i : I} {e : E} (h : i.lift fs σ p = some e) {k : Nat} {q : Uc} {ek : E} (hk : k ∈ i.gcons σ p) (he : ent σ k = some (q, ek)) (hq : Xt sl q = true) (ho : Xt sl p = true → e.ok T sl0 ob) : Xcd (ek.val T sl0 ob) := by
 unfold I.gcons at hk
 split at hk
 ·rename_i g x y
  simp only [I.lift, C.lift] at h
  obtain ⟨ec, ex, ey, rfl, hc, hx, hy⟩ := Xev h
  have := Z8 hk hc
  rw [he] at this; cases this
  exact (ho hq).2.1
 ·cases hk
theorem I.lift_sound (hT : TOk P T) (hI : Inv T σ sl sl0 ob) (hp : Xt sl p = true) {fs : List Nat} {i : I} {e : E} (h : i.lift fs σ p = some e) (ho : e.ok T sl0 ob) {KO Pn : V → Objs → Prop} (hK : KO (e.val T sl0 ob) ob) : i.wp P sl ob KO Pn := by
 cases i <;> simp only [I.lift] at h
 case c x =>
  obtain ⟨h1, h2⟩ := C.lift_sound hI hp h
  simp only [I.wp]
  exact C.wp_of (h2 ho) (by rw [← h1]; exact hK)
 case pcall f args =>
  split at h
  ·split at h
   ·rename_i e' ha
    cases h
    have hv := Xhj hI hp ha
    simp only [E.ok, E.val, hv] at ho hK
    simp only [I.wp]
    cases hf : Qz T f with
    | none => rw [hf] at ho; exact ho.2.elim
    | some F => rw [hf] at ho hK; exact hT f F hf _ ho.2 _ _ hK
   ·cases h
  ·cases h
 all_goals cases h

theorem Inv.congr {sl' : Xc} (hI : Inv T σ sl sl0 ob) (h : ∀ k, look sl' k = look sl k) : Inv T σ sl' sl0 ob := by
 intro k p e he
 have : Xt sl' p = Xt sl p := by simp only [Xt, h]
 rw [this, h]
 exact hI k p e he

def Vu (d : Nat) (p : Uc) : Bool := p.all fun g => g.1 != d
def Xmk (σ : Sg) (d : Nat) : Bool := σ.all fun x => match x.2 with
 | some (p, _) => Vu d p
 | none => true
theorem Vf {d : Nat} {v : V} (h : Vu d p = true) : Xt ((d, v) :: sl) p = Xt sl p := by
 induction p with
 | nil => rfl
 | cons g r ih =>
  simp only [Vu, List.all_cons, Bool.and_eq_true] at h
  simp only [Xt, List.all_cons] at ih ⊢
  have : look ((d, v) :: sl) g.1 = look sl g.1 := by
   have := h.1; simp at this
   have h' : ¬ d = g.1 := fun e => this e.symm
   simp [look, h']
  rw [this, ih h.2]
theorem Xeg : ∀ {σ : Sg} {d k : Nat} {p : Uc} {e : E}, Xmk σ d = true → Wa σ k = some (some (p, e)) → Vu d p = true
 | [], _, _, _, _, _, h => by simp [Wa] at h
 | (j, x) :: r, d, k, p, e, hg, h => by
  simp only [Xmk, List.all_cons, Bool.and_eq_true] at hg
  simp only [Wa] at h
  split at h
  ·cases h; exact hg.1
  ·exact Xeg (σ := r) hg.2 h
theorem Q4 {d k : Nat} {q : Uc} {e : E} (hg : Xmk σ d = true) (h : ent σ k = some (q, e)) : Vu d q = true := by
 unfold ent at h
 split at h
 ·cases h; rfl
 ·rename_i x hx; subst h; exact Xeg hg hx

theorem Wp {k : Nat} {x : Option (Uc × E)} : ent ((k, x) :: σ) k = x := by simp [ent, Wa]
theorem Zy {j k : Nat} {x : Option (Uc × E)} (h : k ≠ j) : ent ((k, x) :: σ) j = ent σ j := by simp [ent, Wa, h]

end
end Go.Ab
/- Regions folded into expressions: the fold itself, and that it Xhq what is shown. Over any program; no condition. -/
namespace Go.Ab
open Go

inductive It2 where
 | chk (p : List (E × Bool)) (e : E)
 | lt (k : Nat) (p : List (E × Bool)) (e : E)
 | op (d : Option Nat) (i : I)
 | gop (p : List (E × Bool)) (d : Option Nat) (i : I)

def Xhi (b : Bool) (v : V) : V := if b then v else .undef

def Vk (P : Prg) (T : Tab) (K : Xc → Objs → Prop) (Pn : V → Xc → Objs → Prop) : List It2 → Xc → Objs → Prop
 | [], sl, ob => K sl ob
 | .chk p e :: r, sl, ob => (Zl T sl ob p = true → e.ok T sl ob) ∧ Vk P T K Pn r sl ob
 | .lt k p e :: r, sl, ob => (Zl T sl ob p = true → e.ok T sl ob) ∧ Vk P T K Pn r ((k, Xhi (Zl T sl ob p) (e.val T sl ob)) :: sl) ob
 | .op d i :: r, sl, ob => i.wp P sl ob (fun v ob' => Vk P T K Pn r (put sl d v) ob') (fun v ob' => Pn v sl ob')
 | .gop p d i :: r, sl, ob => (Zl T sl ob p = true → i.wp P sl ob (fun v ob' => Vk P T K Pn r (put sl d v) ob') (fun v ob' => Pn v sl ob')) ∧
   (Zl T sl ob p = false → Vk P T K Pn r (put sl d .undef) ob)

def V9 (T : Tab) (sl : Xc) (ob : Objs) : List (Nat × E) → Xc
 | [] => []
 | (k, e) :: r => (k, e.val T sl ob) :: V9 T sl ob r
def Wv (T : Tab) (sl : Xc) (ob : Objs) : List (Nat × E) → Prop
 | [] => True
 | (_, e) :: r => e.ok T sl ob ∧ Wv T sl ob r


def A.slots : A → List Nat
 | .t k => [k]
 | _ => []
def Ve : List A → List Nat
 | [] => []
 | x :: r => x.slots ++ Ve r
def Xnz : Option A → List Nat
 | some x => x.slots
 | none => []
def C.slots : C → List Nat
 | .mv x | .not x | .neg x | .isnil _ x | .pnil _ x | .fnil _ x | .usd x | .cvi _ x | .cvs x | .fldA _ _ x | .fld _ _ _ _ x | .ld _ _ x | .nilc x | .lenS x | .lenL x | .ext x _ | .mki _ x | .tas _ _ x => x.slots
 | .bin _ x y | .beq _ x y | .peq _ x y | .idx x y | .idxA _ x y | .idxP _ _ x y | .eqD _ _ x y | .aix _ _ _ x y => x.slots ++ y.slots
 | .pick x y z => x.slots ++ (y.slots ++ z.slots)
 | .slcS x l h | .slcL _ x l h => x.slots ++ (Xnz l ++ Xnz h)
 | .lenA _ => []
 | .bld _ ps => Ve (ps.map (·.2))
 | .mkf _ a b => Ve a ++ Ve b
def I.slots : I → List Nat
 | .c x => x.slots
 | .box _ x => x.slots
 | .alloc _ _ => []
 | .bls _ _ ps => Ve (ps.map (·.2))
 | .blo _ _ _ ps => Ve (ps.map (·.2))
 | .st _ x y => x.slots ++ y.slots
 | .app _ _ _ x y => x.slots ++ y.slots
 | .appS _ _ x y => x.slots ++ y.slots
 | .call _ l => Ve l
 | .pcall _ l => Ve l
 | .callv x l => x.slots ++ Ve l
 | .panic x => x.slots
 | .b2s x => x.slots
 | .s2b x => x.slots
 | .nilo _ _ x => x.slots
 | .mvf x => x.slots
 | .ldf _ _ x => x.slots
 | .mvg _ _ y x _ => y.slots ++ x.slots
 | .mvn y x _ => y.slots ++ x.slots
 | .cvb x => x.slots
 | .ustr _ x y => x.slots ++ y.slots
 | .mkm r => Xnz r
 | .lkp _ _ _ m k => m.slots ++ k.slots
 | .mset _ m k v => m.slots ++ (k.slots ++ v.slots)
 | .gld _ _ _ _ => []
 | .slg _ _ x => x.slots

section
variable {P : Prg} {sl sl' : Xc} {ob : Objs}
theorem A.ev_eq {x : A} (h : ∀ k ∈ x.slots, look sl k = look sl' k) : x.ev sl = x.ev sl' := by
 cases x <;> simp_all [A.ev, A.slots]
theorem Xdq : ∀ {l : List A}, (∀ k ∈ Ve l, look sl k = look sl' k) → l.map (A.ev sl) = l.map (A.ev sl')
 | [], _ => rfl
 | x :: r, h => by
  simp only [Ve, List.mem_append] at h
  simp only [List.map_cons, A.ev_eq (fun k hk => h k (.inl hk)), Xdq (fun k hk => h k (.inr hk))]
theorem Xm3 {l : Option A} (h : ∀ k ∈ Xnz l, look sl k = look sl' k) : l.map (A.ev sl) = l.map (A.ev sl') := by
 cases l with
 | none => rfl
 | some x => simp only [Option.map_some, A.ev_eq h]
theorem Xng : ∀ {l : List (Nat × A)}, (∀ k ∈ Ve (l.map (·.2)), look sl k = look sl' k) → (l.map fun x => (x.1, A.ev sl x.2)) = l.map fun x => (x.1, A.ev sl' x.2)
 | [], _ => rfl
 | x :: r, h => by
  simp only [List.map_cons, Ve, List.mem_append] at h
  simp only [List.map_cons, A.ev_eq (fun k hk => h k (.inl hk)), Xng (fun k hk => h k (.inr hk))]
theorem C.wp_eq {K : V → Prop} {c : C} (h : ∀ k ∈ c.slots, look sl k = look sl' k) : c.wp sl ob K = c.wp sl' ob K := by
 cases c <;> simp only [C.slots, List.mem_append] at h <;> simp only [C.wp]
 case bld => rw [Xng h]
 case mkf => rw [Xdq (fun k hk => h k (.inl hk)), Xdq (fun k hk => h k (.inr hk))]
 case pick => rw [A.ev_eq (fun k hk => h k (.inl hk)), A.ev_eq (fun k hk => h k (.inr (.inl hk))), A.ev_eq (fun k hk => h k (.inr (.inr hk)))]
 case slcS => rw [A.ev_eq (fun k hk => h k (.inl hk)), Xm3 (fun k hk => h k (.inr (.inl hk))), Xm3 (fun k hk => h k (.inr (.inr hk)))]
 case slcL => rw [A.ev_eq (fun k hk => h k (.inl hk)), Xm3 (fun k hk => h k (.inr (.inl hk))), Xm3 (fun k hk => h k (.inr (.inr hk)))]
 all_goals first
  | rw [A.ev_eq h]
  | rw [A.ev_eq (fun k hk => h k (.inl hk)), A.ev_eq (fun k hk => h k (.inr hk))]
theorem I.wp_eq {K Pn : V → Objs → Prop} {i : I} (h : ∀ k ∈ i.slots, look sl k = look sl' k) : i.wp P sl ob K Pn = i.wp P sl' ob K Pn := by
 cases i <;> simp only [I.slots, List.mem_append] at h <;> simp only [I.wp]
 case c => rw [C.wp_eq h]
 case bls => rw [Xng h]
 case blo => rw [Xng h]
 case call => rw [Xdq h]
 case pcall => rw [Xdq h]
 case callv => rw [A.ev_eq (fun k hk => h k (.inl hk)), Xdq (fun k hk => h k (.inr hk))]
 case mset => rw [A.ev_eq (fun k hk => h k (.inl hk)), A.ev_eq (fun k hk => h k (.inr (.inl hk))), A.ev_eq (fun k hk => h k (.inr (.inr hk)))]
 case mkm r =>
  cases r with
  | none => rfl
  | some x => simp only [X0z, A.ev_eq (x := x) h]
 all_goals first
  | rw [A.ev_eq h]
  | rw [A.ev_eq (fun k hk => h k (.inl hk)), A.ev_eq (fun k hk => h k (.inr hk))]
  | rfl

theorem Xg9 {K K' : V → Objs → Prop} {ob : Objs} {E sz : Nat} {p : List Nat} {y x : V} (hk : ∀ v b, K v b → K' v b) (h : Xg4 ob E sz p y K x) : Xg4 ob E sz p y K' x := by
 unfold Xg4 at h; split at h
 ·simp only [Xg4]
  generalize lookO _ _ = o at h ⊢
  unfold Xdi at h; split at h
  ·simp only [Xdi]
   rcases h with h | h
   case inr => exact .inr ⟨h.1, hk _ _ h.2⟩
   refine .inl ⟨h.1, ?_⟩
   have h := h.2
   generalize V.set _ _ _ = o at h ⊢
   cases o with
   | none => exact h.elim
   | some t => exact hk _ _ h
  ·exact h.elim
 ·exact h.elim
theorem Xht {K K' : V → Objs → Prop} {y x : V} (hk : ∀ v b, K v b → K' v b) : ∀ {l : List (Nat × Nat × List Nat)} {ob : Objs}, Xpq y K x l ob → Xpq y K' x l ob
 | [], _, h => hk _ _ h
 | _ :: _, _, h => Xg9 (fun _ _ h => Xht hk h) h

theorem I.wp_mono {K K' Pn Pn' : V → Objs → Prop} (hk : ∀ v b, K v b → K' v b) (hp : ∀ v b, Pn v b → Pn' v b) {i : I} (h : i.wp P sl ob K Pn) : i.wp P sl ob K' Pn' := by
 have ho : ∀ o b, Xk2 K Pn o b → Xk2 K' Pn' o b := fun o b => by cases o with | ret v => exact hk v b | panic v => exact hp v b
 have bx : ∀ {E v}, Xqb E ob K v → Xqb E ob K' v := fun h => ⟨h.1, hk _ _ h.2⟩
 have dk : ∀ {KD KD' : List D → Prop}, (∀ l, KD l → KD' l) → ∀ o, dK KD o → dK KD' o := fun f o h => by cases o with | none => exact h.elim | some l => exact f l h
 have gv : ∀ (o : Option (D × Objs)), Xid K o → Xid K' o := fun o h => by
  cases o with
  | none => exact h.elim
  | some q => exact hk _ _ h
 have ap : ∀ {E sz B ys u}, Xdf E sz B ob ys K u → Xdf E sz B ob ys K' u := fun {E sz B ys u} h => by
  unfold Xdf at h; split at h
  ·simp only [Xdf]
   generalize lookO _ _ = o at h ⊢
   unfold Xdj at h; split at h
   ·obtain ⟨h1, h2, h3, h4, h5⟩ := h
    exact ⟨h1, h2, h3, h4, hk _ _ h5⟩
   ·exact h.elim
  ·exact ⟨h.1, hk _ _ h.2⟩
  ·exact h.elim
 cases i <;> simp only [I.wp] at h ⊢
 case c x => exact C.wp_mono (fun v => hk v ob) x h
 case box => exact bx h
 case alloc => exact bx h
 case bls => exact Jg (fun _ => dk (fun _ => hk _ _) _) _ _ h
 case blo => exact Jg (fun _ => dk (fun _ h => hk _ _ h) _) _ _ h
 case st x y =>
  generalize A.ev sl x = v at h ⊢
  unfold stK at h; split at h
  ·simp only [stK]
   generalize lookO _ _ = o at h ⊢
   unfold Xwz at h; split at h
   ·simp only [Xwz]
    generalize V.at _ _ = o at h ⊢
    unfold Xw2 at h; split at h
    ·obtain ⟨h1, h2, h3, t, h4, h5⟩ := h
     exact ⟨h1, h2, h3, t, h4, hk _ _ h5⟩
    ·exact h.elim
   ·exact h.elim
  ·exact h.elim
 case app x y =>
  generalize A.ev sl y = v at h ⊢
  unfold Xwy at h; split at h
  ·exact ⟨h.1, ap h.2⟩
  ·exact ap h
  ·exact h.elim
 case appS x y =>
  generalize A.ev sl y = v at h ⊢
  unfold Xf2 at h; split at h
  ·exact ap h
  ·exact h.elim
 case mvf x =>
  generalize V.giv _ _ = v at h ⊢
  exact gv _ h
 case ldf x =>
  generalize A.ev sl x = v at h ⊢
  unfold Xs5 at h; split at h
  ·simp only [Xs5]
   generalize atO _ _ _ = o at h ⊢
   unfold Xdg at h; split at h
   ·exact ⟨h.1, h.2.1, gv _ h.2.2⟩
   ·exact h.elim
  ·exact h.elim
 case mvg => exact Xg9 hk h
 case mvn => exact Xht hk h
 case cvb x =>
  generalize A.ev sl x = v at h ⊢
  unfold Xus at h; split at h
  ·simp only [Xus]
   generalize lookO _ _ = o at h ⊢
   unfold Xe8 at h; split at h
   ·exact ⟨h.1, h.2.1, h.2.2.1, hk _ _ h.2.2.2⟩
   ·exact h.elim
  ·exact h.elim
 case ustr x y =>
  generalize A.ev sl x = v at h ⊢; generalize A.ev sl y = u at h ⊢
  unfold J8 at h; split at h
  ·simp only [J8]
   generalize lookO _ _ = o at h ⊢
   unfold Js at h; split at h
   ·obtain ⟨h1, h2, h3, h4, h5, h6, s, h7, h8⟩ := h
    exact ⟨h1, h2, h3, h4, h5, h6, s, h7, hk _ _ h8⟩
   ·exact h.elim
  ·exact ⟨h.1, hk _ _ h.2⟩
  ·exact h.elim
 case call => exact h.mono ho
 case pcall => exact h.mono fun v => hk v ob
 case callv x l =>
  generalize A.ev sl x = v at h ⊢
  unfold Uv at h; split at h
  ·exact ⟨h.1, h.2.mono ho⟩
  ·exact ⟨h.1, h.2.mono ho⟩
  ·exact h.elim
 case panic x =>
  generalize A.ev sl x = v at h ⊢
  unfold Jn at h; split at h
  ·exact hp _ _ h
  ·exact hp _ _ h
  ·exact h.elim
 case b2s x =>
  generalize A.ev sl x = v at h ⊢
  unfold X6m at h; split at h
  ·obtain ⟨h1, s, h2, h3⟩ := h
   exact ⟨h1, s, h2, hk _ _ h3⟩
  ·exact hk _ _ h
  ·exact h.elim
 case s2b x =>
  generalize A.ev sl x = v at h ⊢
  unfold X6s at h; split at h
  ·exact hk _ _ h
  ·exact h.elim
 case nilo x =>
  generalize A.ev sl x = v at h ⊢
  unfold Xf8 at h; split at h
  ·exact hk _ _ h
  ·exact h.elim
 case mkm r => exact ⟨h.1, hk _ _ h.2⟩
 case gld => exact ⟨h.1, h.2.1, h.2.2.1, hk _ _ h.2.2.2⟩
 case slg x =>
  generalize A.ev sl x = v at h ⊢
  unfold X1d at h; split at h
  ·simp only [X1d]
   generalize atO _ _ _ = o at h ⊢
   unfold Xot at h; split at h
   ·exact ⟨h.1, h.2.1, hk _ _ h.2.2⟩
   ·exact h.elim
  ·exact h.elim
 case lkp x y =>
  generalize A.ev sl x = v at h ⊢; generalize A.ev sl y = u at h ⊢
  unfold Xwr at h; split at h
  ·simp only [Xwr]
   generalize lookO _ _ = o at h ⊢
   unfold Xer at h; split at h
   ·exact ⟨h.1, hk _ _ h.2⟩
   ·exact h.elim
  ·exact ⟨h.1, hk _ _ h.2⟩
  ·exact h.elim
 case mset x y z =>
  generalize A.ev sl x = v at h ⊢; generalize A.ev sl y = u at h ⊢
  unfold Xcw at h; split at h
  ·simp only [Xcw]
   generalize lookO _ _ = o at h ⊢
   unfold Jf at h; split at h
   ·exact ⟨h.1, h.2.1, hk _ _ h.2.2⟩
   ·exact h.elim
  ·exact h.elim
end
end Go.Ab
