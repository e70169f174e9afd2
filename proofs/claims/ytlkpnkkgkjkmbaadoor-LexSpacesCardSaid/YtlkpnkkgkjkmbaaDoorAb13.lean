/- Statements over abstract states, and that what is shown of them holds of the program's code. Over any program; no condition. -/
import Derived.Test.YtlkpnkkgkjkmbaaDoorAb12
import Derived.Test.YtlkpnkkgkjkmbaaDoorAbo
import Derived.Tactics
namespace Go.Ab
open Go

def put (sl : Slots) (d : Option Nat) (v : V) : Slots := match d with
  | some k => (k, v) :: sl
  | none => sl

inductive It where
  | op (d : Option Nat) (i : I)
  | gop (s : Nat) (want : Bool) (d : Option Nat) (i : I)

def gdK (s : Nat) (want : Bool) (sl : Slots) (Y N : Slots → Prop) : V → Prop
  | .d (.bool b) => (b = want → Y ((s, .d (.bool want)) :: sl)) ∧ (b = !want → N ((s, .d (.bool (!want))) :: sl))
  | .undef => N sl
  | _ => False

def rwp (P : Prg) (K : Slots → Objs → Prop) (Pn : V → Slots → Objs → Prop) : List It → Slots → Objs → Prop
  | [], sl, ob => K sl ob
  | .op d i :: r, sl, ob => i.wp P sl ob (fun v ob' => rwp P K Pn r (put sl d v) ob') (fun v ob' => Pn v sl ob')
  | .gop s want d i :: r, sl, ob => gdK s want sl (fun sl => i.wp P sl ob (fun v ob' => rwp P K Pn r (put sl d v) ob') (fun v ob' => Pn v sl ob')) (fun sl => rwp P K Pn r (put sl d .undef) ob) (look sl s)

inductive S where
  | rg (ord : List Nat) (l : List It) (keep pk : List Nat)
  | seq (a b : S)
  | skip
  | cond (c : A) (a b : S)
  | block (n : Nat) (a : S)
  | loop (keep : List Nat) (a : S)
  | exit (n : Nat)
  | ret

inductive AExit where
  | normal
  | exit (n : Nat)
  | ret
  | panic (v : V)

abbrev Post := AExit → Slots → Objs → Prop

def thenK (next : Slots → Objs → Prop) (Q : Post) : Post
  | .normal, sl, ob => next sl ob
  | .exit n, sl, ob => Q (.exit n) sl ob
  | .ret, sl, ob => Q .ret sl ob
  | .panic v, sl, ob => Q (.panic v) sl ob
def blockK (id : Nat) (Q : Post) : Post
  | .normal, sl, ob => Q .normal sl ob
  | .exit n, sl, ob => if n = id then Q .normal sl ob else Q (.exit n) sl ob
  | .ret, sl, ob => Q .ret sl ob
  | .panic v, sl, ob => Q (.panic v) sl ob
def condK (Y N : Prop) : V → Prop
  | .d (.bool t) => (t = true → Y) ∧ (t = false → N)
  | _ => False
def keepS (sl : Slots) : List Nat → Slots
  | [] => []
  | k :: r => (k, look sl k) :: keepS sl r

mutual
/-- does a value name one of these objects? -/
def V.men (ids : Nat → Bool) : V → Bool
  | .ptr id _ => ids id
  | .sl id _ => ids id
  | .sd id _ => ids id
  | .fn _ a b => V.mens ids a || V.mens ids b
  | .agg xs => V.mens ids xs
  | .iface _ v => V.men ids v
  | .tup xs => V.mens ids xs
  | _ => false
def V.mens (ids : Nat → Bool) : List V → Bool
  | [] => false
  | x :: r => V.men ids x || V.mens ids r
end
def dropO (ids : Nat → Bool) : Objs → Objs
  | [] => []
  | (j, x) :: r => if ids j then dropO ids r else (j, x) :: dropO ids r
def noMenS (ids : Nat → Bool) : Slots → Bool
  | [] => true
  | (_, v) :: r => !V.men ids v && noMenS ids r
def noMenO (ids : Nat → Bool) : Objs → Bool
  | [] => true
  | (_, .box _ t) :: r => !V.men ids t && noMenO ids r
  | _ :: r => noMenO ids r
/-- the objects from a name on, but for these -/
def young (n : Nat) (kp : List Nat) (id : Nat) : Bool := decide (n ≤ id) && !kp.contains id
/-- what is left of a state when these slots are kept and young objects dropped -/
def sub (keep : List Nat) (n : Nat) (K : Slots → Objs → Prop) (sl : Slots) (ob : Objs) : Prop :=
  ∃ kp : List Nat, noMenS (young n kp) (keepS sl keep) = true ∧ noMenO (young n kp) (dropO (young n kp) ob) = true ∧ K (keepS sl keep) (dropO (young n kp) ob)

structure ALoop (keep : List Nat) (body : Post → Slots → Objs → Prop) (Q : Post) (sl : Slots) (ob : Objs) : Prop where
  run : ∃ (ι : Type) (S : ι → Slots) (O : ι → Objs) (I : ι → Prop) (μ : ι → Nat) (i0 : ι), I i0 ∧ keepS sl keep = S i0 ∧ ob = O i0 ∧
    ∀ i, I i → body (thenK (sub keep (fresh (O i)) fun sl' ob' => ∃ j, I j ∧ μ j < μ i ∧ sl' = S j ∧ ob' = O j) Q) (S i) (O i)

def cwp (P : Prg) : S → Post → Slots → Objs → Prop
  | .rg _ l keep pk, Q, sl, ob => rwp P (fun sl ob => Q .normal (keepS sl keep) ob) (fun v sl ob => Q (.panic v) (keepS sl pk) ob) l sl ob
  | .seq a b, Q, sl, ob => cwp P a (thenK (cwp P b Q) Q) sl ob
  | .skip, Q, sl, ob => Q .normal sl ob
  | .cond c a b, Q, sl, ob => condK (cwp P a Q sl ob) (cwp P b Q sl ob) (c.ev sl)
  | .block n a, Q, sl, ob => cwp P a (blockK n Q) sl ob
  | .loop keep a, Q, sl, ob => ALoop keep (cwp P a) Q sl ob
  | .exit n, Q, sl, ob => Q (.exit n) sl ob
  | .ret, Q, sl, ob => Q .ret sl ob

/-! What of the program's text they stand for -/

def dstOk (N : Nat) : Option Nat → Option Nat → Bool
  | some k, some j => k == j && decide (k < N)
  | none, none => true
  | _, _ => false

def It.chk (P : Program) (N : Nat) (ops : Array Oper) (o : Oper) : It → Bool
  | .op d i => dstOk N o.dst d && o.guard.isNone && i.chk P o.op
  | .gop s want d i => dstOk N o.dst d && (match o.guard with
    | some (j, b) => b == want && (match ops[j]? with | some o' => o'.dst == some s | none => false)
    | none => false) && i.chk P o.op

def chkIts (P : Program) (N : Nat) (ops : Array Oper) : List Oper → List It → Bool
  | [], [] => true
  | o :: r, i :: s => i.chk P N ops o && chkIts P N ops r s
  | _, _ => false

def It.kind : It → Nat
  | .op _ i => i.kind
  | .gop _ _ _ i => i.kind
def kindAt : List Nat → List It → Nat → Nat
  | i :: r, x :: s, j => if i = j then x.kind else kindAt r s j
  | _, _, _ => 3
/-- One order that serves for all: each operation in its turn either may be taken first, or is the only one that may come up. -/
def canon (P : Program) (N : Nat) (ops : Array Oper) (kd : Nat → Nat) (listed : Array Bool) : List Nat → List It → Bool
  | [], [] => (Region.ready .any ops listed).isEmpty
  | i :: r, x :: s => (Region.ready .any ops listed).contains i && (match ops[i]? with | some o => x.chk P N ops o | none => false) && x.kind == kd i &&
      (match x.kind with
        | 0 => Region.free .any ops listed i
        | 1 => Region.free .any ops listed i && (List.range ops.size).all (fun j => kd j != 3 || j == i || waits .any ops i ops.size j)
        | _ => (Region.ready .any ops listed) == [i]) &&
      canon P N ops kd (listed.setIfInBounds i true) r s
  | _, _ => false
def dstsFree (pk : List Nat) (ops : Array Oper) : Bool := ops.toList.all fun o => match o.dst with
  | some d => !pk.contains d
  | none => true

def S.chk (P : Program) (N : Nat) : Code → S → Bool
  | .skip, .skip => true
  | .region _ ops draw, .rg ord l _ pk => if draw then decide (ord.length ≤ ops.size) && Region.noSelect ops && dstsFree pk ops && canon P N ops (kindAt ord l) (Array.replicate ops.size false) ord l else chkIts P N ops ops.toList l
  | .seq a b, .seq x y => S.chk P N a x && S.chk P N b y
  | .cond c a b, .cond d x y => A.chk c d && S.chk P N a x && S.chk P N b y
  | .block n a, .block m x => n == m && S.chk P N a x
  | .loop a, .loop _ x => S.chk P N a x
  | .exit n, .exit m => n == m
  | .ret, .ret => true
  | _, _ => false

/-! Soundness -/

structure Ctx where
  w0 : World
  ex : Nat → Prop
  N : Nat
  df : List Deferred
  g : Nat → Option Obj
  m0 : Nat → Option RO
  ev : List (V × Value)

structure Base (c : Ctx) (w : World) (ρ : Env) : Prop where
  size : c.w0.heap.size ≤ w.heap.size
  keep : ∀ b, b < c.w0.heap.size → ¬ c.ex b → w.heap[b]? = c.w0.heap[b]?
  owns : ∀ b, ownM ρ b → c.w0.heap.size ≤ b ∨ c.ex b
  tape : w.tape = c.w0.tape
  os : w.os = c.w0.os
  out : w.output = c.w0.output
  same : ∀ id o, c.m0 id = some o → ∃ o', ρ.m id = some o' ∧ o.le o'
  ext : ∀ p ∈ c.ev, p.1.rep w ρ p.2

theorem Base.tr {c : Ctx} {w w' : World} {ρ ρ' : Env} (h : Base c w ρ) (t : Tr w ρ w' ρ') : Base c w' ρ' := by
  refine ⟨Nat.le_trans h.size t.size, fun b h1 h2 => ?_, fun b h1 => ?_, t.tape.trans h.tape, t.os.trans h.os, t.out.trans h.out, fun id o h1 => ?_, fun p hp => V.rep_tr t (h.ext p hp)⟩
  · refine (t.keep b (fun h3 => ?_) (Nat.lt_of_lt_of_le h1 h.size)).trans (h.keep b h1 h2)
    exact (h.owns b h3).elim (fun h => by omega) h2
  · rcases t.owns b h1 with h3 | h3
    · exact h.owns b h3
    · exact .inl (Nat.le_trans h.size h3)
  · obtain ⟨o', h2, h3⟩ := h.same id o h1
    obtain ⟨o'', h4, h5⟩ := t.same id o' h2
    exact ⟨o'', h4, h3.trans h5⟩

structure Mod (c : Ctx) (xo : Nat → Prop) (ρ : Env) (sl : Slots) (ob : Objs) (a : Act) (w : World) : Prop where
  base : Base c w ρ
  om : OM w ρ ob
  sm : SM w ρ sl a
  size : a.tmps.size = c.N
  df : a.defers = c.df
  xo : ρ.xo = xo
  gl : ρ.gl = c.g

def exM (w : World) (ρ : Env) : Exit → AExit → Prop
  | .normal, .normal => True
  | .exit n, .exit m => n = m
  | .ret, .ret => True
  | .panic ch, .panic v => ∃ u, ch = [{ v := u, recovered := false }] ∧ v.rep w ρ u
  | _, _ => False

def lift (c : Ctx) (xo : Nat → Prop) (Q : Post) : Exit → Act → World → Prop :=
  fun e a w => ∃ ae sl ob ρ, Q ae sl ob ∧ exM w ρ e ae ∧ Mod c xo ρ sl ob a w

theorem rep_look_put {w : World} {ρ : Env} {sl : Slots} {a : Act} {d : Option Nat} {x : V} {v : Value} {N : Nat} {o : Option Nat} (hd : dstOk N o d = true) (hN : a.tmps.size = N) (hs : SM w ρ sl a) (hx : x.rep w ρ v) :
    SM w ρ (put sl d x) (a.put o v) ∧ (a.put o v).tmps.size = N ∧ (a.put o v).defers = a.defers := by
  cases o with
  | none =>
    cases d with
    | none => exact ⟨hs, hN, rfl⟩
    | some j => simp [dstOk] at hd
  | some k =>
    cases d with
    | none => simp [dstOk] at hd
    | some j =>
      simp only [dstOk, Bool.and_eq_true, beq_iff_eq, decide_eq_true_eq] at hd
      obtain ⟨rfl, hk⟩ := hd
      refine ⟨fun i => ?_, by simpa [Act.put] using hN, rfl⟩
      simp only [put, look, Act.put]
      split
      · rename_i e; subst e
        have : k < a.tmps.size := by omega
        simpa [this] using hx
      · rename_i e
        have := hs i
        simpa [Array.getElem?_setIfInBounds, e] using this

theorem yielded_bool {ops : Array Oper} {a : Act} {j s : Nat} {o' : Oper} {b : Bool} (h1 : ops[j]? = some o') (h2 : o'.dst = some s) (h3 : a.tmps.getD s undef = .bool b) : yielded ops a.tmps j = some b := by
  have hs : s < a.tmps.size := by
    rcases Nat.lt_or_ge s a.tmps.size with h | h
    · exact h
    · simp [Array.getD, Nat.not_lt.2 h, undef] at h3
  simp only [Array.getD, hs, dif_pos] at h3
  have : a.tmps[s]? = some (.bool b) := by rw [Array.getElem?_eq_getElem hs]; exact congrArg some h3
  simp [yielded, h1, h2, this]

theorem yielded_undef {ops : Array Oper} {a : Act} {j s : Nat} {o' : Oper} (h1 : ops[j]? = some o') (h2 : o'.dst = some s) (h3 : a.tmps.getD s undef = undef) : yielded ops a.tmps j = none := by
  rcases Nat.lt_or_ge s a.tmps.size with hs | hs
  · simp only [Array.getD, hs, dif_pos] at h3
    have : a.tmps[s]? = some (.tuple #[]) := by rw [Array.getElem?_eq_getElem hs]; exact congrArg some h3
    simp [yielded, h1, h2, this]
  · have : a.tmps[s]? = none := Array.getElem?_eq_none hs
    simp [yielded, h1, h2, this]

/-- the ways through a guard -/
theorem guard_sound {w : World} {ρ : Env} {sl : Slots} {a : Act} {ops : Array Oper} {o : Oper} {s : Nat} {want : Bool} {Y N : Slots → Prop} (hs : SM w ρ sl a)
    (hg : (match o.guard with | some (j, b) => b == want && (match ops[j]? with | some o' => o'.dst == some s | none => false) | none => false) = true)
    (h : gdK s want sl Y N (look sl s)) :
    (Region.wanted o (yielded ops a.tmps) = true ∧ ∃ sl', SM w ρ sl' a ∧ Y sl') ∨ (Region.wanted o (yielded ops a.tmps) = false ∧ ∃ sl', SM w ρ sl' a ∧ N sl') := by
  split at hg
  · rename_i j b hj
    simp only [Bool.and_eq_true, beq_iff_eq] at hg
    obtain ⟨rfl, hg⟩ := hg
    split at hg
    · rename_i o' ho
      have hd : o'.dst = some s := by simpa using hg
      have hv := hs s
      have key : ∀ c : Bool, a.tmps.getD s undef = .bool c → SM w ρ ((s, .d (.bool c)) :: sl) a := fun c hc k => by
        simp only [look]
        split
        · rename_i e; subst e; rw [hc]; exact rep_bool.2 rfl
        · exact hs k
      unfold gdK at h
      split at h
      · rename_i c e
        rw [e, rep_bool] at hv
        have hy := yielded_bool (a := a) ho hd hv
        by_cases hcb : c = b
        · subst hcb
          exact .inl ⟨by simp [Region.wanted, hj, hy], _, key c hv, h.1 rfl⟩
        · have hcn : c = !b := by cases c <;> cases b <;> simp_all
          subst hcn
          exact .inr ⟨by simp [Region.wanted, hj, hy], _, key _ hv, h.2 rfl⟩
      · rename_i e
        rw [e, rep_undef] at hv
        have hy := yielded_undef (a := a) ho hd hv
        exact .inr ⟨by simp [Region.wanted, hj, hy], _, hs, h⟩
      · exact h.elim
    · simp at hg
  · simp at hg

theorem list_sound {P : Prg} {c : Ctx} (hg : P.g = c.g) {xo : Nat → Prop} {ops : Array Oper} {Q : Exit → Act → World → Prop} {K : Slots → Objs → Prop} {Pn : V → Slots → Objs → Prop}
    (hK : ∀ sl ob ρ a w, K sl ob → Mod c xo ρ sl ob a w → Q .normal a w)
    (hP : ∀ v sl ob ρ a w u, Pn v sl ob → Mod c xo ρ sl ob a w → v.rep w ρ u → Q (.panic [{ v := u, recovered := false }]) a w) :
    ∀ (l : List Oper) (its : List It) (sl : Slots) (ob : Objs) (ρ : Env) (a : Act) (w : World), chkIts P.p c.N ops l its = true → rwp P K Pn its sl ob → Mod c xo ρ sl ob a w → wpList P.p ops Q l a w
  | [], [], sl, ob, ρ, a, w, _, h, m => by simp only [wpList]; exact hK sl ob ρ a w h m
  | o :: r, i :: s, sl, ob, ρ, a, w, hc, h, m => by
    simp only [chkIts, Bool.and_eq_true] at hc
    obtain ⟨h1, h2⟩ := hc
    have step : ∀ (d : Option Nat) (x : I) (sl : Slots), SM w ρ sl a → dstOk c.N o.dst d = true → x.chk P.p o.op = true → x.wp P sl ob (fun v ob' => rwp P K Pn s (put sl d v) ob') (fun v ob' => Pn v sl ob') → o.wp P.p a w (wpList P.p ops Q r) Q := by
      intro d x sl hs hd hx hw
      refine I.sound (m.gl.trans hg.symm) hs m.om hx hw o rfl _ _ (fun v y ob' w' ρ' hk hr ho t => ?_) (fun u y ob' w' ρ' hk hr ho t => ?_)
      · obtain ⟨g1, g2, g3⟩ := rep_look_put hd m.size (hs.tr t) hr
        exact list_sound hg hK hP r s _ ob' ρ' _ w' h2 hk ⟨m.base.tr t, ho, g1, g2, g3.trans m.df, t.xo.trans m.xo, t.gl.trans m.gl⟩
      · exact hP y sl ob' ρ' a w' u hk ⟨m.base.tr t, ho, hs.tr t, m.size, m.df, t.xo.trans m.xo, t.gl.trans m.gl⟩ hr
    cases i with
    | op d x =>
      simp only [It.chk, Bool.and_eq_true, Option.isNone_iff_eq_none] at h1
      simp only [rwp] at h
      simp only [wpList, Region.wanted, h1.1.2, if_true]
      exact .inl (step d x sl m.sm h1.1.1 h1.2 h)
    | gop g want d x =>
      simp only [It.chk, Bool.and_eq_true] at h1
      simp only [rwp] at h
      simp only [wpList]
      rcases guard_sound (ops := ops) m.sm h1.1.2 h with ⟨hw, sl', hs, h⟩ | ⟨hw, sl', hs, h⟩
      · rw [if_pos hw]
        exact .inl (step d x sl' hs h1.1.1 h1.2 h)
      · rw [hw]
        simp only [Bool.false_eq_true, if_false]
        obtain ⟨g1, g2, g3⟩ := rep_look_put h1.1.1 m.size hs (rep_undef.2 rfl)
        exact list_sound hg hK hP r s _ ob ρ _ w h2 h ⟨m.base, m.om, g1, g2, g3.trans m.df, m.xo, m.gl⟩
  | [], _ :: _, _, _, _, _, _, hc, _, _ => by simp [chkIts] at hc
  | _ :: _, [], _, _, _, _, _, hc, _, _ => by simp [chkIts] at hc

theorem SM.keep {w : World} {ρ : Env} {sl : Slots} {a : Act} (hs : SM w ρ sl a) (l : List Nat) : SM w ρ (keepS sl l) a := by
  intro k
  induction l with
  | nil => exact rep_any
  | cons j r ih =>
    simp only [keepS, look]
    split
    · rename_i e; subst e; exact hs j
    · exact ih

def Env.del (ρ : Env) (ids : Nat → Bool) : Env := ⟨fun j => if ids j then none else ρ.m j, ρ.xo, ρ.gl⟩

theorem del_ownM {ρ : Env} {ids : Nat → Bool} {b : Nat} (h : ownM (ρ.del ids) b) : ownM ρ b := by
  obtain ⟨j, o, h1, h2⟩ := h
  simp only [Env.del] at h1
  split at h1
  · cases h1
  · exact ⟨j, o, h1, h2⟩

theorem del_mono (w : World) (ρ : Env) (ids : Nat → Bool) : Mono w (own ρ) w (own (ρ.del ids)) := fun _ h _ =>
  ⟨rfl, fun h' => h (h'.elim (fun h => .inl (del_ownM h)) .inr)⟩

mutual
theorem V.repC_del {w : World} {ρ : Env} {ids : Nat → Bool} : ∀ (x : V) (cs : List Value), V.men ids x = false → x.repC w ρ cs → x.repC w (ρ.del ids) cs
  | .d x, cs, _, h => by simp only [V.repC] at h ⊢; exact D.rep_mono (del_mono w ρ ids) x cs h
  | .ptr id p, cs, hm, h => by
    simp only [V.repC] at h ⊢
    simp only [V.men] at hm
    rcases h with ⟨b, sh, h1, h2⟩ | ⟨h1, h2⟩
    · exact .inl ⟨b, sh, by simp only [Env.del, hm]; exact h1, h2⟩
    · exact .inr ⟨by simp only [Env.del, hm]; exact h1, h2⟩
  | .sl id n, cs, hm, h => by
    simp only [V.repC] at h ⊢
    simp only [V.men] at hm
    obtain ⟨o, u, h1, h2⟩ := h
    exact ⟨o, u, by simp only [Env.del, hm]; exact h1, h2⟩
  | .sd id n, cs, hm, h => by
    simp only [V.repC] at h ⊢
    simp only [V.men] at hm
    obtain ⟨o, u, h1, h2⟩ := h
    exact ⟨o, u, by simp only [Env.del, hm]; exact h1, h2⟩
  | .fn f fi ca, cs, hm, h => by
    simp only [V.repC] at h ⊢
    simp only [V.men, Bool.or_eq_false_iff] at hm
    obtain ⟨fs, gs, e, h1, h2⟩ := h
    exact ⟨fs, gs, e, V.reps_del fi fs hm.1 h1, V.reps_del ca gs hm.2 h2⟩
  | .agg xs, cs, hm, h => by
    simp only [V.repC] at h ⊢
    simp only [V.men] at hm
    exact V.repCs_del xs cs hm h
  | .iface ty x, cs, hm, h => by
    simp only [V.repC] at h ⊢
    simp only [V.men] at hm
    obtain ⟨u, e, h1⟩ := h
    refine ⟨u, e, ?_⟩
    rcases h1 with h1 | ⟨p, ds, q, r⟩ | ⟨p, r⟩
    · exact .inl h1
    · exact .inr (.inl ⟨p, ds, q, V.repC_del x ds hm r⟩)
    · exact .inr (.inr ⟨p, V.repC_del x _ hm r⟩)
  | .tup xs, cs, hm, h => by
    simp only [V.repC] at h ⊢
    simp only [V.men] at hm
    obtain ⟨vs, e, h1⟩ := h
    exact ⟨vs, e, V.reps_del xs vs hm h1⟩
  | .undef, cs, _, h => by simpa only [V.repC] using h
  | .any, cs, _, h => by simpa only [V.repC] using h
theorem V.repCs_del {w : World} {ρ : Env} {ids : Nat → Bool} : ∀ (xs : List V) (cs : List Value), V.mens ids xs = false → V.repCs w ρ xs cs → V.repCs w (ρ.del ids) xs cs
  | [], cs, _, h => by simpa only [V.repCs] using h
  | x :: r, cs, hm, h => by
    simp only [V.repCs] at h ⊢
    simp only [V.mens, Bool.or_eq_false_iff] at hm
    obtain ⟨c1, c2, e, h1, h2⟩ := h
    exact ⟨c1, c2, e, V.repC_del x c1 hm.1 h1, V.repCs_del r c2 hm.2 h2⟩
theorem V.reps_del {w : World} {ρ : Env} {ids : Nat → Bool} : ∀ (xs : List V) (vs : List Value), V.mens ids xs = false → V.reps w ρ xs vs → V.reps w (ρ.del ids) xs vs
  | [], vs, _, h => by simpa only [V.reps] using h
  | x :: r, vs, hm, h => by
    simp only [V.reps] at h ⊢
    simp only [V.mens, Bool.or_eq_false_iff] at hm
    obtain ⟨u, us, e, h1, h2⟩ := h
    refine ⟨u, us, e, ?_, V.reps_del r us hm.2 h2⟩
    rcases h1 with h1 | ⟨p, ds, q, r⟩ | ⟨p, r⟩
    · exact .inl h1
    · exact .inr (.inl ⟨p, ds, q, V.repC_del x ds hm.1 r⟩)
    · exact .inr (.inr ⟨p, V.repC_del x _ hm.1 r⟩)
end

theorem V.rep_del {w : World} {ρ : Env} {ids : Nat → Bool} {x : V} {u : Value} (hm : V.men ids x = false) (h : x.rep w ρ u) : x.rep w (ρ.del ids) u := by
  rcases h with h1 | ⟨p, ds, q, r⟩ | ⟨p, r⟩
  · exact .inl h1
  · exact .inr (.inl ⟨p, ds, q, V.repC_del x ds hm r⟩)
  · exact .inr (.inr ⟨p, V.repC_del x _ hm r⟩)

theorem lookO_drop {ids : Nat → Bool} : ∀ (ob : Objs) (j : Nat), lookO (dropO ids ob) j = if ids j then none else lookO ob j
  | [], j => by simp [dropO, lookO]
  | (k, x) :: r, j => by
    simp only [dropO]
    split
    · rename_i h
      rw [lookO_drop r j]
      simp only [lookO]
      by_cases e : k = j
      · subst e; rw [if_pos h, if_pos h]
      · simp [e]
    · rename_i h
      simp only [lookO, lookO_drop r j]
      by_cases e : k = j
      · subst e; rw [if_pos rfl, if_neg h, if_pos rfl]
      · simp [e]

theorem Once.drop {ids : Nat → Bool} : ∀ {ob : Objs}, Once ob → Once (dropO ids ob)
  | [], h => h
  | (k, x) :: r, h => by
    simp only [dropO]
    split
    · exact Once.drop h.2
    · refine ⟨?_, Once.drop h.2⟩
      rw [lookO_drop, h.1]; split <;> rfl

theorem noMenO_look {ids : Nat → Bool} : ∀ (ob : Objs) (j E : Nat) (t : V), noMenO ids ob = true → lookO ob j = some (.box E t) → V.men ids t = false
  | [], j, E, t, _, h => by simp [lookO] at h
  | (k, x) :: r, j, E, t, hm, h => by
    simp only [lookO] at h
    split at h
    · simp at h; subst h
      simp only [noMenO, Bool.and_eq_true] at hm
      simpa using hm.1
    · cases x with
      | box _ y => simp only [noMenO, Bool.and_eq_true] at hm; exact noMenO_look r j E t hm.2 h
      | arr _ z xs => simp only [noMenO] at hm; exact noMenO_look r j E t hm h
      | gone => simp only [noMenO] at hm; exact noMenO_look r j E t hm h

theorem noMenS_look {ids : Nat → Bool} : ∀ (sl : Slots) (k : Nat), noMenS ids sl = true → V.men ids (look sl k) = false
  | [], k, _ => by simp [look, V.men]
  | (j, v) :: r, k, hm => by
    simp only [noMenS, Bool.and_eq_true] at hm
    simp only [look]
    split
    · simpa using hm.1
    · exact noMenS_look r k hm.2

theorem OM.del {w : World} {ρ : Env} {ob : Objs} {ids : Nat → Bool} (h : OM w ρ ob) (hm : noMenO ids (dropO ids ob) = true) : OM w (ρ.del ids) (dropO ids ob) := by
  refine ⟨fun j x hx => ?_, fun j o hj => ?_, fun i j o p b h1 h2 h3 h4 => ?_, h.xlt, fun b o hb => ⟨(h.glb b o hb).1, (del_mono w ρ ids b (h.glb b o hb).2 (lt_of_some (h.glb b o hb).1)).2⟩, fun b hb => h.xdis b (del_ownM hb), Once.drop h.once⟩
  · have hx0 := hx
    rw [lookO_drop] at hx
    split at hx
    · cases hx
    · rename_i hn
      have h1 := h.one j x hx
      cases x with
      | box E t =>
        obtain ⟨b, cs, g1, g2, g3⟩ := h1
        exact ⟨b, cs, by simp only [Env.del, hn]; exact g1, g2, V.repC_del t cs (noMenO_look _ j E t hm hx0) g3⟩
      | gone => exact (by simp only [Env.del, hn]; exact h1 : (ρ.del ids).m j = some .gone)
      | arr E sz xs =>
        rcases h1 with ⟨g1, g2⟩ | ⟨b, cap, cs, sp, g1, g2, g3, g4⟩
        · exact .inl ⟨by simp only [Env.del, hn]; exact g1, g2⟩
        · exact .inr ⟨b, cap, cs, sp, by simp only [Env.del, hn]; exact g1, g2, D.repL_mono (del_mono w ρ ids) _ _ g3, g4⟩
  · simp only [Env.del] at hj
    rw [lookO_drop]
    split at hj
    · cases hj
    · rename_i hn
      rw [if_neg hn]
      exact h.dom j o hj
  · simp only [Env.del] at h1 h2
    split at h1
    · cases h1
    · split at h2
      · cases h2
      · exact h.inj i j o p b h1 h2 h3 h4

section
variable {w : World} {ρ : Env}
mutual
theorem V.men_dom {ids : Nat → Bool} (hd : ∀ id o, ρ.m id = some o → ids id = false) : ∀ (v : V) (cs : List Value), v.repC w ρ cs → V.men ids v = false
  | .d _, _, _ => rfl
  | .ptr id p, cs, h => by
    simp only [V.repC] at h
    simp only [V.men]
    rcases h with ⟨_, _, h, _⟩ | ⟨h, _⟩ <;> exact hd _ _ h
  | .sl id n, cs, h => by simp only [V.repC] at h; obtain ⟨_, _, h, _⟩ := h; exact hd _ _ h
  | .sd id n, cs, h => by simp only [V.repC] at h; obtain ⟨_, _, h, _⟩ := h; exact hd _ _ h
  | .fn f fi ca, cs, h => by
    simp only [V.repC] at h
    obtain ⟨fs, gs, _, h1, h2⟩ := h
    simp only [V.men, V.mens_dom hd fi fs h1, V.mens_dom hd ca gs h2, Bool.or_self]
  | .agg xs, cs, h => by simp only [V.repC] at h; simp only [V.men]; exact V.menCs_dom hd xs cs h
  | .iface t x, cs, h => by
    simp only [V.repC] at h
    obtain ⟨u, _, h⟩ := h
    simp only [V.men]
    rcases h with h | ⟨_, ds, _, h⟩ | ⟨_, h⟩
    · subst h; rfl
    · exact V.men_dom hd x ds h
    · exact V.men_dom hd x _ h
  | .tup xs, cs, h => by simp only [V.repC] at h; obtain ⟨vs, _, h⟩ := h; simp only [V.men]; exact V.mens_dom hd xs vs h
  | .undef, _, _ => rfl
  | .any, _, _ => rfl
theorem V.menCs_dom {ids : Nat → Bool} (hd : ∀ id o, ρ.m id = some o → ids id = false) : ∀ (xs : List V) (cs : List Value), V.repCs w ρ xs cs → V.mens ids xs = false
  | [], _, _ => rfl
  | x :: r, cs, h => by
    simp only [V.repCs] at h
    obtain ⟨c1, c2, _, h1, h2⟩ := h
    simp only [V.mens, V.men_dom hd x c1 h1, V.menCs_dom hd r c2 h2, Bool.or_self]
theorem V.mens_dom {ids : Nat → Bool} (hd : ∀ id o, ρ.m id = some o → ids id = false) : ∀ (xs : List V) (vs : List Value), V.reps w ρ xs vs → V.mens ids xs = false
  | [], _, _ => rfl
  | x :: r, vs, h => by
    simp only [V.reps] at h
    obtain ⟨u, us, _, h1, h2⟩ := h
    have : V.men ids x = false := by
      rcases h1 with h | ⟨_, ds, _, h⟩ | ⟨_, h⟩
      · subst h; rfl
      · exact V.men_dom hd x ds h
      · exact V.men_dom hd x _ h
    simp only [V.mens, this, V.mens_dom hd r us h2, Bool.or_self]
end
theorem V.men_temp {ids : Nat → Bool} (hd : ∀ id o, ρ.m id = some o → ids id = false) {v : V} {u : Value} (h : v.rep w ρ u) : V.men ids v = false := by
  rcases h with h | ⟨_, ds, _, h⟩ | ⟨_, h⟩
  · subst h; rfl
  · exact V.men_dom hd v ds h
  · exact V.men_dom hd v _ h
end

theorem Mod.sub {c : Ctx} {xo : Nat → Prop} {ρ : Env} {sl : Slots} {ob : Objs} {a : Act} {w : World} {keep : List Nat} {drp : Nat → Bool} (m : Mod c xo ρ sl ob a w) (hd : ∀ id o, c.m0 id = some o → drp id = false) (hv : ∀ p ∈ c.ev, V.men drp p.1 = false)
    (h1 : noMenS drp (keepS sl keep) = true) (h2 : noMenO drp (dropO drp ob) = true) : Mod c xo (ρ.del drp) (keepS sl keep) (dropO drp ob) a w :=
  ⟨⟨m.base.size, m.base.keep, fun b hb => m.base.owns b (del_ownM hb), m.base.tape, m.base.os, m.base.out, fun id o h => (m.base.same id o h).elim fun o' q => ⟨o', by simp only [Env.del, hd id o h]; exact q.1, q.2⟩, fun p hp => V.rep_del (hv p hp) (m.base.ext p hp)⟩, m.om.del h2, fun k => V.rep_del (noMenS_look _ k h1) (m.sm.keep keep k), m.size, m.df, m.xo, m.gl⟩

/-- what is left of a state when the call panics: what the code behind it may look at -/
def PanicQ (c : Ctx) (xo : Nat → Prop) (pk : List Nat) (Q : Post) (ch : List PanicEntry) (a : Act) (w : World) : Prop :=
  ∃ v sl ob ρ u, Q (.panic v) (keepS sl pk) ob ∧ ch = [{ v := u, recovered := false }] ∧ v.rep w ρ u ∧ Mod c xo ρ (keepS sl pk) ob a w

theorem look_keep (sl : Slots) : ∀ (pk : List Nat) (k : Nat), k ∉ pk → look (keepS sl pk) k = .any
  | [], k, _ => by simp [keepS, look]
  | j :: r, k, h => by
    simp only [keepS, look]
    have : j ≠ k := fun e => h (by simp [e])
    rw [if_neg this]
    exact look_keep sl r k (fun h' => h (by simp [h']))

theorem panic_put {c : Ctx} {xo : Nat → Prop} {pk : List Nat} {Q : Post} {ch : List PanicEntry} {a : Act} {w : World} {d : Option Nat} {v : Value} (hd : ∀ k, d = some k → k ∉ pk) (h : PanicQ c xo pk Q ch (a.put d v) w) : PanicQ c xo pk Q ch a w := by
  obtain ⟨x, sl, ob, ρ, u, h1, h2, h3, m⟩ := h
  refine ⟨x, sl, ob, ρ, u, h1, h2, h3, m.base, m.om, fun k => ?_, ?_, ?_, m.xo, m.gl⟩
  · by_cases hk : k ∈ pk
    · have := m.sm k
      cases d with
      | none => exact this
      | some j =>
        have hne : j ≠ k := fun e => hd j rfl (e ▸ hk)
        simpa [Act.put, Array.getElem?_setIfInBounds, hne] using this
    · rw [look_keep sl pk k hk]; exact rep_any
  · have := m.size
    cases d <;> simpa [Act.put] using this
  · have := m.df
    cases d <;> simpa [Act.put] using this

/-- the operations of a region that draws its order, in the one order that serves for all -/
theorem drawn_sound {P : Prg} {c : Ctx} (hg : P.g = c.g) {xo : Nat → Prop} {ops : Array Oper} {Q : Exit → Act → World → Prop} {QP : Post} {pk : List Nat} {K : Slots → Objs → Prop} {kd : Nat → Nat}
    (hsel : Region.noSelect ops = true) (hpk : dstsFree pk ops = true)
    (hK : ∀ sl ob ρ a w, K sl ob → Mod c xo ρ sl ob a w → Q .normal a w)
    (hQ : ∀ ch a w, Q (.panic ch) a w ↔ PanicQ c xo pk QP ch a w) :
    ∀ (ord : List Nat) (its : List It) (listed : Array Bool) (sl : Slots) (ob : Objs) (ρ : Env) (a : Act) (w : World), canon P.p c.N ops kd listed ord its = true → Closed .any ops listed →
      rwp P K (fun v sl ob => QP (.panic v) (keepS sl pk) ob) its sl ob → Mod c xo ρ sl ob a w → wpAnyG P.p .any ops Q Ext (fun j => kd j == 3) ord.length listed a w
  | [], [], listed, sl, ob, ρ, a, w, hc, _, h, m => by
    simp only [canon] at hc
    simp only [List.length_nil, wpAnyG]
    exact ⟨by simpa using hc, hK sl ob ρ a w h m⟩
  | i :: r, x :: s, listed, sl, ob, ρ, a, w, hc, hcl, h, m => by
    simp only [canon, Bool.and_eq_true] at hc
    obtain ⟨⟨⟨⟨hr, hx⟩, hkd⟩, hkind⟩, hrest⟩ := hc
    have hr' : i ∈ Region.ready .any ops listed := by simpa using hr
    cases ho : ops[i]? with
    | none => simp [ho] at hx
    | some o =>
      simp only [ho] at hx
      have hkd' : x.kind = kd i := by simpa using hkd
      have hpko : ∀ k, o.dst = some k → k ∉ pk := by
        intro k hk
        have := List.all_eq_true.1 hpk o (by simpa using Array.mem_of_getElem? ho)
        simpa [hk] using this
      have hQo : ∀ v : Value, ∀ ch a w, Q (.panic ch) (a.put o.dst v) w → Q (.panic ch) a w := fun v ch a w hq => (hQ ch a w).2 (panic_put hpko ((hQ ch _ w).1 hq))
      have hcl' := hcl.step hr'
      simp only [List.length_cons]
      -- the operation's state and text, whichever way its guard goes
      have hd : ∃ (d : Option Nat) (y : I), dstOk c.N o.dst d = true ∧ y.chk P.p o.op = true ∧ x.kind = y.kind ∧
          ((Region.wanted o (yielded ops a.tmps) = true ∧ ∃ sl', SM w ρ sl' a ∧ y.wp P sl' ob (fun v ob' => rwp P K (fun v sl ob => QP (.panic v) (keepS sl pk) ob) s (put sl' d v) ob') (fun v ob' => QP (.panic v) (keepS sl' pk) ob')) ∨
           (Region.wanted o (yielded ops a.tmps) = false ∧ ∃ sl', SM w ρ sl' a ∧ rwp P K (fun v sl ob => QP (.panic v) (keepS sl pk) ob) s (put sl' d .undef) ob)) := by
        cases x with
        | op d y =>
          simp only [It.chk, Bool.and_eq_true, Option.isNone_iff_eq_none] at hx
          simp only [rwp] at h
          exact ⟨d, y, hx.1.1, hx.2, rfl, .inl ⟨by simp [Region.wanted, hx.1.2], sl, m.sm, h⟩⟩
        | gop g want d y =>
          simp only [It.chk, Bool.and_eq_true] at hx
          simp only [rwp] at h
          exact ⟨d, y, hx.1.1, hx.2, rfl, guard_sound (ops := ops) m.sm hx.1.2 h⟩
      obtain ⟨d, y, hdst, hy, hky, hways⟩ := hd
      -- an operation that may be taken first
      have first : ∀ l : Bool, (∀ cc, y = .c cc → cc.isLd = l) → (∃ cc, y = .c cc) → Region.free .any ops listed i = true →
          (l = true → ∀ j, j < ops.size → (kd j == 3) = true → j ≠ i → ∃ fuel, waits .any ops i fuel j = true) → wpAnyG P.p .any ops Q Ext (fun j => kd j == 3) (r.length + 1) listed a w := by
        intro l hld hcc hfree hwt
        obtain ⟨cc, rfl⟩ := hcc
        have hld := hld cc rfl
        rcases hways with ⟨hw, sl', hs, hwp⟩ | ⟨hw, sl', hs, hwp⟩
        · simp only [I.wp] at hwp
          obtain ⟨v, z, hk, hrep, hrun⟩ := C.sound hs m.om hy hwp
          obtain ⟨g1, g2, g3⟩ := rep_look_put hdst m.size hs hrep
          refine wpAnyG_first (l := l) Ext.refl (fun _ _ _ => Ext.trans) ho (Region.noSelect_spec hsel) (hQo v) hwt _ listed a w hcl (Region.free_spec ho hfree) hr' (.inl ⟨hw, fun w' hw' => hrun o rfl w' (fun e => hw' (by rw [← hld]; exact e))⟩) ?_
          exact drawn_sound hg hsel hpk hK hQ r s _ _ ob ρ _ w hrest hcl' hk ⟨m.base, m.om, g1, g2, g3.trans m.df, m.xo, m.gl⟩
        · obtain ⟨g1, g2, g3⟩ := rep_look_put hdst m.size hs (rep_undef.2 rfl)
          refine wpAnyG_first (l := l) Ext.refl (fun _ _ _ => Ext.trans) ho (Region.noSelect_spec hsel) (hQo undef) hwt _ listed a w hcl (Region.free_spec ho hfree) hr' (.inr ⟨hw, rfl⟩) ?_
          exact drawn_sound hg hsel hpk hK hQ r s _ _ ob ρ _ w hrest hcl' hwp ⟨m.base, m.om, g1, g2, g3.trans m.df, m.xo, m.gl⟩
      -- the only one that may come up
      have alone : Region.ready .any ops listed = [i] → (y.kind = 2 ∨ y.kind = 3) → wpAnyG P.p .any ops Q Ext (fun j => kd j == 3) (r.length + 1) listed a w := by
        intro hra hk23
        refine ⟨fun h0 => (by rw [hra] at h0; cases h0), fun j hj => ?_⟩
        rw [hra] at hj
        simp at hj; subst hj
        unfold wpOp
        simp only [ho]
        rcases hways with ⟨hw, sl', hs, hwp⟩ | ⟨hw, sl', hs, hwp⟩
        · rw [if_pos hw]
          refine .inl ?_
          rcases hk23 with hk2 | hk3
          · refine I.soundE (m.gl.trans hg.symm) hs m.om hk2 hy hwp o rfl _ _ (fun v z w' hk hrep he => ⟨fun _ => he, ?_⟩)
            obtain ⟨g1, g2, g3⟩ := rep_look_put hdst m.size (hs.tr he.tr) hrep
            exact drawn_sound hg hsel hpk hK hQ r s _ _ ob ρ _ w' hrest hcl' hk ⟨m.base.tr he.tr, m.om.ext he, g1, g2, g3.trans m.df, m.xo, m.gl⟩
          · refine I.sound (m.gl.trans hg.symm) hs m.om hy hwp o rfl _ _ (fun v z ob' w' ρ' hk hrep ho' t => ⟨fun hf => ?_, ?_⟩) (fun u z ob' w' ρ' hk hrep ho' t => ?_)
            · rw [← hkd', hky, hk3] at hf; cases hf
            · obtain ⟨g1, g2, g3⟩ := rep_look_put hdst m.size (hs.tr t) hrep
              exact drawn_sound hg hsel hpk hK hQ r s _ _ ob' ρ' _ w' hrest hcl' hk ⟨m.base.tr t, ho', g1, g2, g3.trans m.df, t.xo.trans m.xo, t.gl.trans m.gl⟩
            · exact (hQ _ _ _).2 ⟨z, sl', ob', ρ', u, hk, rfl, hrep, m.base.tr t, ho', (hs.tr t).keep pk, m.size, m.df, t.xo.trans m.xo, t.gl.trans m.gl⟩
        · rw [hw]
          simp only [Bool.false_eq_true, if_false]
          refine ⟨fun _ => Ext.refl w, ?_⟩
          obtain ⟨g1, g2, g3⟩ := rep_look_put hdst m.size hs (rep_undef.2 rfl)
          exact drawn_sound hg hsel hpk hK hQ r s _ _ ob ρ _ w hrest hcl' hwp ⟨m.base, m.om, g1, g2, g3.trans m.df, m.xo, m.gl⟩
      have hkl : y.kind = 0 ∨ y.kind = 1 ∨ y.kind = 2 ∨ y.kind = 3 := by
        cases y with
        | c cc => simp only [I.kind]; split <;> simp
        | _ => simp [I.kind]
      have hcc : ∀ n, (n = 0 ∨ n = 1) → y.kind = n → (∃ cc, y = .c cc) ∧ ∀ cc, y = .c cc → cc.isLd = (n == 1) := by
        intro n hn hyn
        cases y with
        | c cc =>
          refine ⟨⟨cc, rfl⟩, fun c' e => ?_⟩
          cases e
          simp only [I.kind] at hyn
          cases hl : cc.isLd <;> simp [hl] at hyn <;> subst hyn <;> rfl
        | _ => simp [I.kind] at hyn; subst hyn; simp at hn
      rcases hkl with h0 | h1 | h2 | h3
      · rw [hky, h0] at hkind
        obtain ⟨c1, c2⟩ := hcc 0 (.inl rfl) h0
        exact first false (fun cc e => by simpa using c2 cc e) c1 hkind (by simp)
      · rw [hky, h1] at hkind
        simp only [Bool.and_eq_true] at hkind
        obtain ⟨c1, c2⟩ := hcc 1 (.inr rfl) h1
        refine first true (fun cc e => by simpa using c2 cc e) c1 hkind.1 (fun _ j hj hk3 hne => ⟨ops.size, ?_⟩)
        have := List.all_eq_true.1 hkind.2 j (by simpa using hj)
        have hk3' : kd j = 3 := by simpa using hk3
        simpa [hk3', hne] using this
      · rw [hky, h2] at hkind
        exact alone (by simpa using hkind) (.inl h2)
      · rw [hky, h3] at hkind
        exact alone (by simpa using hkind) (.inr h3)
  | [], _ :: _, _, _, _, _, _, _, hc, _, _, _ => by simp [canon] at hc
  | _ :: _, [], _, _, _, _, _, _, hc, _, _, _ => by simp [canon] at hc

/-- the walk may be given more steps than it takes -/
theorem wpAny_fuel {P : Program} {ops : Array Oper} {Q : Exit → Act → World → Prop} {md : Region.Mode} : ∀ (n m : Nat) (listed : Array Bool) (a : Act) (w : World), n ≤ m → wpAny P md ops Q n listed a w → wpAny P md ops Q m listed a w
  | 0, 0, _, _, _, _, h => h
  | 0, m + 1, listed, a, w, _, h => ⟨fun _ => h.2, fun i hi => by rw [h.1] at hi; cases hi⟩
  | n + 1, m + 1, listed, a, w, hle, h => ⟨h.1, fun i hi => wpOp_mono (fun a' w' h' => wpAny_fuel n m _ a' w' (by omega) h') (h.2 i hi)⟩
  | n + 1, 0, _, _, _, hle, _ => by omega

theorem exists_least {p : Nat → Prop} : ∀ n, p n → ∃ m, p m ∧ ∀ k, p k → m ≤ k := by
  intro n
  induction n using Nat.strongRecOn with
  | _ n ih =>
    intro hn
    by_cases h : ∃ k, p k ∧ k < n
    · obtain ⟨k, hk, hlt⟩ := h; exact ih k hlt hk
    · exact ⟨n, hn, fun k hk => Nat.le_of_not_lt fun hlt => h ⟨k, hk, hlt⟩⟩

theorem cwp_sound {P : Prg} (hm : P.p.follows .mixedOrders = true) {c : Ctx} (hg : P.g = c.g) {xo : Nat → Prop} : ∀ (code : Code) (s : S) (Q : Post) (sl : Slots) (ob : Objs) (ρ : Env) (a : Act) (w : World),
    S.chk P.p c.N code s = true → cwp P s Q sl ob → Mod c xo ρ sl ob a w → code.wp P.p (lift c xo Q) a w
  | .skip, s, Q, sl, ob, ρ, a, w, hc, h, m => by
    cases s <;> simp [S.chk] at hc
    exact wp_skip ⟨.normal, sl, ob, ρ, h, trivial, m⟩
  | .region id ops draw, s, Q, sl, ob, ρ, a, w, hc, h, m => by
    cases s <;> simp only [S.chk, Bool.false_eq_true] at hc
    rename_i ord l keep pk
    simp only [cwp] at h
    cases draw with
    | false =>
      simp only [Bool.false_eq_true, if_false] at hc
      refine wp_region_list (list_sound (c := c) (xo := xo) hg (fun sl ob ρ a w hk m => ?_) (fun v sl ob ρ a w u hk m hr => ?_) ops.toList l sl ob ρ a w hc h m)
      · exact ⟨.normal, _, ob, ρ, hk, trivial, m.base, m.om, m.sm.keep keep, m.size, m.df, m.xo, m.gl⟩
      · exact ⟨.panic v, _, ob, ρ, hk, ⟨u, rfl, hr⟩, m.base, m.om, m.sm.keep pk, m.size, m.df, m.xo, m.gl⟩
    | true =>
      simp only [if_true, Bool.and_eq_true] at hc
      obtain ⟨⟨⟨hlen, hsel⟩, hpk⟩, hcan⟩ := hc
      have hlen : ord.length ≤ ops.size := by simpa using hlen
      let Q' : Exit → Act → World → Prop := fun e a w => match e with
        | .panic ch => PanicQ c xo pk Q ch a w
        | e => lift c xo Q e a w
      have hx : Ext w { w with drawn := w.drawn + 1 } := Ext.drew w _
      have key := drawn_sound (Q := Q') (QP := Q) (K := fun sl ob => Q .normal (keepS sl keep) ob) hg hsel hpk
        (fun sl ob ρ a w hk m => (⟨.normal, _, ob, ρ, hk, trivial, m.base, m.om, m.sm.keep keep, m.size, m.df, m.xo, m.gl⟩ : lift c xo Q .normal a w))
        (fun ch a w => Iff.rfl) ord l (Array.replicate ops.size false) sl ob ρ a { w with drawn := w.drawn + 1 } hcan
        (fun k o _ hl => by
          rcases Nat.lt_or_ge k ops.size with h' | h'
          · simp [h'] at hl
          · simp [h'] at hl) h ⟨m.base.tr hx.tr, m.om.ext hx, m.sm.tr hx.tr, m.size, m.df, m.xo, m.gl⟩
      have hany := wpAny_of_G _ _ _ _ key
      refine wp_mono (wp_region_any hm (wpAny_fuel _ _ _ _ _ hlen hany)) (fun e a' w' he => ?_)
      cases e with
      | panic ch =>
        obtain ⟨v, sl', ob', ρ', u, h1, h2, h3, m'⟩ := he
        exact ⟨.panic v, _, ob', ρ', h1, ⟨u, h2, h3⟩, m'⟩
      | _ => exact he
  | .seq x y, s, Q, sl, ob, ρ, a, w, hc, h, m => by
    cases s <;> simp [S.chk] at hc
    simp only [cwp] at h
    refine wp_seq (wp_mono (cwp_sound hm hg x _ _ sl ob ρ a w hc.1 h m) ?_)
    rintro e a' w' ⟨ae, sl', ob', ρ', hq, he, m'⟩
    cases ae with
    | normal =>
      cases e <;> simp only [exM] at he
      exact cwp_sound hm hg y _ Q sl' ob' ρ' a' w' hc.2 hq m'
    | exit n =>
      cases e <;> simp only [exM] at he
      exact ⟨.exit n, sl', ob', ρ', hq, he, m'⟩
    | ret =>
      cases e <;> simp only [exM] at he
      exact ⟨.ret, sl', ob', ρ', hq, trivial, m'⟩
    | panic v =>
      cases e <;> simp only [exM] at he
      exact ⟨.panic v, sl', ob', ρ', hq, he, m'⟩
  | .cond d x y, s, Q, sl, ob, ρ, a, w, hc, h, m => by
    cases s <;> simp [S.chk] at hc
    obtain ⟨⟨h1, h2⟩, h3⟩ := hc
    simp only [cwp] at h
    have r1 := A.sound m.sm h1
    unfold condK at h
    split at h
    · rename_i t e
      rw [e, rep_bool] at r1
      exact wp_cond_split r1 (fun ht => cwp_sound hm hg x _ Q sl ob ρ a w h2 (h.1 ht) m) (fun ht => cwp_sound hm hg y _ Q sl ob ρ a w h3 (h.2 ht) m)
    · exact h.elim
  | .block n x, s, Q, sl, ob, ρ, a, w, hc, h, m => by
    cases s <;> simp [S.chk] at hc
    obtain ⟨rfl, h1⟩ := hc
    simp only [cwp] at h
    refine wp_block (wp_mono (cwp_sound hm hg x _ _ sl ob ρ a w h1 h m) ?_)
    rintro e a' w' ⟨ae, sl', ob', ρ', hq, he, m'⟩
    cases ae with
    | normal =>
      cases e <;> simp only [exM] at he
      exact ⟨.normal, sl', ob', ρ', hq, trivial, m'⟩
    | exit k =>
      cases e <;> simp only [exM] at he
      subst he
      simp only [blockK] at hq
      simp only [Exit.inBlock]
      split
      · rename_i e; rw [if_pos e] at hq; exact ⟨.normal, sl', ob', ρ', hq, trivial, m'⟩
      · rename_i e; rw [if_neg e] at hq; exact ⟨.exit _, sl', ob', ρ', hq, rfl, m'⟩
    | ret =>
      cases e <;> simp only [exM] at he
      exact ⟨.ret, sl', ob', ρ', hq, trivial, m'⟩
    | panic v =>
      cases e <;> simp only [exM] at he
      exact ⟨.panic v, sl', ob', ρ', hq, he, m'⟩
  | .loop x, s, Q, sl, ob, ρ, a, w, hc, h, m => by
    cases s <;> simp [S.chk] at hc
    simp only [cwp] at h
    obtain ⟨ι, St, Ot, I, μ, i0, hi0, he0, he1, hstep⟩ := h.run
    let G : Act → World → Nat → Prop := fun a w n => ∃ i ρ, I i ∧ μ i = n ∧ Mod c xo ρ (St i) (Ot i) a w
    let M : Act → World → Nat := fun a w => open Classical in if h : ∃ n, G a w n then Classical.choose (exists_least (p := G a w) (Classical.choose h) (Classical.choose_spec h)) else 0
    have hM : ∀ a w n, G a w n → G a w (M a w) ∧ M a w ≤ n := by
      intro a w n hn
      have hex : ∃ n, G a w n := ⟨n, hn⟩
      have := Classical.choose_spec (exists_least (p := G a w) (Classical.choose hex) (Classical.choose_spec hex))
      simp only [M, hex, dif_pos]
      exact ⟨this.1, this.2 n hn⟩
    refine wp_loop (I := fun a w => ∃ n, G a w n) (μ := M) ⟨μ i0, i0, ρ, hi0, rfl, by rw [← he0, ← he1]; exact ⟨m.base, m.om, m.sm.keep _, m.size, m.df, m.xo, m.gl⟩⟩ ?_
    rintro a1 w1 ⟨n, hn⟩
    obtain ⟨⟨i, ρ1, hi, hmu, m1⟩, _⟩ := hM a1 w1 n hn
    refine wp_mono (cwp_sound hm hg x _ _ _ _ ρ1 a1 w1 hc (hstep i hi) m1) ?_
    rintro e a' w' ⟨ae, sl', ob', ρ', hq, he, m'⟩
    cases ae with
    | normal =>
      cases e <;> simp only [exM] at he
      simp only [thenK] at hq
      obtain ⟨drp, q1, q2, j, hj, hlt, hSj, hOj⟩ := hq
      have hold1 : ∀ id o, ρ1.m id = some o → young (fresh (Ot i)) drp id = false := fun id o h0 => by
        obtain ⟨x, hx⟩ := m1.om.dom id o h0
        have hlt : ¬ fresh (Ot i) ≤ id := fun hle => by rw [fresh_look _ _ hle] at hx; cases hx
        simp [young, hlt]
      have hold : ∀ id o, c.m0 id = some o → young (fresh (Ot i)) drp id = false := fun id o h0 => by
        obtain ⟨o', h1, _⟩ := m1.base.same id o h0
        exact hold1 id o' h1
      have hev : ∀ p ∈ c.ev, V.men (young (fresh (Ot i)) drp) p.1 = false := fun p hp => V.men_temp hold1 (m1.base.ext p hp)
      have hg : G a' w' (μ j) := ⟨j, _, hj, rfl, by rw [← hSj, ← hOj]; exact m'.sub hold hev q1 q2⟩
      have := hM a' w' _ hg
      exact ⟨⟨_, hg⟩, by omega⟩
    | exit k =>
      cases e <;> simp only [exM] at he
      exact ⟨.exit k, sl', ob', ρ', hq, he, m'⟩
    | ret =>
      cases e <;> simp only [exM] at he
      exact ⟨.ret, sl', ob', ρ', hq, trivial, m'⟩
    | panic v =>
      cases e <;> simp only [exM] at he
      exact ⟨.panic v, sl', ob', ρ', hq, he, m'⟩
  | .exit n, s, Q, sl, ob, ρ, a, w, hc, h, m => by
    cases s <;> simp [S.chk] at hc
    subst hc
    exact wp_exit ⟨.exit n, sl, ob, ρ, h, rfl, m⟩
  | .ret, s, Q, sl, ob, ρ, a, w, hc, h, m => by
    cases s <;> simp [S.chk] at hc
    exact wp_ret ⟨.ret, sl, ob, ρ, h, trivial, m⟩
  | .rangeFunc _ _ _ _, s, Q, sl, ob, ρ, a, w, hc, h, m => by cases s <;> simp [S.chk] at hc
  | .scope _, s, Q, sl, ob, ρ, a, w, hc, h, m => by cases s <;> simp [S.chk] at hc
  | .label _, s, Q, sl, ob, ρ, a, w, hc, h, m => by cases s <;> simp [S.chk] at hc
  | .goto _, s, Q, sl, ob, ρ, a, w, hc, h, m => by cases s <;> simp [S.chk] at hc
  | .refuse _, s, Q, sl, ob, ρ, a, w, hc, h, m => by cases s <;> simp [S.chk] at hc
end Go.Ab
