/- Operations that make or write memory, on abstract values: their text, and that they do it. Over any program; no condition. -/
import Derived.Test.YtlkpnkkgkjkmbaaDoorAb8
namespace Go.Ab
open Go

/-- a name that no object has -/
def fresh : Objs → Nat
  | [] => 0
  | (j, _) :: r => if fresh r ≤ j then j + 1 else fresh r
theorem fresh_look : ∀ (ob : Objs) (j : Nat), fresh ob ≤ j → lookO ob j = none
  | [], _, _ => rfl
  | (i, o) :: r, j, h => by
    simp only [fresh] at h
    simp only [lookO]
    split at h
    · rw [if_neg (by omega)]; exact fresh_look r j (by omega)
    · rw [if_neg (by omega)]; exact fresh_look r j h
theorem fresh_none (ob : Objs) : lookO ob (fresh ob) = none := fresh_look ob _ (Nat.le_refl _)

/-! A value given up: what it names nobody writes any more -/
def givO (ob : Objs) (id n : Nat) : Option Ob → Option (D × Objs)
  | some (.arr _ sz xs) => if sz ≠ 0 ∧ n = xs.length then some (.list sz xs, setO ob id .gone) else none
  | _ => none
def aggO : Option (List D × Objs) → Option (D × Objs)
  | some (l, ob) => some (.agg l, ob)
  | none => none
def ifcO (t : Nat) : Option (D × Objs) → Option (D × Objs)
  | some (x, ob) => some (.iface t x, ob)
  | none => none
def consO (x : D) : Option (List D × Objs) → Option (List D × Objs)
  | some (l, ob) => some (x :: l, ob)
  | none => none
mutual
def V.giv (ob : Objs) : V → Option (D × Objs)
  | .d x => some (x, ob)
  | .sl id n => givO ob id n (lookO ob id)
  | .agg xs => aggO (V.givs ob xs)
  | .iface t x => ifcO t (V.giv ob x)
  | _ => none
def V.givs (ob : Objs) : List V → Option (List D × Objs)
  | [] => some ([], ob)
  | x :: r => match V.giv ob x with
    | some (y, ob1) => consO y (V.givs ob1 r)
    | none => none
end

section
variable {w : World}
mutual
theorem V.giv_sound : ∀ (v : V) (ob : Objs) (ρ : Env) (cs : List Value) (d : D) (ob' : Objs), OM w ρ ob → v.repC w ρ cs → V.giv ob v = some (d, ob') →
    ∃ ρ', Tr w ρ w ρ' ∧ OM w ρ' ob' ∧ d.rep w (own ρ') cs ∧ d.isAgg = v.isAgg
  | .d x, ob, ρ, cs, dd, ob', hO, h, e => by
    simp only [V.giv, Option.some.injEq, Prod.mk.injEq] at e
    obtain ⟨rfl, rfl⟩ := e
    exact ⟨ρ, Tr.refl _ _, hO, by simpa only [V.repC] using h, by cases x <;> rfl⟩
  | .sl id n, ob, ρ, cs, dd, ob', hO, h, e => by
    simp only [V.giv] at e
    unfold givO at e
    split at e
    · rename_i E sz xs hl
      split at e
      · rename_i hc
        simp only [Option.some.injEq, Prod.mk.injEq] at e
        obtain ⟨rfl, rfl⟩ := e
        obtain ⟨hsz, rfl⟩ := hc
        obtain ⟨t1, o1, _⟩ := give_up hO ⟨_, hl⟩
        have h0 := h
        simp only [V.repC] at h0
        obtain ⟨o, u, h1, rfl, h2⟩ := h0
        have := give_arr hO hl hsz (u := u) (by rw [rep_sl]; exact ⟨o, h1, h2⟩)
        refine ⟨_, t1, o1, ?_, rfl⟩
        rw [rep_leaf (by simp [V.isAgg]) (by simp)] at this
        simpa only [V.repC] using this
      · cases e
    · cases e
  | .agg xs, ob, ρ, cs, dd, ob', hO, h, e => by
    simp only [V.giv] at e
    cases hg : V.givs ob xs with
    | none => simp [hg, aggO] at e
    | some r =>
      obtain ⟨l, ob1⟩ := r
      simp only [hg, aggO, Option.some.injEq, Prod.mk.injEq] at e
      obtain ⟨rfl, rfl⟩ := e
      simp only [V.repC] at h
      obtain ⟨ρ', t, o, hr⟩ := V.givs_sound xs ob ρ cs l ob1 hO h hg
      exact ⟨ρ', t, o, by simpa only [D.rep] using hr, rfl⟩
  | .iface t x, ob, ρ, cs, dd, ob', hO, h, e => by
    simp only [V.giv] at e
    cases hg : V.giv ob x with
    | none => simp [hg, ifcO] at e
    | some r =>
      obtain ⟨y, ob1⟩ := r
      simp only [hg, ifcO, Option.some.injEq, Prod.mk.injEq] at e
      obtain ⟨rfl, rfl⟩ := e
      simp only [V.repC] at h
      obtain ⟨u, e1, h1⟩ := h
      rcases h1 with h1 | ⟨p, ds, q, r⟩ | ⟨p, r⟩
      · subst h1; simp [V.giv] at hg
      · obtain ⟨ρ', t1, o, hr, ha⟩ := V.giv_sound x ob ρ ds y ob1 hO r hg
        exact ⟨ρ', t1, o, by simp only [D.rep]; exact ⟨u, e1, .inl ⟨by rw [ha]; exact p, ds, q, hr⟩⟩, rfl⟩
      · obtain ⟨ρ', t1, o, hr, ha⟩ := V.giv_sound x ob ρ [u] y ob1 hO r hg
        exact ⟨ρ', t1, o, by simp only [D.rep]; exact ⟨u, e1, .inr ⟨by rw [ha]; exact p, hr⟩⟩, rfl⟩
  | .ptr _ _, _, _, _, _, _, _, _, e | .sd _ _, _, _, _, _, _, _, _, e | .fn _ _ _, _, _, _, _, _, _, _, e | .tup _, _, _, _, _, _, _, _, e | .undef, _, _, _, _, _, _, _, e | .any, _, _, _, _, _, _, _, e => by simp [V.giv] at e
theorem V.givs_sound : ∀ (vs : List V) (ob : Objs) (ρ : Env) (cs : List Value) (l : List D) (ob' : Objs), OM w ρ ob → V.repCs w ρ vs cs → V.givs ob vs = some (l, ob') →
    ∃ ρ', Tr w ρ w ρ' ∧ OM w ρ' ob' ∧ D.repL w (own ρ') l cs
  | [], ob, ρ, cs, l, ob', hO, h, e => by
    simp only [V.givs, Option.some.injEq, Prod.mk.injEq] at e
    obtain ⟨rfl, rfl⟩ := e
    exact ⟨ρ, Tr.refl _ _, hO, by simpa only [V.repCs, D.repL] using h⟩
  | x :: r, ob, ρ, cs, l, ob', hO, h, e => by
    simp only [V.givs] at e
    simp only [V.repCs] at h
    obtain ⟨c1, c2, rfl, h1, h2⟩ := h
    split at e
    · rename_i dd ob1 hg
      obtain ⟨ρ1, t1, o1, hr, _⟩ := V.giv_sound x ob ρ c1 dd ob1 hO h1 hg
      cases hg2 : V.givs ob1 r with
      | none => simp [hg2, consO] at e
      | some q =>
        obtain ⟨l2, ob2⟩ := q
        simp only [hg2, consO, Option.some.injEq, Prod.mk.injEq] at e
        obtain ⟨rfl, rfl⟩ := e
        obtain ⟨ρ2, t2, o2, hr2⟩ := V.givs_sound r ob1 ρ1 c2 l2 ob2 o1 (V.repCs_tr t1 _ _ h2) hg2
        exact ⟨ρ2, t1.trans t2, o2, by simp only [D.repL]; exact ⟨c1, c2, rfl, D.rep_mono t2.mono _ _ hr, hr2⟩⟩
    · cases e
end
theorem giv_temp {ρ : Env} {ob ob' : Objs} {v : V} {d : D} {u : Value} (hO : OM w ρ ob) (h : v.rep w ρ u) (e : V.giv ob v = some (d, ob')) : ∃ ρ', Tr w ρ w ρ' ∧ OM w ρ' ob' ∧ (V.d d).rep w ρ' u := by
  rcases h with h | ⟨p, ds, q, r⟩ | ⟨p, r⟩
  · subst h; simp [V.giv] at e
  · obtain ⟨ρ', t1, o, hr, ha⟩ := V.giv_sound v ob ρ ds d ob' hO r e
    exact ⟨ρ', t1, o, rep_d.2 (.inl ⟨by rw [ha]; exact p, ds, q, hr⟩)⟩
  · obtain ⟨ρ', t1, o, hr, ha⟩ := V.giv_sound v ob ρ [u] d ob' hO r e
    exact ⟨ρ', t1, o, rep_d.2 (.inr ⟨by rw [ha]; exact p, hr⟩)⟩
end

/-- how a call ends -/
inductive Out where
  | ret (v : V)
  | panic (v : V)

def OutRep (w : World) (ρ : Env) : Ending → Out → Prop
  | .returned u, .ret v => v.rep w ρ u
  | .panicked ch, .panic v => ∃ u, ch = [{ v := u, recovered := false }] ∧ v.rep w ρ u
  | _, _ => False

/-- A program, and what its package-level variables hold. -/
structure Prg where
  p : Program
  g : Nat → Option Obj

/-- A call of function f with these values, from any memory that holds these objects. -/
structure ACall (P : Prg) (f : Nat) (vs : List V) (ob : Objs) (K : Out → Objs → Prop) : Prop where
  run : ∀ w ρ args, OM w ρ ob → ρ.gl = P.g → V.reps w ρ vs args → Calls P.p f args.toArray w (fun e w' => ∃ out ob' ρ', K out ob' ∧ OutRep w' ρ' e out ∧ OM w' ρ' ob' ∧ Tr w ρ w' ρ')

theorem ACall.mono {P : Prg} {f : Nat} {vs : List V} {ob : Objs} {K K' : Out → Objs → Prop} (h : ACall P f vs ob K) (hk : ∀ o b, K o b → K' o b) : ACall P f vs ob K' :=
  ⟨fun w ρ args ho hg hr => (h.run w ρ args ho hg hr).mono fun _ _ ⟨out, ob', ρ', k, r⟩ => ⟨out, ob', ρ', hk _ _ k, r⟩⟩

/-- The same of a call that adds memory at most, and returns. -/
structure PCall (P : Prg) (f : Nat) (vs : List V) (ob : Objs) (K : V → Prop) : Prop where
  run : ∀ w ρ args, OM w ρ ob → ρ.gl = P.g → V.reps w ρ vs args → Calls P.p f args.toArray w (fun e w' => ∃ v u, K v ∧ e = .returned u ∧ v.rep w' ρ u ∧ Ext w w')

theorem PCall.mono {P : Prg} {f : Nat} {vs : List V} {ob : Objs} {K K' : V → Prop} (h : PCall P f vs ob K) (hk : ∀ v, K v → K' v) : PCall P f vs ob K' :=
  ⟨fun w ρ args ho hg hr => (h.run w ρ args ho hg hr).mono fun _ _ ⟨v, u, k, r⟩ => ⟨v, u, hk v k, r⟩⟩

theorem PCall.acall {P : Prg} {f : Nat} {vs : List V} {ob : Objs} {K : Out → Objs → Prop} (h : PCall P f vs ob fun v => K (.ret v) ob) : ACall P f vs ob K :=
  ⟨fun w ρ args ho hg hr => (h.run w ρ args ho hg hr).mono fun e w' ⟨v, u, k, he, r, x⟩ => by subst he; exact ⟨.ret v, ob, ρ, k, r, ho.ext x, x.tr⟩⟩

def callable (P : Program) (f : Nat) : Bool := match P.funcs[f]? with
  | some fn => fn.name != "runtime.NumGoroutine" && fn.body.isSome
  | none => false

def outK (K Pn : V → Objs → Prop) : Out → Objs → Prop
  | .ret v, ob => K v ob
  | .panic v, ob => Pn v ob

def boxK (E : Nat) (ob : Objs) (K : V → Objs → Prop) (v : V) : Prop := v.sto = true ∧ K (.ptr (fresh ob) []) ((fresh ob, .box E v) :: ob)
def stKt (ob : Objs) (id : Nat) (p : List Nat) (n E : Nat) (v t : V) (K : V → Objs → Prop) : Option V → Prop
  | some old => v.shape = old.shape ∧ old.size = n ∧ v.sto = true ∧ ∃ t', t.set p v = some t' ∧ K .undef (setO ob id (.box E t'))
  | none => False
def stKo (ob : Objs) (id : Nat) (p : List Nat) (n : Nat) (v : V) (K : V → Objs → Prop) : Option Ob → Prop
  | some (.box E t) => stKt ob id p n E v t K (t.at p)
  | _ => False
def stK (ob : Objs) (n : Nat) (v : V) (K : V → Objs → Prop) : V → Prop
  | .ptr id p => stKo ob id p n v K (lookO ob id)
  | _ => False
def dK (K : List D → Prop) : Option (List D) → Prop
  | some l => K l
  | none => False
def callvK (P : Prg) (args : List V) (ob : Objs) (K Pn : V → Objs → Prop) : V → Prop
  | .fn f fi ca => callable P.p f = true ∧ ACall P f (fi ++ args ++ ca) ob (outK K Pn)
  | .d (.fn f fi ca) => callable P.p f = true ∧ ACall P f (fi.map .d ++ args ++ ca.map .d) ob (outK K Pn)
  | _ => False
def panicK (ob : Objs) (Pn : V → Objs → Prop) : V → Prop
  | .iface t v => Pn (.iface t v) ob
  | .d (.iface t v) => Pn (.d (.iface t v)) ob
  | _ => False
/-- what is appended -/
def srcK (sz : Nat) (K : List D → Prop) : V → Prop
  | .d (.list z ys) => z = sz ∧ K ys
  | .d .nils => K []
  | _ => False
def appKo (id E sz B n : Nat) (ob : Objs) (ys : List D) (K : V → Objs → Prop) : Option Ob → Prop
  | some (.arr E' sz' xs) => E' = E ∧ sz' = sz ∧ n = xs.length ∧ (2 * (xs.length + ys.length) + 192) * B ≤ 281474976710656 ∧ K (.sl id (xs.length + ys.length)) (setO ob id (.arr E sz (xs ++ ys)))
  | _ => False
def appK (E sz B : Nat) (ob : Objs) (ys : List D) (K : V → Objs → Prop) : V → Prop
  | .sl id n => appKo id E sz B n ob ys K (lookO ob id)
  | .d .nils => (2 * ys.length + 192) * B ≤ 281474976710656 ∧ K (.sl (fresh ob) ys.length) ((fresh ob, .arr E sz ys) :: ob)
  | _ => False
def bytesD : List UInt8 → List D
  | [] => []
  | b :: r => .int .u8 b.toNat :: bytesD r
def b2sK (K : V → Prop) : V → Prop
  | .d (.list sz xs) => sz = 1 ∧ ∃ s, xs = bytesD s ∧ K (.d (.str s))
  | .d .nils => K (.d (.str []))
  | _ => False

inductive I where
  | c (x : C)
  | box (E : Nat) (x : A)
  | alloc (E : Nat) (z : D)
  | bls (sz : Nat) (z : List D) (parts : List (Nat × A))
  | blo (E sz : Nat) (z : List D) (parts : List (Nat × A))
  | st (n : Nat) (x v : A)
  | app (E sz B : Nat) (x y : A)
  | appS (E B : Nat) (x y : A)
  | call (f : Nat) (args : List A)
  | pcall (f : Nat) (args : List A)
  | callv (x : A) (args : List A)
  | panic (x : A)
  | b2s (x : A)
  | s2b (x : A)
  | nilo (E sz : Nat) (x : A)
  /-- move, and give up what it names -/
  | mvf (x : A)
  /-- load, and give up what it names -/
  | ldf (n : Nat) (ag : Bool) (x : A)
  /-- move 'y'; and where x's object holds a nil slice, let a growing one begin -/
  | mvg (E sz : Nat) (y x : A) (p : List Nat)
  /-- bytes converted to bytes: a literal is given up -/
  | cvb (x : A)
  /-- a string over cells -/
  | ustr (E : Nat) (x y : A)

def niloK (E sz : Nat) (ob : Objs) (K : V → Objs → Prop) : V → Prop
  | .d .nils => K (.sl (fresh ob) 0) ((fresh ob, .arr E sz []) :: ob)
  | _ => False
def givK (K : V → Objs → Prop) : Option (D × Objs) → Prop
  | some (d, ob) => K (.d d) ob
  | none => False
def ldfKo (n : Nat) (ag : Bool) (ob : Objs) (K : V → Objs → Prop) : Option V → Prop
  | some v => v.size = n ∧ v.isAgg = ag ∧ givK K (V.giv ob v)
  | none => False
def ldfK (n : Nat) (ag : Bool) (ob : Objs) (K : V → Objs → Prop) : V → Prop
  | .ptr id p => ldfKo n ag ob K (atO ob id p)
  | _ => False
def mvgKs (ob : Objs) (id E0 E sz : Nat) (y : V) (K : V → Objs → Prop) : Option V → Prop
  | some t => K y ((fresh ob, .arr E sz []) :: setO ob id (.box E0 t))
  | none => False
def mvgKt (ob : Objs) (id : Nat) (p : List Nat) (E sz : Nat) (y : V) (K : V → Objs → Prop) : Option Ob → Prop
  | some (.box E0 t) => t.at p = some (.d .nils) ∧ mvgKs ob id E0 E sz y K (t.set p (.sl (fresh ob) 0))
  | _ => False
def mvgK (ob : Objs) (E sz : Nat) (p : List Nat) (y : V) (K : V → Objs → Prop) : V → Prop
  | .ptr id q => mvgKt ob id (q ++ p) E sz y K (lookO ob id)
  | _ => False
def cvbKo (id n : Nat) (ob : Objs) (K : V → Objs → Prop) : Option Ob → Prop
  | some (.arr _ sz xs) => sz ≠ 0 ∧ n = xs.length ∧ xs ≠ [] ∧ K (.d (.list sz xs)) (setO ob id .gone)
  | _ => False
def cvbK (ob : Objs) (K : V → Objs → Prop) : V → Prop
  | .sl id n => cvbKo id n ob K (lookO ob id)
  | _ => False
def ustrKo (id n : Nat) (m : Int) (E : Nat) (ob : Objs) (K : V → Objs → Prop) : Option Ob → Prop
  | some (.arr E' sz xs) => E' = E ∧ sz = 1 ∧ n = xs.length ∧ m = n ∧ n ≤ 9223372036854775807 ∧ xs ≠ [] ∧ ∃ s, xs = bytesD s ∧ K (.d (.str s)) (setO ob id .gone)
  | _ => False
def ustrK (E : Nat) (ob : Objs) (K : V → Objs → Prop) : V → V → Prop
  | .sd id n, .d (.int .i64 m) => ustrKo id n m E ob K (lookO ob id)
  | .d .nilp, .d (.int .i64 m) => m = 0 ∧ K (.d (.str [])) ob
  | _, _ => False
def srcSK (K : List D → Prop) : V → Prop
  | .d (.str s) => K (bytesD s)
  | _ => False
def s2bK (K : V → Prop) : V → Prop
  | .d (.str s) => K (.d (.list 1 (bytesD s)))
  | _ => False

def I.wp (P : Prg) (sl : Slots) (ob : Objs) (K Pn : V → Objs → Prop) : I → Prop
  | .c x => x.wp sl ob (fun v => K v ob)
  | .box E x => boxK E ob K (x.ev sl)
  | .alloc E z => boxK E ob K (.d z)
  | .bls sz z parts => bldK (z.map .d) (parts.map fun (i, x) => (i, x.ev sl)) fun ks => dK (fun l => K (.d (.list sz l)) ob) (V.allD ks)
  | .blo E sz z parts => bldK (z.map .d) (parts.map fun (i, x) => (i, x.ev sl)) fun ks => dK (fun l => K (.sl (fresh ob) l.length) ((fresh ob, .arr E sz l) :: ob)) (V.allD ks)
  | .st n x v => stK ob n (v.ev sl) K (x.ev sl)
  | .app E sz B x y => srcK sz (fun ys => appK E sz B ob ys K (x.ev sl)) (y.ev sl)
  | .appS E B x y => srcSK (fun ys => appK E 1 B ob ys K (x.ev sl)) (y.ev sl)
  | .call f args => ACall P f (args.map (A.ev sl)) ob (outK K Pn)
  | .pcall f args => PCall P f (args.map (A.ev sl)) ob fun v => K v ob
  | .callv x args => callvK P (args.map (A.ev sl)) ob K Pn (x.ev sl)
  | .panic x => panicK ob Pn (x.ev sl)
  | .b2s x => b2sK (fun v => K v ob) (x.ev sl)
  | .s2b x => s2bK (fun v => K v ob) (x.ev sl)
  | .nilo E sz x => niloK E sz ob K (x.ev sl)
  | .mvf x => givK K (V.giv ob (x.ev sl))
  | .ldf n ag x => ldfK n ag ob K (x.ev sl)
  | .mvg E sz y x p => mvgK ob E sz p (y.ev sl) K (x.ev sl)
  | .cvb x => cvbK ob K (x.ev sl)
  | .ustr E x y => ustrK E ob K (x.ev sl) (y.ev sl)

/-- the cells of a slice literal before its parts are laid -/
def zeroRow (P : Program) (e : TypeId) (len size : Nat) : Option (List Value) :=
  if len * size = 0 then some [] else (zeroT P e).map fun z => ((Array.range (len * size)).map (z.toArray[· % z.toArray.size]!)).toList

def chkRow (P : Program) (op : Op) (E? : Option Nat) (sz : Nat) (z : List D) (parts : List (Nat × A)) : Bool := match op with
  | .buildSlice t len ps => chkParts ps.toList parts && (match P.underlying t with
    | some (.slice e) => (match E? with | some E => e == E | none => true) && sizeT P e == some sz && z.length == len && decide (len * sz ≤ 2 ^ 24) && z.all (fun x => x.sz == sz) && (match zeroRow P e len sz with | some cs => D.isCs z cs | none => false)
    | _ => false)
  | _ => false

def I.chk (P : Program) (op : Op) : I → Bool
  | .c x => x.chk P op
  | .box E y => match op with
    | .box e x => e == E && A.chk x y
    | _ => false
  | .alloc E z => match op with
    | .alloc e => e == E && match zeroT P e with
      | some cs => D.isC z cs
      | none => false
    | _ => false
  | .bls sz z parts => chkRow P op none sz z parts
  | .blo E sz z parts => chkRow P op (some E) sz z parts
  | .st n x v => match op with
    | .store t y u => sizeT P t == some n && A.chk y x && A.chk u v
    | _ => false
  | .app E sz B x y => match op with
    | .call { callee := .builtin .append, args := args, argTypes := ts } => match args.toList, ts.toList with
      | [u, v], [t, t2] => (match P.underlying t with | some (.slice e) => e == E | _ => false) && (match P.info? E with | some i => i.size == sz && i.bytes == B && i.bytes != 0 && i.size != 0 && i.zero.isSome && (i.zero.map (·.cells.size)) == some sz | none => false) &&
        (P.underlying t2 matches some (.slice _)) && A.chk u x && A.chk v y
      | _, _ => false
    | _ => false
  | .appS E B x y => match op with
    | .call { callee := .builtin .append, args := args, argTypes := ts } => match args.toList, ts.toList with
      | [u, v], [t, t2] => (match P.underlying t with | some (.slice e) => e == E | _ => false) && (match P.info? E with | some i => i.size == 1 && i.bytes == B && i.bytes != 0 && i.zero.isSome && (i.zero.map (·.cells.size)) == some 1 | none => false) &&
        (P.underlying t2 matches some .string) && A.chk u x && A.chk v y
      | _, _ => false
    | _ => false
  | .call f args => match op with
    | .call { callee := .value (.func g), args := as, .. } => f == g && callable P f && chkAs as.toList args
    | _ => false
  | .pcall f args => match op with
    | .call { callee := .value (.func g), args := as, .. } => f == g && callable P f && chkAs as.toList args
    | _ => false
  | .callv y args => match op with
    | .call { callee := .value x, args := as, .. } => A.chk x y && chkAs as.toList args
    | _ => false
  | .panic y => match op with
    | .panic x => A.chk x y
    | _ => false
  | .b2s y => match op with
    | .convert s t x => (match P.underlying s with | some (.slice e) => (P.underlying e matches some (.int .u8)) && sizeT P e == some 1 | _ => false) && (P.underlying t matches some .string) && A.chk x y
    | _ => false
  | .s2b y => match op with
    | .convert s t x => (P.underlying s matches some .string) && (match P.underlying t with | some (.slice e) => (P.underlying e matches some (.int .u8)) | _ => false) && A.chk x y
    | _ => false
  | .nilo _ _ y => match op with
    | .move x | .assign x => A.chk x y
    | _ => false
  | .mvf y => match op with
    | .move x | .assign x => A.chk x y
    | _ => false
  | .ldf n ag y => match op with
    | .load t x => sizeT P t == some n && (P.underlying t).isSome && agT P t == ag && A.chk x y
    | _ => false
  | .mvg _ _ y _ _ => match op with
    | .move x | .assign x => A.chk x y
    | _ => false
  | .cvb y => match op with
    | .convert s t x => s == t && (match P.underlying s with | some (.slice e) => (P.underlying e matches some (.int .u8)) | _ => false) && A.chk x y
    | _ => false
  | .ustr E y z => match op with
    | .call { callee := .builtin .unsafeString, args := args, argTypes := ts } => match args.toList, ts.toList with
      | [x, n], [t, _] => (match P.underlying t with | some (.pointer e) => e == E && P.cellsOf e == 1 | _ => false) && A.chk x y && A.chk n z
      | _, _ => false
    | _ => false
end Go.Ab
