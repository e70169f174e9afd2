/- Texts of this claim joined by a program, part 2 of 9; the last is: Regions that draw their order: which operations may be taken first. Over any program; no condition. -/
import Derived.Test.YtanpgmgkmfckaaaGreatDoorN1
import Derived.OrdersHeld
set_option linter.unusedSimpArgs false
set_option linter.unusedVariables false
set_option linter.unusedSectionVars false
set_option linter.defProp false
/- Operations that make or write memory, on abstract values: their text, and that they do it. Over any program; no condition. -/
namespace Go.Ab
open Go

def fresh : Objs → Nat
 | [] => 0
 | (j, _) :: r => if fresh r ≤ j then j + 1 else fresh r
theorem Yd : ∀ (ob : Objs) (j : Nat), fresh ob ≤ j → lookO ob j = none
 | [], _, _ => rfl
 | (i, o) :: r, j, h => by
  simp only [fresh] at h
  simp only [lookO]
  split at h
  ·rw [if_neg (by omega)]; exact Yd r j (by omega)
  ·rw [if_neg (by omega)]; exact Yd r j h
theorem Yq (ob : Objs) : lookO ob (fresh ob) = none := Yd ob _ (Nat.le_refl _)

def X7h (ob : Objs) (id n : Nat) : Option Ob → Option (D × Objs)
 | some (.arr _ sz xs) => if sz ≠ 0 ∧ n = xs.length then some (.list sz xs, setO ob id .gone) else none
 | _ => none
def X6o : Option (List D × Objs) → Option (D × Objs)
 | some (l, ob) => some (.agg l, ob)
 | none => none
def Yf4 (t : Nat) : Option (D × Objs) → Option (D × Objs)
 | some (x, ob) => some (.iface t x, ob)
 | none => none
def Xfn (x : D) : Option (List D × Objs) → Option (List D × Objs)
 | some (l, ob) => some (x :: l, ob)
 | none => none
mutual
def V.giv (ob : Objs) : V → Option (D × Objs)
 | .d x => some (x, ob)
 | .sl id n => X7h ob id n (lookO ob id)
 | .agg xs => X6o (V.givs ob xs)
 | .iface t x => Yf4 t (V.giv ob x)
 | _ => none
def V.givs (ob : Objs) : List V → Option (List D × Objs)
 | [] => some ([], ob)
 | x :: r => match V.giv ob x with
  | some (y, ob1) => Xfn y (V.givs ob1 r)
  | none => none
end

section
variable {w : World}
mutual
theorem V.giv_sound : ∀ (v : V) (ob : Objs) (ρ : Env) (cs : List Value) (d : D) (ob' : Objs), OM w ρ ob → v.repC w ρ cs → V.giv ob v = some (d, ob') →
  ∃ ρ', Tr w ρ w ρ' ∧ OM w ρ' ob' ∧ d.rep w (own ρ') cs ∧ d.isAgg = v.isAgg
 | .d x, ob, ρ, cs, dd, ob', hO, h, e => by
  simp only [V.giv, Option.some.injEq, Prod.mk.injEq] at e
  obtain ⟨rfl, rfl⟩ := e
  exact ⟨ρ, Tr.refl _ _, hO, by simpa only [V.repC] using h, by cases x <;> rfl⟩
 | .sl id n, ob, ρ, cs, dd, ob', hO, h, e => by
  simp only [V.giv] at e
  unfold X7h at e
  split at e
  ·rename_i E sz xs hl
   split at e
   ·rename_i hc
    simp only [Option.some.injEq, Prod.mk.injEq] at e
    obtain ⟨rfl, rfl⟩ := e
    obtain ⟨hsz, rfl⟩ := hc
    obtain ⟨t1, o1, _⟩ := Xjj hO ⟨_, hl⟩
    have h0 := h
    simp only [V.repC] at h0
    obtain ⟨o, u, h1, rfl, h2⟩ := h0
    have := Xew hO hl hsz (u := u) (by rw [Vh]; exact ⟨o, h1, h2⟩)
    refine ⟨_, t1, o1, ?_, rfl⟩
    rw [Vr (by simp [V.isAgg]) (by simp)] at this
    simpa only [V.repC] using this
   ·cases e
  ·cases e
 | .agg xs, ob, ρ, cs, dd, ob', hO, h, e => by
  simp only [V.giv] at e
  cases hg : V.givs ob xs with
  | none => simp [hg, X6o] at e
  | some r =>
   obtain ⟨l, ob1⟩ := r
   simp only [hg, X6o, Option.some.injEq, Prod.mk.injEq] at e
   obtain ⟨rfl, rfl⟩ := e
   simp only [V.repC] at h
   obtain ⟨ρ', t, o, hr⟩ := V.givs_sound xs ob ρ cs l ob1 hO h hg
   exact ⟨ρ', t, o, by simpa only [D.rep] using hr, rfl⟩
 | .iface t x, ob, ρ, cs, dd, ob', hO, h, e => by
  simp only [V.giv] at e
  cases hg : V.giv ob x with
  | none => simp [hg, Yf4] at e
  | some r =>
   obtain ⟨y, ob1⟩ := r
   simp only [hg, Yf4, Option.some.injEq, Prod.mk.injEq] at e
   obtain ⟨rfl, rfl⟩ := e
   simp only [V.repC] at h
   obtain ⟨u, e1, h1⟩ := h
   rcases h1 with h1 | ⟨p, ds, q, r⟩ | ⟨p, r⟩
   ·subst h1; simp [V.giv] at hg
   ·obtain ⟨ρ', t1, o, hr, ha⟩ := V.giv_sound x ob ρ ds y ob1 hO r hg
    exact ⟨ρ', t1, o, by simp only [D.rep]; exact ⟨u, e1, .inl ⟨by rw [ha]; exact p, ds, q, hr⟩⟩, rfl⟩
   ·obtain ⟨ρ', t1, o, hr, ha⟩ := V.giv_sound x ob ρ [u] y ob1 hO r hg
    exact ⟨ρ', t1, o, by simp only [D.rep]; exact ⟨u, e1, .inr ⟨by rw [ha]; exact p, hr⟩⟩, rfl⟩
 | .ptr _ _, _, _, _, _, _, _, _, e | .sd _ _, _, _, _, _, _, _, _, e | .mp _, _, _, _, _, _, _, _, e | .ep _ _ _ _ _, _, _, _, _, _, _, _, e | .fn _ _ _, _, _, _, _, _, _, _, e | .tup _, _, _, _, _, _, _, _, e | .undef, _, _, _, _, _, _, _, e | .any, _, _, _, _, _, _, _, e => by simp [V.giv] at e
theorem V.givs_sound : ∀ (vs : List V) (ob : Objs) (ρ : Env) (cs : List Value) (l : List D) (ob' : Objs), OM w ρ ob → V.repCs w ρ vs cs → V.givs ob vs = some (l, ob') →
  ∃ ρ', Tr w ρ w ρ' ∧ OM w ρ' ob' ∧ D.repL w (own ρ') l cs
 | [], ob, ρ, cs, l, ob', hO, h, e => by
  simp only [V.givs, Option.some.injEq, Prod.mk.injEq] at e
  obtain ⟨rfl, rfl⟩ := e
  exact ⟨ρ, Tr.refl _ _, hO, by simpa only [V.repCs, D.repL] using h⟩
 | x :: r, ob, ρ, cs, l, ob', hO, h, e => by
  simp only [V.givs] at e
  simp only [V.repCs] at h
  obtain ⟨c1, c2, rfl, h1, h2⟩ := h
  split at e
  ·rename_i dd ob1 hg
   obtain ⟨ρ1, t1, o1, hr, _⟩ := V.giv_sound x ob ρ c1 dd ob1 hO h1 hg
   cases hg2 : V.givs ob1 r with
   | none => simp [hg2, Xfn] at e
   | some q =>
    obtain ⟨l2, ob2⟩ := q
    simp only [hg2, Xfn, Option.some.injEq, Prod.mk.injEq] at e
    obtain ⟨rfl, rfl⟩ := e
    obtain ⟨ρ2, t2, o2, hr2⟩ := V.givs_sound r ob1 ρ1 c2 l2 ob2 o1 (V.repCs_tr t1 _ _ h2) hg2
    exact ⟨ρ2, t1.trans t2, o2, by simp only [D.repL]; exact ⟨c1, c2, rfl, D.rep_mono t2.mono _ _ hr, hr2⟩⟩
  ·cases e
end
theorem Xb1 {ρ : Env} {ob ob' : Objs} {v : V} {d : D} {u : Value} (hO : OM w ρ ob) (h : v.rep w ρ u) (e : V.giv ob v = some (d, ob')) : ∃ ρ', Tr w ρ w ρ' ∧ OM w ρ' ob' ∧ (V.d d).rep w ρ' u := by
 rcases h with h | ⟨p, ds, q, r⟩ | ⟨p, r⟩
 ·subst h; simp [V.giv] at e
 ·obtain ⟨ρ', t1, o, hr, ha⟩ := V.giv_sound v ob ρ ds d ob' hO r e
  exact ⟨ρ', t1, o, Xde.2 (.inl ⟨by rw [ha]; exact p, ds, q, hr⟩)⟩
 ·obtain ⟨ρ', t1, o, hr, ha⟩ := V.giv_sound v ob ρ [u] d ob' hO r e
  exact ⟨ρ', t1, o, Xde.2 (.inr ⟨by rw [ha]; exact p, hr⟩)⟩
end

inductive Out where
 | ret (v : V)
 | panic (v : V)

def Xu3 (w : World) (ρ : Env) : Ending → Out → Prop
 | .returned u, .ret v => v.rep w ρ u
 | .panicked ch, .panic v => ∃ u, ch = [{ v := u, recovered := false }] ∧ v.rep w ρ u
 | _, _ => False

structure Prg where
 p : Program
 g : Nat → Option Obj

structure ACall (P : Prg) (f : Nat) (vs : List V) (ob : Objs) (K : Out → Objs → Prop) : Prop where
 run : ∀ w ρ args, OM w ρ ob → ρ.gl = P.g → V.reps w ρ vs args → Calls P.p f args.toArray w (fun e w' => ∃ out ob' ρ', K out ob' ∧ Xu3 w' ρ' e out ∧ OM w' ρ' ob' ∧ Tr w ρ w' ρ')

theorem ACall.mono {P : Prg} {f : Nat} {vs : List V} {ob : Objs} {K K' : Out → Objs → Prop} (h : ACall P f vs ob K) (hk : ∀ o b, K o b → K' o b) : ACall P f vs ob K' :=
 ⟨fun w ρ args ho hg hr => (h.run w ρ args ho hg hr).mono fun _ _ ⟨out, ob', ρ', k, r⟩ => ⟨out, ob', ρ', hk _ _ k, r⟩⟩

structure PCall (P : Prg) (f : Nat) (vs : List V) (ob : Objs) (K : V → Prop) : Prop where
 run : ∀ w ρ args, OM w ρ ob → ρ.gl = P.g → V.reps w ρ vs args → Calls P.p f args.toArray w (fun e w' => ∃ v u, K v ∧ e = .returned u ∧ v.rep w' ρ u ∧ Ext w w')

theorem PCall.mono {P : Prg} {f : Nat} {vs : List V} {ob : Objs} {K K' : V → Prop} (h : PCall P f vs ob K) (hk : ∀ v, K v → K' v) : PCall P f vs ob K' :=
 ⟨fun w ρ args ho hg hr => (h.run w ρ args ho hg hr).mono fun _ _ ⟨v, u, k, r⟩ => ⟨v, u, hk v k, r⟩⟩

theorem PCall.acall {P : Prg} {f : Nat} {vs : List V} {ob : Objs} {K : Out → Objs → Prop} (h : PCall P f vs ob fun v => K (.ret v) ob) : ACall P f vs ob K :=
 ⟨fun w ρ args ho hg hr => (h.run w ρ args ho hg hr).mono fun e w' ⟨v, u, k, he, r, x⟩ => by subst he; exact ⟨.ret v, ob, ρ, k, r, ho.ext x, x.tr⟩⟩

def Xh (P : Program) (f : Nat) : Bool := match P.funcs[f]? with
 | some fn => fn.name != "runtime.NumGoroutine" && fn.body.isSome
 | none => false

def Xk2 (K Pn : V → Objs → Prop) : Out → Objs → Prop
 | .ret v, ob => K v ob
 | .panic v, ob => Pn v ob

def Xqb (E : Nat) (ob : Objs) (K : V → Objs → Prop) (v : V) : Prop := v.sto = true ∧ K (.ptr (fresh ob) []) ((fresh ob, .box E v) :: ob)
def Xw2 (ob : Objs) (id : Nat) (p : List Nat) (n E : Nat) (v t : V) (K : V → Objs → Prop) : Option V → Prop
 | some old => v.shape = old.shape ∧ old.size = n ∧ v.sto = true ∧ ∃ t', t.set p v = some t' ∧ K .undef (setO ob id (.box E t'))
 | none => False
def Xwz (ob : Objs) (id : Nat) (p : List Nat) (n : Nat) (v : V) (K : V → Objs → Prop) : Option Ob → Prop
 | some (.box E t) => Xw2 ob id p n E v t K (t.at p)
 | _ => False
def stK (ob : Objs) (n : Nat) (v : V) (K : V → Objs → Prop) : V → Prop
 | .ptr id p => Xwz ob id p n v K (lookO ob id)
 | _ => False
def dK (K : List D → Prop) : Option (List D) → Prop
 | some l => K l
 | none => False
def Uv (P : Prg) (args : List V) (ob : Objs) (K Pn : V → Objs → Prop) : V → Prop
 | .fn f fi ca => Xh P.p f = true ∧ ACall P f (fi ++ args ++ ca) ob (Xk2 K Pn)
 | .d (.fn f fi ca) => Xh P.p f = true ∧ ACall P f (fi.map .d ++ args ++ ca.map .d) ob (Xk2 K Pn)
 | _ => False
def Jn (ob : Objs) (Pn : V → Objs → Prop) : V → Prop
 | .iface t v => Pn (.iface t v) ob
 | .d (.iface t v) => Pn (.d (.iface t v)) ob
 | _ => False
def Xwy (sz : Nat) (K : List D → Prop) : V → Prop
 | .d (.list z ys) => z = sz ∧ K ys
 | .d .nils => K []
 | _ => False
def Xdj (id E sz B n : Nat) (ob : Objs) (ys : List D) (K : V → Objs → Prop) : Option Ob → Prop
 | some (.arr E' sz' xs) => E' = E ∧ sz' = sz ∧ n = xs.length ∧ (2 * (xs.length + ys.length) + 192) * B ≤ 281474976710656 ∧ K (.sl id (xs.length + ys.length)) (setO ob id (.arr E sz (xs ++ ys)))
 | _ => False
def Xdf (E sz B : Nat) (ob : Objs) (ys : List D) (K : V → Objs → Prop) : V → Prop
 | .sl id n => Xdj id E sz B n ob ys K (lookO ob id)
 | .d .nils => (2 * ys.length + 192) * B ≤ 281474976710656 ∧ K (.sl (fresh ob) ys.length) ((fresh ob, .arr E sz ys) :: ob)
 | _ => False
def bytesD : List UInt8 → List D
 | [] => []
 | b :: r => .int .u8 b.toNat :: bytesD r
def X6m (K : V → Prop) : V → Prop
 | .d (.list sz xs) => sz = 1 ∧ ∃ s, xs = bytesD s ∧ K (.d (.str s))
 | .d .nils => K (.d (.str []))
 | _ => False

inductive I where
 | c (x : C)
 | box (E : Nat) (x : A)
 | alloc (E : Nat) (z : D)
 | bls (sz : Nat) (z : List D) (parts : List (Nat × A))
 | blo (E sz : Nat) (z : List D) (parts : List (Nat × A))
 | st (n : Nat) (x v : A)
 | app (E sz B : Nat) (x y : A)
 | appS (E B : Nat) (x y : A)
 | call (f : Nat) (args : List A)
 | pcall (f : Nat) (args : List A)
 | callv (x : A) (args : List A)
 | panic (x : A)
 | b2s (x : A)
 | s2b (x : A)
 | nilo (E sz : Nat) (x : A)
  | mvf (x : A)
  | ldf (n : Nat) (ag : Bool) (x : A)
  | mvg (E sz : Nat) (y x : A) (p : List Nat)
  | mvn (y x : A) (l : List (Nat × Nat × List Nat))
  | cvb (x : A)
  | ustr (E : Nat) (x y : A)
  | mkm (r : Option A)
  | lkp (kd z : D) (ok : Bool) (m k : A)
  | mset (kd : D) (m k v : A)
  | gld (g n : Nat) (ag : Bool) (x : D)
  | slg (n z : Nat) (x : A)

def Xf8 (E sz : Nat) (ob : Objs) (K : V → Objs → Prop) : V → Prop
 | .d .nils => K (.sl (fresh ob) 0) ((fresh ob, .arr E sz []) :: ob)
 | _ => False
def Xid (K : V → Objs → Prop) : Option (D × Objs) → Prop
 | some (d, ob) => K (.d d) ob
 | none => False
def Xdg (n : Nat) (ag : Bool) (ob : Objs) (K : V → Objs → Prop) : Option V → Prop
 | some v => v.size = n ∧ v.isAgg = ag ∧ Xid K (V.giv ob v)
 | none => False
def Xs5 (n : Nat) (ag : Bool) (ob : Objs) (K : V → Objs → Prop) : V → Prop
 | .ptr id p => Xdg n ag ob K (atO ob id p)
 | _ => False
def Xh8 (ob : Objs) (id E0 E sz : Nat) (y : V) (K : V → Objs → Prop) : Option V → Prop
 | some t => K y ((fresh ob, .arr E sz []) :: setO ob id (.box E0 t))
 | none => False
def Xdi (ob : Objs) (id : Nat) (p : List Nat) (E sz : Nat) (y : V) (K : V → Objs → Prop) : Option Ob → Prop
 | some (.box E0 t) => (t.at p = some (.d .nils) ∧ Xh8 ob id E0 E sz y K (t.set p (.sl (fresh ob) 0))) ∨ ((∃ i n, t.at p = some (.sl i n)) ∧ K y ob)
 | _ => False
def Xg4 (ob : Objs) (E sz : Nat) (p : List Nat) (y : V) (K : V → Objs → Prop) : V → Prop
 | .ptr id q => Xdi ob id (q ++ p) E sz y K (lookO ob id)
 | _ => False
def Xpq (y : V) (K : V → Objs → Prop) (x : V) : List (Nat × Nat × List Nat) → Objs → Prop
 | [], ob => K y ob
 | e :: l, ob => Xg4 ob e.1 e.2.1 e.2.2 y (fun _ ob' => Xpq y K x l ob') x
def Xe8 (id n : Nat) (ob : Objs) (K : V → Objs → Prop) : Option Ob → Prop
 | some (.arr _ sz xs) => sz ≠ 0 ∧ n = xs.length ∧ xs ≠ [] ∧ K (.d (.list sz xs)) (setO ob id .gone)
 | _ => False
def Xus (ob : Objs) (K : V → Objs → Prop) : V → Prop
 | .sl id n => Xe8 id n ob K (lookO ob id)
 | _ => False
def Js (id n : Nat) (m : Int) (E : Nat) (ob : Objs) (K : V → Objs → Prop) : Option Ob → Prop
 | some (.arr E' sz xs) => E' = E ∧ sz = 1 ∧ n = xs.length ∧ m = n ∧ n ≤ 9223372036854775807 ∧ xs ≠ [] ∧ ∃ s, xs = bytesD s ∧ K (.d (.str s)) (setO ob id .gone)
 | _ => False
def J8 (E : Nat) (ob : Objs) (K : V → Objs → Prop) : V → V → Prop
 | .sd id n, .d (.int .i64 m) => Js id n m E ob K (lookO ob id)
 | .d .nilp, .d (.int .i64 m) => m = 0 ∧ K (.d (.str [])) ob
 | _, _ => False
def Xf2 (K : List D → Prop) : V → Prop
 | .d (.str s) => K (bytesD s)
 | _ => False
def X6s (K : V → Prop) : V → Prop
 | .d (.str s) => K (.d (.list 1 (bytesD s)))
 | _ => False

def D.alike : D → D → Bool
 | .int k _, .int k' _ => decide (k = k')
 | .bool _, .bool _ => true
 | .str _, .str _ => true
 | _, _ => false
def D.sameKey : D → D → Bool
 | .int _ a, .int _ b => a == b
 | .bool a, .bool b => a == b
 | .str a, .str b => a == b
 | _, _ => false
def Xbn (k : D) : List (D × V) → Option V
 | [] => none
 | (j, v) :: r => if D.sameKey k j then some v else Xbn k r
def Xqe (k : D) (x : V) : List (D × V) → List (D × V)
 | [] => [(k, x)]
 | (j, v) :: r => if D.sameKey k j then (k, x) :: r else (j, v) :: Xqe k x r
def Qe (kd k : D) (es : List (D × V)) : Prop := D.alike kd k = true ∧ ∀ e ∈ es, D.alike k e.1 = true
def Xyc (z : D) : Bool → Option V → V
 | true, some v => .tup [v, .d (.bool true)]
 | true, none => .tup [.d z, .d (.bool false)]
 | false, some v => v
 | false, none => .d z
def Xer (kd z : D) (ok : Bool) (k : D) (K : V → Prop) : Option Ob → Prop
 | some (.map es) => Qe kd k es ∧ K (Xyc z ok (Xbn k es))
 | _ => False
def Xwr (ob : Objs) (kd z : D) (ok : Bool) (K : V → Prop) : V → V → Prop
 | .mp id, .d k => Xer kd z ok k K (lookO ob id)
 | .d .nilm, .d k => D.alike kd k = true ∧ K (Xyc z ok none)
 | _, _ => False
def Jf (ob : Objs) (id : Nat) (kd k : D) (v : V) (K : V → Objs → Prop) : Option Ob → Prop
 | some (.map es) => Qe kd k es ∧ v.sto = true ∧ K .undef (setO ob id (.map (Xqe k v es)))
 | _ => False
def Xcw (ob : Objs) (kd : D) (v : V) (K : V → Objs → Prop) : V → V → Prop
 | .mp id, .d k => Jf ob id kd k v K (lookO ob id)
 | _, _ => False
def X0r : V → Prop
 | .d (.int _ _) => True
 | _ => False
def X0z (sl : Xc) : Option A → Prop
 | none => True
 | some x => X0r (x.ev sl)
def Xot (n z : Nat) (K : D → Prop) : Option V → Prop
 | some (.d (.agg xs)) => xs.length = n ∧ (∀ x ∈ xs, x.sz = z) ∧ K (.list z xs)
 | _ => False
def X1d (ob : Objs) (n z : Nat) (K : V → Objs → Prop) : V → Prop
 | .ptr id p => Xot n z (fun x => K (.d x) (setO ob id .gone)) (atO ob id p)
 | _ => False
def GlobIs (P : Prg) (g : Nat) (x : D) : Prop := ∃ cs T f, P.g g = some (.cells (List.toArray cs) T f) ∧ D.isC x cs = true

def I.wp (P : Prg) (sl : Xc) (ob : Objs) (K Pn : V → Objs → Prop) : I → Prop
 | .c x => x.wp sl ob (fun v => K v ob)
 | .box E x => Xqb E ob K (x.ev sl)
 | .alloc E z => Xqb E ob K (.d z)
 | .bls sz z parts => Xaq (z.map .d) (parts.map fun (i, x) => (i, x.ev sl)) fun ks => dK (fun l => K (.d (.list sz l)) ob) (V.allD ks)
 | .blo E sz z parts => Xaq (z.map .d) (parts.map fun (i, x) => (i, x.ev sl)) fun ks => dK (fun l => K (.sl (fresh ob) l.length) ((fresh ob, .arr E sz l) :: ob)) (V.allD ks)
 | .st n x v => stK ob n (v.ev sl) K (x.ev sl)
 | .app E sz B x y => Xwy sz (fun ys => Xdf E sz B ob ys K (x.ev sl)) (y.ev sl)
 | .appS E B x y => Xf2 (fun ys => Xdf E 1 B ob ys K (x.ev sl)) (y.ev sl)
 | .call f args => ACall P f (args.map (A.ev sl)) ob (Xk2 K Pn)
 | .pcall f args => PCall P f (args.map (A.ev sl)) ob fun v => K v ob
 | .callv x args => Uv P (args.map (A.ev sl)) ob K Pn (x.ev sl)
 | .panic x => Jn ob Pn (x.ev sl)
 | .b2s x => X6m (fun v => K v ob) (x.ev sl)
 | .s2b x => X6s (fun v => K v ob) (x.ev sl)
 | .nilo E sz x => Xf8 E sz ob K (x.ev sl)
 | .mvf x => Xid K (V.giv ob (x.ev sl))
 | .ldf n ag x => Xs5 n ag ob K (x.ev sl)
 | .mvg E sz y x p => Xg4 ob E sz p (y.ev sl) K (x.ev sl)
 | .mvn y x l => Xpq (y.ev sl) K (x.ev sl) l ob
 | .cvb x => Xus ob K (x.ev sl)
 | .ustr E x y => J8 E ob K (x.ev sl) (y.ev sl)
 | .mkm r => X0z sl r ∧ K (.mp (fresh ob)) ((fresh ob, .map []) :: ob)
 | .lkp kd z ok m k => Xwr ob kd z ok (fun v => K v ob) (m.ev sl) (k.ev sl)
 | .mset kd m k v => Xcw ob kd (v.ev sl) K (m.ev sl) (k.ev sl)
 | .gld g n ag x => GlobIs P g x ∧ x.sz = n ∧ (V.d x).isAgg = ag ∧ K (.d x) ob
 | .slg n z x => X1d ob n z K (x.ev sl)

def Xcx (P : Program) (e : TypeId) (len size : Nat) : Option (List Value) :=
 if len * size = 0 then some [] else (Jv P e).map fun z => ((Array.range (len * size)).map (z.toArray[· % z.toArray.size]!)).toList

def Xnl (P : Program) (op : Op) (E? : Option Nat) (sz : Nat) (z : List D) (parts : List (Nat × A)) : Bool := match op with
 | .buildSlice t len ps => Wh ps.toList parts && (match P.underlying t with
  | some (.slice e) => (match E? with | some E => e == E | none => true) && X8 P e == some sz && z.length == len && decide (len * sz ≤ 2 ^ 24) && z.all (fun x => x.sz == sz) && (match Xcx P e len sz with | some cs => D.isCs z cs | none => false)
  | _ => false)
 | _ => false

def V6 : TypeDesc → D → Bool
 | .int _, .int _ _ => true
 | .string, .str _ => true
 | .bool, .bool _ => true
 | _, _ => false
def Um (P : Program) (t : TypeId) (kd : D) : Bool := match P.underlying t with
 | some d => V6 d kd
 | none => false

def I.chk (P : Program) (op : Op) : I → Bool
 | .c x => x.chk P op
 | .box E y => match op with
  | .box e x => e == E && A.chk x y
  | _ => false
 | .alloc E z => match op with
  | .alloc e => e == E && match Jv P e with
   | some cs => D.isC z cs
   | none => false
  | _ => false
 | .bls sz z parts => Xnl P op none sz z parts
 | .blo E sz z parts => Xnl P op (some E) sz z parts
 | .st n x v => match op with
  | .store t y u => X8 P t == some n && A.chk y x && A.chk u v
  | _ => false
 | .app E sz B x y => match op with
  | .call { callee := .builtin .append, args := args, argTypes := ts } => match args.toList, ts.toList with
   | [u, v], [t, t2] => (match P.underlying t with | some (.slice e) => e == E | _ => false) && (match P.info? E with | some i => i.size == sz && i.bytes == B && i.bytes != 0 && i.size != 0 && i.zero.isSome && (i.zero.map (·.cells.size)) == some sz | none => false) &&
    (P.underlying t2 matches some (.slice _)) && A.chk u x && A.chk v y
   | _, _ => false
  | _ => false
 | .appS E B x y => match op with
  | .call { callee := .builtin .append, args := args, argTypes := ts } => match args.toList, ts.toList with
   | [u, v], [t, t2] => (match P.underlying t with | some (.slice e) => e == E | _ => false) && (match P.info? E with | some i => i.size == 1 && i.bytes == B && i.bytes != 0 && i.zero.isSome && (i.zero.map (·.cells.size)) == some 1 | none => false) &&
    (P.underlying t2 matches some .string) && A.chk u x && A.chk v y
   | _, _ => false
  | _ => false
 | .call f args => match op with
  | .call { callee := .value (.func g), args := as, .. } => f == g && Xh P f && Xdk as.toList args
  | _ => false
 | .pcall f args => match op with
  | .call { callee := .value (.func g), args := as, .. } => f == g && Xh P f && Xdk as.toList args
  | _ => false
 | .callv y args => match op with
  | .call { callee := .value x, args := as, .. } => A.chk x y && Xdk as.toList args
  | _ => false
 | .panic y => match op with
  | .panic x => A.chk x y
  | _ => false
 | .b2s y => match op with
  | .convert s t x => (match P.underlying s with | some (.slice e) => (P.underlying e matches some (.int .u8)) && X8 P e == some 1 | _ => false) && (P.underlying t matches some .string) && A.chk x y
  | _ => false
 | .s2b y => match op with
  | .convert s t x => (P.underlying s matches some .string) && (match P.underlying t with | some (.slice e) => (P.underlying e matches some (.int .u8)) | _ => false) && A.chk x y
  | _ => false
 | .nilo _ _ y => match op with
  | .move x | .assign x => A.chk x y
  | _ => false
 | .mvf y => match op with
  | .move x | .assign x => A.chk x y
  | _ => false
 | .ldf n ag y => match op with
  | .load t x => X8 P t == some n && (P.underlying t).isSome && agT P t == ag && A.chk x y
  | _ => false
 | .mvg _ _ y _ _ => match op with
  | .move x | .assign x => A.chk x y
  | _ => false
 | .mvn y _ _ => match op with
  | .move x | .assign x => A.chk x y
  | _ => false
 | .cvb y => match op with
  | .convert s t x => s == t && (match P.underlying s with | some (.slice e) => (P.underlying e matches some (.int .u8)) | _ => false) && A.chk x y
  | _ => false
 | .ustr E y z => match op with
  | .call { callee := .builtin .unsafeString, args := args, argTypes := ts } => match args.toList, ts.toList with
   | [x, n], [t, _] => (match P.underlying t with | some (.pointer e) => e == E && P.cellsOf e == 1 | _ => false) && A.chk x y && A.chk n z
   | _, _ => false
  | _ => false
 | .mkm r => match op with
  | .makeMap t h => (P.underlying t matches some (.map _ _)) && Xgu h r
  | _ => false
 | .lkp kd z ok m k => match op with
  | .lookup t x i o => o == ok && (match P.underlying t with
   | some (.map kt et) => Um P kt kd && (match Jv P et with | some cs => D.isC z cs && (((P.info? et).bind (·.zero)).map fun v => match v with | .agg _ => true | _ => false) == some (V.d z).isAgg | none => false)
   | _ => false) && A.chk x m && A.chk i k
  | _ => false
 | .mset kd m k v => match op with
  | .mapUpdate t x i y => (match P.underlying t with | some (.map kt _) => Um P kt kd | _ => false) && A.chk x m && A.chk i k && A.chk y v
  | .insert t x i y => (match P.underlying t with | some (.map kt _) => Um P kt kd | _ => false) && A.chk x m && A.chk i k && A.chk y v
  | _ => false
 | .gld g n ag _ => match op with
  | .load t (.global h) => h == g && X8 P t == some n && (P.underlying t).isSome && agT P t == ag
  | _ => false
 | .slg n z y => match op with
  | .slice t x none none none => (match P.underlying t with | some (.array m e) => m == n && X8 P e == some z | _ => false) && A.chk x y
  | _ => false
end Go.Ab
/- That the operations that make or write memory do what Ab9 says of them. Over any program; no condition. -/
namespace Go.Ab
open Go

def J4 (P : Program) (a : Act) (w : World) (ρ : Env) (op : Op) (K Pn : V → Objs → Prop) : Prop :=
 ∀ (o : Oper), o.op = op → ∀ (next : Act → World → Prop) (Q : Exit → Act → World → Prop),
  (∀ v x ob' w' ρ', K x ob' → x.rep w' ρ' v → OM w' ρ' ob' → Tr w ρ w' ρ' → next (a.put o.dst v) w') →
  (∀ u x ob' w' ρ', Pn x ob' → x.rep w' ρ' u → OM w' ρ' ob' → Tr w ρ w' ρ' → Q (.panic [{ v := u, recovered := false }]) a w') →
  o.wp P a w next Q

def X6t (P : Program) (a : Act) (w : World) (ρ : Env) (op : Op) (ob : Objs) (K : V → Objs → Prop) : Prop :=
 ∃ v x w', K x ob ∧ x.rep w' ρ v ∧ Ext w w' ∧ ∀ (o : Oper), o.op = op → (execOp a.eval o).run P w = .ok (.value v) w'

section
variable {P : Program} {a : Act} {w : World} {ρ : Env} {sl : Xc} {ob : Objs} {K Pn : V → Objs → Prop}

theorem Xr {op : Op} {v : Value} {x : V} {ob' : Objs} {w' : World} {ρ' : Env} (hr : ∀ o : Oper, o.op = op → (execOp a.eval o).run P w = .ok (.value v) w')
  (hK : K x ob') (h1 : x.rep w' ρ' v) (h2 : OM w' ρ' ob') (h3 : Tr w ρ w' ρ') : J4 P a w ρ op K Pn := by
 intro o ho next Q hn _
 unfold Oper.wp
 rw [hr o ho]
 exact hn v x ob' w' ρ' hK h1 h2 h3

theorem X6t.does {op : Op} (h : X6t P a w ρ op ob K) (hO : OM w ρ ob) : J4 P a w ρ op K Pn := by
 obtain ⟨v, x, w', hK, h1, h2, h3⟩ := h
 exact Xr h3 hK h1 (hO.ext h2) h2.tr

def Xvd (P : Program) (a : Act) (w : World) (ρ : Env) (op : Op) (ob : Objs) (K : V → Objs → Prop) : Prop :=
 ∀ (o : Oper), o.op = op → ∀ (next : Act → World → Prop) (Q : Exit → Act → World → Prop),
  (∀ v x w', K x ob → x.rep w' ρ v → Ext w w' → next (a.put o.dst v) w') → o.wp P a w next Q

theorem X6t.doesE {op : Op} (h : X6t P a w ρ op ob K) : Xvd P a w ρ op ob K := by
 obtain ⟨v, x, w', hK, h1, h2, h3⟩ := h
 intro o ho next Q hn
 unfold Oper.wp
 rw [h3 o ho]
 exact hn v x w' hK h1 h2

theorem Xvd.does {op : Op} (h : Xvd P a w ρ op ob K) (hO : OM w ρ ob) : J4 P a w ρ op K Pn := fun o ho next Q hn _ =>
 h o ho next Q fun v x w' hK h1 h2 => hn v x ob w' ρ hK h1 (hO.ext h2) h2.tr

def Xmz (P : Program) (a : Act) (w : World) (ρ : Env) (op : Op) (K : V → Objs → Prop) : Prop :=
 ∀ (o : Oper), o.op = op → ∀ (next : Act → World → Prop) (Q : Exit → Act → World → Prop),
  (∀ v x ob' w' ρ', K x ob' → x.rep w' ρ' v → OM w' ρ' ob' → Tr w ρ w' ρ' → Ext w w' → next (a.put o.dst v) w') → o.wp P a w next Q
theorem Xmz.does {op : Op} (h : Xmz P a w ρ op K) : J4 P a w ρ op K Pn := fun o ho next Q hn _ =>
 h o ho next Q fun v x ob' w' ρ' h0 h1 h2 h3 _ => hn v x ob' w' ρ' h0 h1 h2 h3
theorem Qn {op : Op} {v : Value} {x : V} {ob' : Objs} {w' : World} {ρ' : Env} (hr : ∀ o : Oper, o.op = op → (execOp a.eval o).run P w = .ok (.value v) w')
  (hK : K x ob') (h1 : x.rep w' ρ' v) (h2 : OM w' ρ' ob') (h3 : Tr w ρ w' ρ') (h4 : Ext w w') : Xmz P a w ρ op K := by
 intro o ho next Q hn
 unfold Oper.wp
 rw [hr o ho]
 exact hn v x ob' w' ρ' hK h1 h2 h3 h4

theorem Xcy {op : Op} {ob' : Objs} {w' : World} {ρ' : Env} (hr : ∀ o : Oper, o.op = op → (execOp a.eval o).run P w = .ok .skip w')
  (hK : K .undef ob') (h2 : OM w' ρ' ob') (h3 : Tr w ρ w' ρ') : J4 P a w ρ op K Pn := by
 intro o ho next Q hn _
 unfold Oper.wp
 rw [hr o ho]
 exact hn undef .undef ob' w' ρ' hK (Zh.2 rfl) h2 h3

theorem X91 (hs : SM w ρ sl a) (hO : OM w ρ ob) {op : Op} {x : C} (hc : x.chk P op = true) (h : x.wp sl ob (fun v => K v ob)) : J4 P a w ρ op K Pn := by
 obtain ⟨v, y, hK, h1, h2⟩ := C.sound hs hO hc h
 exact Xr (fun o ho => h2 o ho w (fun _ => Ext.refl w)) hK h1 hO (Tr.refl _ _)

theorem Xg1 (hs : SM w ρ sl a) (hO : OM w ρ ob) {op : Op} {E : Nat} {x : A} (hc : I.chk P op (.box E x) = true) (h : Xqb E ob K (x.ev sl)) : Xmz P a w ρ op K := by
 cases op <;> simp [I.chk] at hc
 rename_i E' y
 obtain ⟨rfl, hc⟩ := hc
 obtain ⟨h2, hK⟩ := h
 have h1 := Yq ob
 have r1 := A.sound hs hc
 have hre := Up (V.sto_any h2) r1
 obtain ⟨t1, o1, p1⟩ := Xs3 hO h1 hre E'
 refine Qn (fun o ho => ?_) hK p1 o1 t1 (Ud w _)
 simp only [execOp, ho, Instr.box, newVar, newRow, Sem.run_bind, run_newObj, Result.andThen_ok, Sem.run_pure, Array.toArray_toList]
 rfl

theorem Xdc (hO : OM w ρ ob) {op : Op} {E0 : Nat} {z : D} (hc : I.chk P op (.alloc E0 z) = true) (h : Xqb E0 ob K (.d z)) : Xmz P a w ρ op K := by
 cases op <;> simp only [I.chk, Bool.false_eq_true] at hc
 rename_i E
 simp only [Bool.and_eq_true, beq_iff_eq] at hc
 obtain ⟨rfl, hc⟩ := hc
 obtain ⟨h2, hK⟩ := h
 have h1 := Yq ob
 cases hz : Jv P E with
 | none => simp [hz] at hc
 | some cs =>
  simp only [hz] at hc
  obtain ⟨v, e1, _, hzr⟩ := Q5 hz
  have hre : (V.d z).repC w ρ cs := by simp only [V.repC]; exact D.isC_rep z cs hc
  obtain ⟨t1, o1, p1⟩ := Xs3 hO h1 hre E
  refine Qn (fun o ho => ?_) hK p1 o1 t1 (Ud w _)
  simp only [execOp, ho, Instr.alloc, newVar, newRow, Sem.run_bind, hzr, run_newObj, Result.andThen_ok, Sem.run_pure]
  rw [← e1, Array.toArray_toList]
  rfl

theorem X2c (hs : SM w ρ sl a) (hO : OM w ρ ob) {op : Op} {n : Nat} {x v : A} (hc : I.chk P op (.st n x v) = true) (h : stK ob n (v.ev sl) K (x.ev sl)) : J4 P a w ρ op K Pn := by
 cases op <;> simp [I.chk] at hc
 rename_i t y u
 obtain ⟨⟨hn, h1⟩, h2⟩ := hc
 have r1 := A.sound hs h1
 have r2 := A.sound hs h2
 unfold stK at h
 split at h
 ·rename_i id p e1
  rw [e1] at r1
  unfold Xwz at h
  split at h
  ·rename_i E t0 hl
   obtain ⟨b, sh, hρ, r1⟩ := rep_ptr_box hO hl r1
   cases hat : t0.at p with
   | none => simp [hat, Xw2] at h
   | some old =>
    simp only [hat, Xw2] at h
    obtain ⟨hsh, hsz, hst, t', hset, hK⟩ := h
    obtain ⟨b', cs, g1, g2, g3⟩ := hO.one id _ hl
    rw [hρ] at g1
    simp only [Option.some.injEq, RO.box.injEq] at g1
    obtain ⟨rfl, rfl⟩ := g1
    have hre := Up (V.sto_any hst) r2
    obtain ⟨t'', e2, e3, h4⟩ := V.repC_set p t0 old _ cs _ g3 hat hre hsh
    rw [hset] at e2
    simp only [Option.some.injEq] at e2
    subst e2
    obtain ⟨t1, o1⟩ := write_box hO hl hρ g2 e3 h4
    obtain ⟨c1, c2, c3, q1, q2, q3⟩ := V.repC_at p t0 old cs g3 hat
    have hlen := V.repC_len _ _ hre
    have hl2 := V.repC_len _ _ q3
    refine Xcy (fun o ho => ?_) hK o1 t1
    have hsize : (a.eval u).cells.size = n := by
     rw [← hsz]; unfold V.size; rw [← hsh, ← hlen]; simp
    have hrun := run_storeCells_at (P := P) b (t0.shape.off p) E (a.eval u).cells.toList 0 cs.toArray w g2 (by
     rw [hlen, hsh, ← hl2, ← q2, q1]; simp) (V.one _ _ hst hre)
    simp only [execOp, ho, Instr.storeAt, Instr.sureAddr, storeVar, r1, Sem.run_bind, Sem.run_pure, Result.andThen_ok, Xz hn, hsize, ne_eq, not_true, if_false]
    rw [hrun]
    simp
  ·exact h.elim
 ·exact h.elim

theorem Xoq (hs : SM w ρ sl a) (hO : OM w ρ ob) {op : Op} {x : A} (hc : I.chk P op (.panic x) = true) (h : Jn ob Pn (x.ev sl)) : J4 P a w ρ op K Pn := by
 cases op <;> simp [I.chk] at hc
 have r1 := A.sound hs hc
 unfold Jn at h
 split at h
 ·rename_i t v e1
  rw [e1] at r1
  have r2 := r1
  rw [Vr (by simp [V.isAgg]) (by simp)] at r2
  simp only [V.repC, List.cons.injEq, and_true] at r2
  obtain ⟨c, r2, _⟩ := r2
  intro o ho next Q _ hq
  unfold Oper.wp
  have : (execOp a.eval o).run P w = .halt (.panic (.iface t c)) w := by simp [execOp, ho, Instr.panic, r2]
  rw [this]
  rw [r2] at r1
  exact hq _ _ _ _ _ h r1 hO (Tr.refl _ _)
 ·rename_i t v e1
  rw [e1] at r1
  have r2 := r1
  rw [J1] at r2
  obtain ⟨c, r2, _⟩ := r2
  intro o ho next Q _ hq
  unfold Oper.wp
  have : (execOp a.eval o).run P w = .halt (.panic (.iface t c)) w := by simp [execOp, ho, Instr.panic, r2]
  rw [this]
  rw [r2] at r1
  exact hq _ _ _ _ _ h r1 hO (Tr.refl _ _)
 ·exact h.elim

theorem Zu {w : World} {ρ : Env} : ∀ {xs ys : List V} {us vs : List Value}, V.reps w ρ xs us → V.reps w ρ ys vs → V.reps w ρ (xs ++ ys) (us ++ vs)
 | [], ys, us, vs, h1, h2 => by simp only [V.reps] at h1; subst h1; simpa using h2
 | x :: r, ys, us, vs, h1, h2 => by
  simp only [V.reps] at h1
  obtain ⟨u, us', rfl, h3, h4⟩ := h1
  simp only [List.cons_append, V.reps]
  exact ⟨u, us' ++ vs, rfl, h3, Zu h4 h2⟩

theorem Xal {P : Prg} (hg : ρ.gl = P.g) {op : Op} {f : Nat} {vs : List V} {args : List Value} (hr : ∀ o : Oper, o.op = op → (execOp a.eval o).run P.p w = .ok (.enter f args.toArray) w)
  (h : ACall P f vs ob (Xk2 K Pn)) (hO : OM w ρ ob) (h1 : V.reps w ρ vs args) : J4 P.p a w ρ op K Pn := by
 intro o ho next Q hn hq
 unfold Oper.wp
 rw [hr o ho]
 simp only [Oper.upon]
 refine (h.run w ρ args hO hg h1).mono fun e w' ⟨out, ob', ρ', k, r, o1, t1⟩ => ?_
 cases e with
 | returned u =>
  cases out with
  | ret v => exact hn u v ob' w' ρ' k r o1 t1
  | panic v => exact r.elim
 | panicked ch =>
  cases out with
  | ret v => exact r.elim
  | panic v => obtain ⟨u, rfl, r⟩ := r; exact hq u v ob' w' ρ' k r o1 t1
 | outgrown => cases out <;> exact r.elim

theorem Z4 {f : Nat} (h : Xh P f = true) (args : Array Value) (w : World) : (callFunc f args).run P w = .ok (.enter f args) w := by
 unfold Xh at h
 split at h
 ·rename_i fn hf
  simp only [Bool.and_eq_true, bne_iff_ne, ne_eq] at h
  obtain ⟨b, hb⟩ := Option.isSome_iff_exists.1 h.2
  simp [callFunc, hf, h.1, hb]
 ·simp at h

theorem Xvu {P : Prg} (hg : ρ.gl = P.g) (hs : SM w ρ sl a) (hO : OM w ρ ob) {op : Op} {f : Nat} {args : List A} (hc : I.chk P.p op (.call f args) = true) (h : ACall P f (args.map (A.ev sl)) ob (Xk2 K Pn)) : J4 P.p a w ρ op K Pn := by
 cases op <;> simp only [I.chk, Bool.false_eq_true] at hc
 rename_i c
 obtain ⟨ca, as, ts⟩ := c
 cases ca <;> (try simp only [Bool.false_eq_true] at hc)
 rename_i g
 cases g <;> (try simp only [Bool.false_eq_true] at hc)
 simp only [Bool.and_eq_true, beq_iff_eq] at hc
 obtain ⟨⟨rfl, h1⟩, h2⟩ := hc
 refine Xal hg (args := as.toList.map a.eval) (fun o ho => ?_) h hO (Wn hs h2)
 have : a.eval (.func f) = .func (.func f) #[] #[] := rfl
 simp only [execOp, ho, resolve, this, Deferred.ofValue, Sem.run_bind, Sem.run_pure, Result.andThen_ok, invoke, Z4 h1, Z5]
 simp

theorem Xck {P : Prg} (hg : ρ.gl = P.g) (hs : SM w ρ sl a) (hO : OM w ρ ob) {op : Op} {f : Nat} {args : List A} (hc : I.chk P.p op (.pcall f args) = true) (h : PCall P f (args.map (A.ev sl)) ob fun v => K v ob) : Xvd P.p a w ρ op ob K := by
 cases op <;> simp only [I.chk, Bool.false_eq_true] at hc
 rename_i c
 obtain ⟨ca, as, ts⟩ := c
 cases ca <;> (try simp only [Bool.false_eq_true] at hc)
 rename_i g
 cases g <;> (try simp only [Bool.false_eq_true] at hc)
 simp only [Bool.and_eq_true, beq_iff_eq] at hc
 obtain ⟨⟨rfl, h1⟩, h2⟩ := hc
 intro o ho next Q hn
 have hrun : (execOp a.eval o).run P.p w = .ok (.enter f (as.toList.map a.eval).toArray) w := by
  have : a.eval (.func f) = .func (.func f) #[] #[] := rfl
  simp only [execOp, ho, resolve, this, Deferred.ofValue, Sem.run_bind, Sem.run_pure, Result.andThen_ok, invoke, Z4 h1, Z5]
  simp
 unfold Oper.wp
 rw [hrun]
 simp only [Oper.upon]
 refine (h.run w ρ _ hO hg (Wn hs h2)).mono fun e w' ⟨v, u, k, he, r, x⟩ => ?_
 subst he
 exact hn u v w' k r x

theorem Xow {P : Prg} (hg : ρ.gl = P.g) (hs : SM w ρ sl a) (hO : OM w ρ ob) {op : Op} {x : A} {args : List A} (hc : I.chk P.p op (.callv x args) = true) (h : Uv P (args.map (A.ev sl)) ob K Pn (x.ev sl)) : J4 P.p a w ρ op K Pn := by
 cases op <;> simp only [I.chk, Bool.false_eq_true] at hc
 rename_i c
 obtain ⟨ca, as, ts⟩ := c
 cases ca <;> (try simp only [Bool.false_eq_true] at hc)
 rename_i g
 simp only [Bool.and_eq_true] at hc
 obtain ⟨h1, h2⟩ := hc
 have r1 := A.sound hs h1
 unfold Uv at h
 split at h
 ·rename_i f fi ca e1
  rw [e1, Xco] at r1
  obtain ⟨fs, gs, r1, r2, r3⟩ := r1
  refine Xal hg (args := fs ++ as.toList.map a.eval ++ gs) (fun o ho => ?_) h.2 hO (Zu (Zu r2 (Wn hs h2)) r3)
  simp only [execOp, ho, resolve, r1, Deferred.ofValue, Sem.run_bind, Sem.run_pure, Result.andThen_ok, invoke, Z4 h.1, Z5]
  simp
 ·rename_i f fi ca e1
  rw [e1, Xft] at r1
  obtain ⟨fs, gs, r1, r2, r3⟩ := r1
  refine Xal hg (args := fs ++ as.toList.map a.eval ++ gs) (fun o ho => ?_) h.2 hO (Zu (Zu r2 (Wn hs h2)) r3)
  simp only [execOp, ho, resolve, r1, Deferred.ofValue, Sem.run_bind, Sem.run_pure, Result.andThen_ok, invoke, Z4 h.1, Z5]
  simp
 ·exact h.elim

theorem Xyf (hs : SM w ρ sl a) (hO : OM w ρ ob) {op : Op} {x : A} (hc : I.chk P op (.mvf x) = true) (h : Xid K (V.giv ob (x.ev sl))) : J4 P a w ρ op K Pn := by
 cases hg : V.giv ob (x.ev sl) with
 | none => simp [hg, Xid] at h
 | some q =>
  obtain ⟨d, ob'⟩ := q
  simp only [hg, Xid] at h
  cases op <;> simp [I.chk] at hc
  all_goals
   have r1 := A.sound hs hc
   obtain ⟨ρ', t1, o1, r2⟩ := Xb1 hO r1 hg
   exact Xr (fun o ho => by simp [execOp, ho]) h r2 o1 t1

theorem Xyb (hs : SM w ρ sl a) (hO : OM w ρ ob) {op : Op} {n : Nat} {ag : Bool} {x : A} (hc : I.chk P op (.ldf n ag x) = true) (h : Xs5 n ag ob K (x.ev sl)) : J4 P a w ρ op K Pn := by
 have hc' : C.chk P op (.ld n ag x) = true := hc
 unfold Xs5 at h
 split at h
 ·rename_i id p e1
  cases hat : atO ob id p with
  | none => simp [hat, Xdg] at h
  | some v =>
   simp only [hat, Xdg] at h
   obtain ⟨h1, h2, h⟩ := h
   cases hg : V.giv ob v with
   | none => simp [hg, Xid] at h
   | some q =>
    obtain ⟨d, ob'⟩ := q
    simp only [hg, Xid] at h
    obtain ⟨u, y, hy, hr, hrun⟩ := Xb0 (K := fun y => y = v) hs hO hc' (by rw [e1]; simp only [ldK, hat, Xws]; exact ⟨h1, h2, trivial⟩)
    subst hy
    obtain ⟨ρ', t1, o1, r2⟩ := Xb1 hO hr hg
    exact Xr (fun o ho => hrun o ho w (fun _ => Ext.refl w)) h r2 o1 t1
 ·exact h.elim

theorem Xom (hO : OM w ρ ob) {E sz : Nat} {y x : V} {p : List Nat} (h : Xg4 ob E sz p y K x) : ∃ ρ' ob', Tr w ρ w ρ' ∧ OM w ρ' ob' ∧ K y ob' := by
 unfold Xg4 at h
 split at h
 ·rename_i id q
  unfold Xdi at h
  split at h
  ·rename_i E0 t hl
   rcases h with ⟨hat, h⟩ | ⟨_, h⟩
   case inr => exact ⟨ρ, ob, Tr.refl w ρ, hO, h⟩
   obtain ⟨b, cs, g1, g2, g3⟩ := hO.one id _ hl
   have hne : id ≠ fresh ob := by intro e; subst e; rw [Yq] at hl; cases hl
   have hbl : ∀ b, RO.virt.blk? = some b → w.heap.size ≤ b := fun b hb => by simp [RO.blk?] at hb
   have t1 := Xcv w (Ext.refl w) (o := .virt) (hO.free (Yq ob)) hbl
   have o1 : OM w (ρ.ins (fresh ob) .virt) ((fresh ob, .arr E sz []) :: ob) := hO.ins (Ext.refl w) (Yq ob) hbl (.inl ⟨by simp [Env.ins], rfl⟩)
   have g3' := V.repC_tr t1 _ _ g3
   obtain ⟨c1, c2, c3, e2, e3, h4⟩ := V.repC_at (q ++ p) t (.d .nils) cs g3' hat
   simp only [V.repC, D.rep] at h4
   subst h4
   obtain ⟨t', e4, e5, h6⟩ := V.repC_set (q ++ p) t (.d .nils) (.sl (fresh ob) 0) cs [.slice none 0 0] g3' hat (by simp only [V.repC]; exact ⟨.virt, _, by simp [Env.ins], rfl, rfl, rfl⟩) (by simp [V.shape, D.shape])
   rw [e4] at h
   simp only [Xh8] at h
   have e7 : cs.take (t.shape.off (q ++ p)) ++ ([Value.slice none 0 0] ++ cs.drop (t.shape.off (q ++ p) + [Value.slice none 0 0].length)) = cs := by
    rw [← e3, e2]; simp
   rw [e7] at h6
   have hl1 : lookO ((fresh ob, Ob.arr E sz []) :: ob) id = some (.box E0 t) := by simp [lookO, hne.symm, hl]
   obtain ⟨t2, o2⟩ := write_box o1 (t' := t') hl1 (by simp [Env.ins, hne, g1]) g2 e5 h6
   have hw : w.setRow b cs.toArray = w := by
    have : w.heap[b]? = some (.cells cs.toArray E0 (0, 0)) := g2
    obtain ⟨hb, hb'⟩ := Array.getElem?_eq_some_iff.1 this
    unfold World.setRow
    have hh : (w.heap.modify b fun o => match o with | .cells _ e f => .cells cs.toArray e f | o => o) = w.heap := by
     apply Array.ext_getElem?
     intro j
     rw [Array.getElem?_modify]
     split
     ·rename_i e; subst e; rw [this]; simp
     ·rfl
    cases w
    simp only [World.mk.injEq, and_true, true_and]
    exact hh
   rw [hw] at t2 o2
   simp only [setO, hne.symm, if_false] at o2
   exact ⟨_, _, t1, o2, h⟩
  ·exact h.elim
 ·exact h.elim

theorem Xon {y x : V} : ∀ {l : List (Nat × Nat × List Nat)} {ρ ob}, OM w ρ ob → Xpq y K x l ob → ∃ ρ' ob', Tr w ρ w ρ' ∧ OM w ρ' ob' ∧ K y ob'
 | [], ρ, ob, hO, h => ⟨ρ, ob, Tr.refl w ρ, hO, h⟩
 | e :: l, ρ, ob, hO, h => by
  obtain ⟨ρ1, ob1, t1, o1, h1⟩ := Xom hO h
  obtain ⟨ρ2, ob2, t2, o2, h2⟩ := Xon o1 h1
  exact ⟨ρ2, ob2, t1.trans t2, o2, h2⟩

theorem Xy9 (hs : SM w ρ sl a) (hO : OM w ρ ob) {op : Op} {E sz : Nat} {y x : A} {p : List Nat} (hc : I.chk P op (.mvg E sz y x p) = true) (h : Xg4 ob E sz p (y.ev sl) K (x.ev sl)) : J4 P a w ρ op K Pn := by
 obtain ⟨ρ', ob', t1, o1, h1⟩ := Xom hO h
 cases op <;> simp [I.chk] at hc
 all_goals
  have r1 := A.sound hs hc
  exact Xr (fun o ho => by simp [execOp, ho]) h1 (V.rep_tr t1 r1) o1 t1

theorem Xyz (hs : SM w ρ sl a) (hO : OM w ρ ob) {op : Op} {y x : A} {l : List (Nat × Nat × List Nat)} (hc : I.chk P op (.mvn y x l) = true) (h : Xpq (y.ev sl) K (x.ev sl) l ob) : J4 P a w ρ op K Pn := by
 obtain ⟨ρ', ob', t1, o1, h1⟩ := Xon hO h
 cases op <;> simp [I.chk] at hc
 all_goals
  have r1 := A.sound hs hc
  exact Xr (fun o ho => by simp [execOp, ho]) h1 (V.rep_tr t1 r1) o1 t1
end
end Go.Ab
/- That slice literals, appends and conversions between strings and bytes do what Ab9 says of them; and all operations together. Over any program; no condition. -/
namespace Go.Ab
open Go
section
variable {P : Program} {a : Act} {w : World} {ρ : Env} {sl : Xc} {ob : Objs} {K Pn : V → Objs → Prop}

theorem Xr3 (hs : SM w ρ sl a) {z : List D} {parts : List (Nat × A)} {t e : TypeId} {len sz : Nat} {ps : Array (Nat × Operand)} {K : List V → Prop} (hst : P.underlying t = some (.slice e)) (he : X8 P e = some sz)
  (hp : Wh ps.toList parts = true) (hl : z.length = len) (h24 : len * sz ≤ 2 ^ 24) (hu : ∀ x ∈ z, x.sz = sz) (hz : (match Xcx P e len sz with | some cs => D.isCs z cs | none => false) = true)
  (h : Xaq (z.map .d) (parts.map fun (i, x) => (i, x.ev sl)) K) :
  ∃ ks cs, K ks ∧ V.repCs w ρ ks cs ∧ ks.map V.shape = (z.map V.d).map V.shape ∧ ∀ o : Oper, o.op = .buildSlice t len ps → (execOp a.eval o).run P w = .ok (.value (.slice (some ⟨w.heap.size, 0, none⟩) len len)) (Xi4 w (.cells cs.toArray e)) := by
 cases hzr : Xcx P e len sz with
 | none => simp [hzr] at hz
 | some cs =>
  simp only [hzr] at hz
  have hrep : V.repCs w ρ (z.map .d) cs := (V.repCs_d z cs).2 (D.isCs_rep z cs hz)
  have hplace : ∀ i, i < ((z.map V.d).map V.shape).length → (fun i => some (i * sz, sz)) i = some (Sh.sizes (((z.map V.d).map V.shape).take i), (((z.map V.d).map V.shape).getD i .leaf).size) := by
   intro i hi
   have hi' : i < z.length := by simpa using hi
   have hx : z[i].shape.size = sz := by rw [D.size_shape]; exact hu _ (List.getElem_mem hi')
   rw [← Xnp, D.szs_uniform (sz := sz) _ (fun x hx => hu x (List.mem_of_mem_take hx)), List.length_take, Nat.min_eq_left (by omega)]
   simp [hi', V.shape, hx]
  have hkeep : ∀ (ks : List V) (ps : List (Nat × V)) (K : List V → Prop), Xaq ks ps K → Xaq ks ps (fun ks' => K ks' ∧ ks'.map V.shape = ks.map V.shape) := by
   intro ks ps
   induction ps generalizing ks with
   | nil => intro K h; exact ⟨h, rfl⟩
   | cons p r ih =>
    obtain ⟨i, v⟩ := p
    intro K h
    simp only [Xaq] at h ⊢
    obtain ⟨h1, h2, h3, h4⟩ := h
    refine ⟨h1, h2, h3, ?_⟩
    have h5 := ih (ks.set i v) K h4
    have e : (ks.set i v).map V.shape = ks.map V.shape := by
     rw [List.map_set, h2]
     apply List.ext_getElem?
     intro j
     by_cases hj : i = j
     ·subst hj; rw [List.getElem?_set]; simp [h1]
     ·rw [List.getElem?_set]; simp [hj]
    rw [e] at h5
    exact h5
  obtain ⟨ks', cs', ⟨hK, hsh⟩, hR, hF⟩ := Xfx (sl := sl) hs (fun i => some (i * sz, sz)) ((z.map V.d).map V.shape) hplace ps.toList parts (z.map .d) cs _ hp hrep rfl (hkeep _ _ _ h)
  refine ⟨ks', cs', hK, hR, hsh, fun o ho => ?_⟩
  have hparts : ∀ ρ' : Operand → Value, (ps.map fun (i, x) => (i, ρ' x)).toList = ps.toList.map fun (i, x) => (i, ρ' x) := fun ρ' => by simp
  simp only [execOp, ho, Instr.buildSlice, Sem.run_bind, Xa hst, Xz he, Result.andThen_ok, hparts]
  rw [if_neg (by omega)]
  unfold Xcx at hzr
  by_cases h0 : len * sz = 0
  ·simp only [h0, if_true, Option.some.injEq] at hzr
   subst hzr
   simp only [h0, if_true, Sem.run_pure]
   have : (Array.map (fun x => (#[] : Array Value)[x % (#[] : Array Value).size]!) (Array.range 0)) = ([] : List Value).toArray := by simp
   simp only [this, hF, newRow, Sem.run_bind, run_newObj, Result.andThen_ok, Sem.run_pure]
   rfl
  ·simp only [h0, if_false] at hzr ⊢
   cases hzt : Jv P e with
   | none => simp [hzt] at hzr
   | some zc =>
    simp only [hzt, Option.map_some, Option.some.injEq] at hzr
    obtain ⟨zv, e1, _, hzrun⟩ := Q5 hzt
    have e2 : zv.cells = zc.toArray := by rw [← e1]
    have e3 : Array.map (fun x => zv.cells[x % zv.cells.size]!) (Array.range (len * sz)) = cs.toArray := by
     rw [e2, ← hzr, Array.toArray_toList]
    simp only [Sem.run_bind, hzrun, Result.andThen_ok, Sem.run_pure, e3, hF, newRow, run_newObj]
    rfl

theorem Xa6 {l z : List D} {sz : Nat} (h : (l.map V.d).map V.shape = (z.map V.d).map V.shape) (hu : ∀ x ∈ z, x.sz = sz) : l.length = z.length ∧ ∀ x ∈ l, x.sz = sz := by
 have hlen : l.length = z.length := by simpa using congrArg List.length h
 refine ⟨hlen, fun x hx => ?_⟩
 obtain ⟨i, hi, rfl⟩ := List.getElem_of_mem hx
 have h1 := congrArg (fun s : List Sh => (s.getD i .leaf).size) h
 simp only [List.getD_eq_getElem?_getD, List.getElem?_map, List.getElem?_eq_getElem hi, List.getElem?_eq_getElem (hlen ▸ hi), Option.map_some, Option.getD_some, V.shape, D.size_shape] at h1
 rw [h1]; exact hu _ (List.getElem_mem _)

theorem Xrv {z : List D} {parts : List (Nat × A)} {op : Op} {sz : Nat} {E? : Option Nat}
  (hc : Xnl P op E? sz z parts = true) :
  ∃ t len ps e, op = .buildSlice t len ps ∧ P.underlying t = some (.slice e) ∧ (∀ E, E? = some E → e = E) ∧ X8 P e = some sz ∧ Wh ps.toList parts = true ∧ z.length = len ∧ len * sz ≤ 2 ^ 24 ∧ (∀ x ∈ z, x.sz = sz) ∧ (match Xcx P e len sz with | some cs => D.isCs z cs | none => false) = true := by
 cases op <;> simp only [Xnl, Bool.false_eq_true] at hc
 rename_i t len ps
 simp only [Bool.and_eq_true] at hc
 obtain ⟨hp, hc⟩ := hc
 split at hc
 ·rename_i e hst
  simp only [Bool.and_eq_true, beq_iff_eq, decide_eq_true_eq, List.all_eq_true] at hc
  obtain ⟨⟨⟨⟨⟨h0, h1⟩, h2⟩, h3⟩, h4⟩, h5⟩ := hc
  refine ⟨t, len, ps, e, rfl, hst, fun E hE => ?_, h1, hp, h2, h3, h4, h5⟩
  subst hE; simpa using h0
 ·simp at hc

theorem Xob (hs : SM w ρ sl a) (hO : OM w ρ ob) {op : Op} {sz : Nat} {z : List D} {parts : List (Nat × A)} (hc : I.chk P op (.bls sz z parts) = true)
  (h : Xaq (z.map .d) (parts.map fun (i, x) => (i, x.ev sl)) fun ks => dK (fun l => K (.d (.list sz l)) ob) (V.allD ks)) : X6t P a w ρ op ob K := by
 obtain ⟨t, len, ps, e, rfl, hst, _, he, hp, hl, h24, hu, hz⟩ := Xrv (P := P) (op := op) (z := z) (parts := parts) (sz := sz) (E? := none) hc
 obtain ⟨ks, cs, hK, hR, hsh, hrun⟩ := Xr3 hs hst he hp hl h24 hu hz h
 cases ha : V.allD ks with
 | none => simp [ha, dK] at hK
 | some l =>
  simp only [ha, dK] at hK
  have e1 := V.allD_map ha
  subst e1
  rw [V.repCs_d] at hR
  obtain ⟨g1, g2⟩ := Xa6 hsh hu
  have he2 := Ud w (.cells cs.toArray e)
  refine ⟨_, _, _, hK, Yr.2 (.inr ⟨_, len, cs, by rw [g1, hl], by omega, ?_, D.repL_mono (he2.tr (ρ := ρ)).mono _ _ hR, g2⟩), he2, hrun⟩
  refine ⟨fun _ => ⟨rfl, ?_, ?_⟩, fun i hi => ?_⟩
  ·rintro (⟨id, o, h1, h2⟩ | h1)
   ·have := Qk hO h1 h2; simp at this
   ·have := hO.xlt _ h1; simp at this
  ·have := Qo w (.cells cs.toArray e); exact Xu this
  ·simp [World.cell?, Qo, hi]

theorem Xhv (hs : SM w ρ sl a) (hO : OM w ρ ob) {op : Op} {E sz : Nat} {z : List D} {parts : List (Nat × A)} (hc : I.chk P op (.blo E sz z parts) = true)
  (h : Xaq (z.map .d) (parts.map fun (i, x) => (i, x.ev sl)) fun ks => dK (fun l => K (.sl (fresh ob) l.length) ((fresh ob, .arr E sz l) :: ob)) (V.allD ks)) : Xmz P a w ρ op K := by
 have hfree := Yq ob
 obtain ⟨t, len, ps, e, rfl, hst, hE, he, hp, hl, h24, hu, hz⟩ := Xrv (P := P) (op := op) (z := z) (parts := parts) (sz := sz) (E? := some E) hc
 obtain rfl := hE E rfl
 obtain ⟨ks, cs, hK, hR, hsh, hrun⟩ := Xr3 hs hst he hp hl h24 hu hz h
 cases ha : V.allD ks with
 | none => simp [ha, dK] at hK
 | some l =>
  simp only [ha, dK] at hK
  have e1 := V.allD_map ha
  subst e1
  rw [V.repCs_d] at hR
  obtain ⟨g1, g2⟩ := Xa6 hsh hu
  have he2 := Ud w (.cells cs.toArray e)
  have hbl : ∀ b, (RO.arr w.heap.size l.length l.length).blk? = some b → w.heap.size ≤ b := fun b hb => by simp [RO.blk?] at hb; omega
  have t1 := Xcv _ he2 (o := .arr w.heap.size l.length l.length) (hO.free hfree) hbl
  refine Qn hrun hK (Vh.2 ⟨_, by simp [Env.ins]; rfl, ?_⟩) (hO.ins he2 hfree hbl ?_) t1 he2
  ·simp only [RO.slice]
   exact ⟨Nat.le_refl _, ⟨_, _, _, rfl⟩, fun _ => by rw [g1, hl]⟩
  ·refine .inr ⟨w.heap.size, l.length, cs, [], by simp [Env.ins], by simpa using Qo w (.cells cs.toArray e), D.repL_mono t1.mono _ _ hR, g2, ?_⟩
   rw [List.append_nil, D.repL_len _ _ hR, D.szs_uniform _ g2]

theorem Xol (hO : OM w ρ ob) {id : Nat} {x x' : Ob} {o : RO} {w' : World} (hl : lookO ob id = some x) (t : Tr w ρ w' (ρ.ins id o)) (hx : Xl5 w' (ρ.ins id o) id x')
  (hb : ∀ b, o.blk? = some b → w.heap.size ≤ b ∨ ∃ p, ρ.m id = some p ∧ p.blk? = some b) (hk : ∀ j p b, j ≠ id → ρ.m j = some p → p.blk? = some b → w'.heap[b]? = w.heap[b]?) : OM w' (ρ.ins id o) (setO ob id x') := by
 refine ⟨fun j y hy => ?_, fun j p hj => ?_, fun i j p q b h1 h2 h3 h4 => ?_, fun b hb => Nat.lt_of_lt_of_le (hO.xlt b hb) t.size, Xec t hO.glb, fun b h1 h2 => ?_, hO.once.set⟩
 ·rw [Yc ob id j ⟨_, hl⟩] at hy
  split at hy
  ·rename_i e; subst e; simp at hy; subst hy; exact hx
  ·rename_i e
   exact Xl5.tr t (hO.one j y hy) (by simp [Env.ins, e]) (fun b p h1 h2 => hk j p b e h1 h2)
 ·rw [Yc ob id j ⟨_, hl⟩]
  split
  ·exact ⟨_, rfl⟩
  ·rename_i e; exact hO.dom j p (by simpa [Env.ins, e] using hj)
 ·simp only [Env.ins] at h1 h2
  split at h1
  ·rename_i e1
   split at h2
   ·rename_i e2; exact e1.trans e2.symm
   ·simp at h1; subst h1
    rcases hb b h3 with h5 | ⟨r, h5, h6⟩
    ·have := Qk hO h2 h4; omega
    ·subst e1; exact hO.inj _ _ _ _ _ h5 h2 h6 h4
  ·split at h2
   ·rename_i e2
    simp at h2; subst h2
    rcases hb b h4 with h5 | ⟨r, h5, h6⟩
    ·have := Qk hO h1 h3; omega
    ·subst e2; exact hO.inj _ _ _ _ _ h1 h5 h3 h6
   ·exact hO.inj i j p q b h1 h2 h3 h4
 ·obtain ⟨i, p, h3, h4⟩ := h1
  simp only [Env.ins] at h3 h2
  split at h3
  ·simp at h3; subst h3
   rcases hb b h4 with h5 | ⟨r, h5, h6⟩
   ·have := hO.xlt b h2; omega
   ·exact hO.xdis b ⟨_, r, h5, h6⟩ h2
  ·exact hO.xdis b ⟨i, p, h3, h4⟩ h2
end
end Go.Ab
/- That append does what Ab9 says of it. Over any program; no condition. -/
namespace Go.Ab
open Go
section
variable {P : Program} {a : Act} {w : World} {ρ : Env} {sl : Xc} {ob : Objs} {K Pn : V → Objs → Prop}

theorem Wz {id : Nat} {o : RO} : (ρ.ins id o).m id = some o := by simp [Env.ins]

theorem Xh6 (n : Nat) : ∀ (r c : Nat), c ≤ 2 * n + 192 → Builtin.growBy n r c ≤ 2 * n + 192
 | 0, c, h => by simpa [Builtin.growBy] using h
 | r + 1, c, h => by
  simp only [Builtin.growBy]
  split
  ·exact h
  ·exact Xh6 n r _ (by omega)

theorem Xos {need cap : Nat} (h : cap < need) : Builtin.nextslicecap need cap ≤ 2 * need + 192 := by
 unfold Builtin.nextslicecap
 split
 ·omega
 ·split
  ·omega
  ·exact Xh6 need 4 cap (by omega)

theorem X4c {sz : Nat} {v : V} {x : Value} {K : List D → Prop} (hv : v.rep w ρ x) (h : Xwy sz K v) :
  ∃ ys vs, K ys ∧ D.repL w (own ρ) ys vs ∧ (∀ y ∈ ys, y.sz = sz) ∧ (∀ w', (Builtin.lenOf x).run P w' = .ok ys.length w') ∧ ∀ w', w'.heap = w.heap → (Builtin.firstCells sz ys.length x).run P w' = .ok vs.toArray w' := by
 unfold Xwy at h
 split at h
 ·rename_i z ys
  obtain ⟨rfl, h⟩ := h
  rw [Yr] at hv
  rcases hv with ⟨rfl, rfl⟩ | ⟨ad, cap, vs, rfl, hcap, hce, hre, hu⟩
  ·exact ⟨[], [], h, by simp [D.repL], by simp, fun w' => by simp [Builtin.lenOf], fun w' _ => by simp [Builtin.firstCells]⟩
  ·refine ⟨ys, vs, h, hre, hu, fun w' => by simp [Builtin.lenOf], fun w' hw => ?_⟩
   have hl : vs.length = ys.length * z := by rw [D.repL_len _ _ hre, D.szs_uniform _ hu]
   simp only [Builtin.firstCells, ← hl]
   exact run_loadCells_list w' ad vs (fun j u hj => by
    obtain ⟨hj', e⟩ := List.getElem?_eq_some_iff.1 hj
    have hne : vs ≠ [] := by intro h; simp [h] at hj'
    rw [Addr.add_eq (hce.1 hne).1, cell?_congr (w := w) (w' := w') (by rw [hw]), ← e]
    exact hce.2 j hj')
 ·rw [V0] at hv
  subst hv
  exact ⟨[], [], h, by simp [D.repL], by simp, fun w' => by simp [Builtin.lenOf], fun w' _ => by simp [Builtin.firstCells]⟩
 ·exact h.elim

structure AppT (P : Program) (t t2 E sz B : Nat) : Prop where
 u1 : P.underlying t = some (.slice E)
 u2 : (∃ e, P.underlying t2 = some (.slice e)) ∨ P.underlying t2 = some .string
 info : ∃ i z, P.info? E = some i ∧ i.size = sz ∧ i.bytes = B ∧ i.zero = some z ∧ z.cells.size = sz
 b0 : B ≠ 0
 s0 : sz ≠ 0

theorem Xye {t t2 ty E sz B : Nat} (T : AppT P t t2 E sz B) {base : Option Addr} {sLen sCap n : Nat} {x : Value} {cs vs : List Value}
  (hx : ∀ w', (Builtin.lenOf x).run P w' = .ok n w') (hf : ∀ w', w'.heap = w.heap → (Builtin.firstCells sz n x).run P w' = .ok vs.toArray w')
  (ho : ∀ w', w'.heap = w.heap → (Builtin.firstCells sz sLen (.slice base sLen sCap)).run P w' = .ok cs.toArray w') (hneed : sCap < sLen + n) (hB : (2 * (sLen + n) + 192) * B ≤ 281474976710656) :
  ∃ newCap rest, sLen + n ≤ newCap ∧ rest.length = (newCap - (sLen + n)) * sz ∧
   (Builtin.append_ #[t, t2] ty #[.slice base sLen sCap, x]).run P w = .ok (.slice (some ⟨w.heap.size, 0, none⟩) (sLen + n) newCap) (Xi4 { w with drawn := w.drawn + 1 } (.cells ((cs ++ vs) ++ rest).toArray E)) := by
 obtain ⟨i, z, hi, h1, h2, h3, h4⟩ := T.info
 have hsz : X8 P E = some sz := by simp [X8, hi, h1]
 have hti : ∀ w', (typeInfo E).run P w' = .ok i w' := fun w' => by simp [typeInfo, hi]
 have hzv : ∀ w', (zeroValue E).run P w' = .ok z w' := fun w' => by simp [zeroValue, typeInfo, hi, h3]
 have hcap := Xos hneed
 have hle : Builtin.nextslicecap (sLen + n) sCap * B ≤ 281474976710656 := Nat.le_trans (Nat.mul_le_mul_right B hcap) hB
 have hq : (Question.appendCap (sLen + n) sCap E).forced = false := rfl
 refine ⟨(Question.appendCap (sLen + n) sCap E).cut (w.tape w.drawn (.appendCap (sLen + n) sCap E)), (Builtin.zeroCells z.cells ((Question.appendCap (sLen + n) sCap E).cut (w.tape w.drawn (.appendCap (sLen + n) sCap E)) - (sLen + n))).toList, ?_, ?_, ?_⟩
 ·simp [Question.cut]
 ·simp [Builtin.zeroCells, h4]
 ·generalize hc : (Question.appendCap (sLen + n) sCap E).cut (w.tape w.drawn (.appendCap (sLen + n) sCap E)) = newCap
  unfold Builtin.append_
  have e0 : (#[t, t2] : Array TypeId)[0]? = some t := rfl
  have e1 : (#[t, t2] : Array TypeId)[1]? = some t2 := rfl
  rcases T.u2 with ⟨e2, u2⟩ | u2
  all_goals
   simp only [e0, e1, List.getElem?_toArray, List.getElem?_cons_zero, List.getElem?_cons_succ, Sem.run_bind, Xa T.u1, Xa u2, Result.andThen_ok, Xz hsz, Sem.run_pure, hx, Bool.false_eq_true, if_false, Bool.not_false, if_true]
   rw [if_neg (by omega)]
   have hb : ¬ (Builtin.nextslicecap (sLen + n) sCap * B > 2 ^ 48) := by omega
   simp only [hb, T.b0, or_self, and_false, if_false, Sem.run_bind, run_choose, hq, Bool.false_eq_true, hc, Result.andThen_ok, run_askRoom, hti, h2, ho { w with drawn := w.drawn + 1 } rfl, hf { w with drawn := w.drawn + 1 } rfl, hzv, newRow, run_newObj, Sem.run_pure]
   have e3 : (cs.toArray ++ vs.toArray) ++ Builtin.zeroCells z.cells (newCap - (sLen + n)) = ((cs ++ vs) ++ (Builtin.zeroCells z.cells (newCap - (sLen + n))).toList).toArray := by apply Array.ext'; simp
   rw [e3]
   rfl

theorem Xxa {t t2 ty E sz B : Nat} (T : AppT P t t2 E sz B) {b sLen sCap n : Nat} {x : Value} {cs sp vs : List Value}
  (hx : ∀ w', (Builtin.lenOf x).run P w' = .ok n w') (hf : ∀ w', w'.heap = w.heap → (Builtin.firstCells sz n x).run P w' = .ok vs.toArray w')
  (hb : w.heap[b]? = some (.cells (List.toArray (cs ++ sp)) E (0, 0))) (hcs : cs.length = sLen * sz) (hvs : vs.length = n * sz) (hlen : (cs ++ sp).length = sCap * sz) (hone : ∀ v ∈ vs, v.oneCell' = true) (hneed : sLen + n ≤ sCap) :
  (Builtin.append_ #[t, t2] ty #[.slice (some ⟨b, 0, none⟩) sLen sCap, x]).run P w = .ok (.slice (some ⟨b, 0, none⟩) (sLen + n) sCap) (w.setRow b ((cs ++ vs) ++ sp.drop vs.length).toArray) := by
 obtain ⟨i, z, hi, h1, h2, h3, h4⟩ := T.info
 have hsz : X8 P E = some sz := by simp [X8, hi, h1]
 unfold Builtin.append_
 have e0 : (#[t, t2] : Array TypeId)[0]? = some t := rfl
 have e1 : (#[t, t2] : Array TypeId)[1]? = some t2 := rfl
 have hsum : sLen * sz + n * sz ≤ sCap * sz := by rw [← Nat.add_mul]; exact Nat.mul_le_mul_right sz hneed
 have hrun := run_storeCells_at (P := P) b (sLen * sz) E vs 0 (cs ++ sp).toArray w hb (by rw [hvs, List.size_toArray, hlen]; omega) hone
 have hadd : (⟨b, 0, none⟩ : Addr).add (sLen * sz) = ⟨b, sLen * sz, none⟩ := by rw [Addr.add_eq rfl]; simp
 rcases T.u2 with ⟨e2, u2⟩ | u2
 all_goals
  simp only [e0, e1, List.getElem?_toArray, List.getElem?_cons_zero, List.getElem?_cons_succ, Sem.run_bind, Xa T.u1, Xa u2, Result.andThen_ok, Xz hsz, Sem.run_pure, hx, Bool.false_eq_true, if_false, Bool.not_false, if_true]
  rw [if_pos hneed]
  simp only [Sem.run_bind, hf w rfl, Result.andThen_ok, hadd, hrun, Sem.run_pure]
  congr 3
  rw [Nat.add_zero, ← hcs]
  simp [List.drop_append]

theorem Xyy {t t2 ty E sz B : Nat} (T : AppT P t t2 E sz B) {x : Value}
  (hx : ∀ w', (Builtin.lenOf x).run P w' = .ok 0 w') (hf : ∀ w', w'.heap = w.heap → (Builtin.firstCells sz 0 x).run P w' = .ok #[] w') :
  (Builtin.append_ #[t, t2] ty #[.slice none 0 0, x]).run P w = .ok (.slice none 0 0) w := by
 obtain ⟨i, z, hi, h1, h2, h3, h4⟩ := T.info
 have hsz : X8 P E = some sz := by simp [X8, hi, h1]
 unfold Builtin.append_
 rcases T.u2 with ⟨e2, u2⟩ | u2 <;> simp [Xa T.u1, Xa u2, Xz hsz, hx, hf w rfl]

theorem Xny {t t2 ty E sz B : Nat} (T : AppT P t t2 E sz B) (hO : OM w ρ ob) {id : Nat} {xs ys : List D} {s x : Value} {vs : List Value} (hl : lookO ob id = some (.arr E sz xs))
  (hs : (V.sl id xs.length).rep w ρ s) (hre : D.repL w (own ρ) ys vs) (hu : ∀ y ∈ ys, y.sz = sz)
  (hx : ∀ w', (Builtin.lenOf x).run P w' = .ok ys.length w') (hf : ∀ w', w'.heap = w.heap → (Builtin.firstCells sz ys.length x).run P w' = .ok vs.toArray w')
  (hB : (2 * (xs.length + ys.length) + 192) * B ≤ 281474976710656) :
  ∃ v w' ρ', (Builtin.append_ #[t, t2] ty #[s, x]).run P w = .ok v w' ∧ Tr w ρ w' ρ' ∧ OM w' ρ' (setO ob id (.arr E sz (xs ++ ys))) ∧ (V.sl id (xs.length + ys.length)).rep w' ρ' v := by
 rw [Vh] at hs
 obtain ⟨o, hρ, hs⟩ := hs
 have h1 := hO.one id _ hl
 have hvl : vs.length = ys.length * sz := by rw [D.repL_len _ _ hre, D.szs_uniform _ hu]
 -- a new row, from whatever was there
 have grow : ∀ (base : Option Addr) (sCap : Nat) (cs : List Value), s = .slice base xs.length sCap → D.repL w (own ρ) xs cs → (∀ y ∈ xs, y.sz = sz) →
   (∀ w', w'.heap = w.heap → (Builtin.firstCells sz xs.length (.slice base xs.length sCap)).run P w' = .ok cs.toArray w') → sCap < xs.length + ys.length →
   (o = .virt ∧ xs.length = 0 ∨ ∃ b c, o = .arr b xs.length c) → xs.length ≤ sCap →
   ∃ v w' ρ', (Builtin.append_ #[t, t2] ty #[s, x]).run P w = .ok v w' ∧ Tr w ρ w' ρ' ∧ OM w' ρ' (setO ob id (.arr E sz (xs ++ ys))) ∧ (V.sl id (xs.length + ys.length)).rep w' ρ' v := by
  intro base sCap cs es hxs hux hold hneed ho hlc
  subst es
  obtain ⟨newCap, rest, g1, g2, g3⟩ := Xye (ty := ty) T hx hf hold hneed hB
  have he : Ext w (Xi4 { w with drawn := w.drawn + 1 } (.cells ((cs ++ vs) ++ rest).toArray E)) := (Ext.drew w _).trans (Ud _ _)
  have t1 : Tr w ρ (Xi4 { w with drawn := w.drawn + 1 } (.cells ((cs ++ vs) ++ rest).toArray E)) (ρ.ins id (.arr w.heap.size (xs.length + ys.length) newCap)) := by
   refine ⟨he.size, fun b _ h => he.keep b h, fun b h => ?_, rfl, rfl, fun j p hp => ?_, he.tape, he.os, he.out⟩
   ·obtain ⟨j, p, q1, q2⟩ := h
    simp only [Env.ins] at q1
    split at q1
    ·simp at q1; subst q1; simp [RO.blk?] at q2; exact .inr (by omega)
    ·exact .inl ⟨j, p, q1, q2⟩
   ·by_cases ej : j = id
    ·subst ej
     refine ⟨_, Wz, .grow (n := xs.length) (by omega) ?_⟩
     rw [hρ] at hp; simp at hp; subst hp
     exact ho
    ·exact ⟨p, by simp [Env.ins, ej, hp], .refl p⟩
  refine ⟨_, _, _, g3, t1, Xol hO hl t1 (.inr ⟨w.heap.size, newCap, cs ++ vs, rest, by simp [Env.ins], Qo _ _, D.repL_append (D.repL_mono t1.mono _ _ hxs) (D.repL_mono t1.mono _ _ hre), ?_, ?_⟩) (fun b hb => ?_) (fun j p b hj h2 h3 => he.keep b (Qk hO h2 h3)), ?_⟩
  ·intro y hy
   rcases List.mem_append.1 hy with hy | hy
   ·exact hux y hy
   ·exact hu y hy
  ·have hcl : cs.length = xs.length * sz := by rw [D.repL_len _ _ hxs, D.szs_uniform _ hux]
   rw [List.length_append, List.length_append, g2, hcl, hvl, ← Nat.add_mul, ← Nat.add_mul]
   congr 1; omega
  ·simp [RO.blk?] at hb; exact .inl (by omega)
  ·rw [Vh]
   refine ⟨_, Wz, ?_⟩
   exact ⟨Nat.le_refl _, ⟨_, _, _, rfl⟩, fun _ => rfl⟩
 rcases h1 with ⟨h1, rfl⟩ | ⟨b, cap, cs, sp, h1, h2, h3, h4, h5⟩
 ·-- nothing yet
  rw [hρ] at h1; simp at h1; subst h1
  simp only [RO.slice] at hs
  obtain ⟨_, rfl⟩ := hs
  by_cases hy : ys = []
  ·subst hy
   have hv0 : vs = [] := by simpa using hvl
   subst hv0
   refine ⟨_, w, ρ, Xyy T hx (fun w' hw => hf w' hw), Tr.refl _ _, ?_, ?_⟩
   ·refine ⟨fun j y hy => ?_, fun j p hp => ?_, hO.inj, hO.xlt, hO.glb, hO.xdis, hO.once.set⟩
    ·rw [Yc ob id j ⟨_, hl⟩] at hy
     split at hy
     ·rename_i e; subst e; simp at hy; subst hy; exact .inl ⟨hρ, rfl⟩
     ·exact hO.one j y hy
    ·rw [Yc ob id j ⟨_, hl⟩]
     split
     ·exact ⟨_, rfl⟩
     ·exact hO.dom j p hp
   ·rw [Vh]; exact ⟨_, hρ, rfl, rfl⟩
  ·refine grow none 0 [] rfl (by simp [D.repL]) (by simp) (fun w' _ => by simp [Builtin.firstCells]) ?_ (.inl ⟨rfl, rfl⟩) (Nat.le_refl _)
   cases ys with
   | nil => exact absurd rfl hy
   | cons y r => simp
 ·rw [hρ] at h1; simp at h1; subst h1
  obtain ⟨_, _, hs⟩ := hs
  have hs := hs rfl
  have hcl : cs.length = xs.length * sz := by rw [D.repL_len _ _ h3, D.szs_uniform _ h4]
  have hlc : xs.length ≤ cap := by
   have : xs.length * sz ≤ cap * sz := by rw [← h5, ← hcl]; simp
   exact Nat.le_of_mul_le_mul_right this (Nat.pos_of_ne_zero T.s0)
  by_cases hroom : xs.length + ys.length ≤ cap
  ·subst hs
   have hrun := Xxa (ty := ty) T hx hf h2 hcl hvl h5 (D.ones ys vs hre) hroom
   have t1 : Tr w ρ (w.setRow b ((cs ++ vs) ++ sp.drop vs.length).toArray) (ρ.ins id (.arr b (xs.length + ys.length) cap)) := by
    refine ⟨by simp, fun j hj _ => setRow_other w b j _ (fun e => hj ?_), fun j h => ?_, rfl, rfl, fun j p hp => ?_, rfl, rfl, rfl⟩
    ·subst e; exact ⟨id, _, hρ, rfl⟩
    ·obtain ⟨k, p, q1, q2⟩ := h
     simp only [Env.ins] at q1
     split at q1
     ·simp at q1; subst q1; simp [RO.blk?] at q2; subst q2; exact .inl ⟨id, _, hρ, rfl⟩
     ·exact .inl ⟨k, p, q1, q2⟩
    ·by_cases ej : j = id
     ·subst ej
      rw [hρ] at hp; simp at hp; subst hp
      refine ⟨_, Wz, ?_⟩
      cases ys with
      | nil => exact .refl _
      | cons y r => exact .grow (n := xs.length) (by simp) (.inr ⟨_, _, rfl⟩)
     ·exact ⟨p, by simp [Env.ins, ej, hp], .refl p⟩
   refine ⟨_, _, _, hrun, t1, Xol hO hl t1 (.inr ⟨b, cap, cs ++ vs, sp.drop vs.length, by simp [Env.ins], setRow_heap w b _ _ E _ h2, D.repL_append (D.repL_mono t1.mono _ _ h3) (D.repL_mono t1.mono _ _ hre), ?_, ?_⟩) (fun b' hb => ?_) (fun j p b' hj q1 q2 => setRow_other w b b' _ (fun e => hj ?_)), ?_⟩
   ·intro y hy
    rcases List.mem_append.1 hy with hy | hy
    ·exact h4 y hy
    ·exact hu y hy
   ·have hsum : xs.length * sz + ys.length * sz ≤ cap * sz := by rw [← Nat.add_mul]; exact Nat.mul_le_mul_right sz hroom
    simp only [List.length_append, List.length_drop] at h5 ⊢
    omega
   ·simp [RO.blk?] at hb; subst hb; exact .inr ⟨_, hρ, rfl⟩
   ·subst e; exact hO.inj j id _ _ _ q1 hρ q2 rfl
   ·rw [Vh]
    refine ⟨_, Wz, ?_⟩
    exact ⟨Nat.le_refl _, ⟨_, _, _, rfl⟩, fun _ => rfl⟩
  ·refine grow (some ⟨b, 0, none⟩) cap cs hs h3 h4 (fun w' hw => ?_) (by omega) (.inr ⟨_, _, rfl⟩) hlc
   simp only [Builtin.firstCells, ← hcl]
   exact run_loadCells_list w' _ cs (fun j u hj => by
    obtain ⟨hj', e⟩ := List.getElem?_eq_some_iff.1 hj
    rw [Addr.add_eq rfl, cell?_congr (w := w) (w' := w') (by rw [hw])]
    simp [World.cell?, h2, List.getElem?_append, hj', e])

theorem Xq5 {u v : Operand} {t t2 E sz B : Nat} {vx : V} {ys : List D} {vs : List Value} (T : AppT P t t2 E sz B) (r1 : vx.rep w ρ (a.eval u)) (hO : OM w ρ ob) (hK : Xdf E sz B ob ys K vx)
  (hre : D.repL w (own ρ) ys vs) (hu : ∀ y ∈ ys, y.sz = sz) (hx : ∀ w', (Builtin.lenOf (a.eval v)).run P w' = .ok ys.length w')
  (hf : ∀ w', w'.heap = w.heap → (Builtin.firstCells sz ys.length (a.eval v)).run P w' = .ok vs.toArray w') : J4 P a w ρ (.call { callee := .builtin .append, args := #[u, v], argTypes := #[t, t2] }) K Pn := by
 have hrun : ∀ (w' : World) (val : Value) (o : Oper), o.op = .call { callee := .builtin .append, args := #[u, v], argTypes := #[t, t2] } → (Builtin.append_ #[t, t2] o.type #[a.eval u, a.eval v]).run P w = .ok val w' → (execOp a.eval o).run P w = .ok (.value val) w' := by
  intro w' val o ho hr
  simp only [execOp, ho, resolve, invoke, builtin, Sem.run_bind, Sem.run_pure, Result.andThen_ok, List.map_toArray, List.map_cons, List.map_nil, hr]
 unfold Xdf at hK
 split at hK
 ·rename_i id n
  unfold Xdj at hK
  split at hK
  ·rename_i E' sz' xs hl
   obtain ⟨rfl, rfl, rfl, hB, hK⟩ := hK
   intro o ho next Q hn _
   obtain ⟨val, w', ρ', g1, g2, g3, g4⟩ := Xny (ty := o.type) T hO hl r1 hre hu hx hf hB
   unfold Oper.wp
   rw [hrun w' val o ho g1]
   exact hn val _ _ w' ρ' hK g4 g3 g2
  ·exact hK.elim
 ·obtain ⟨hB, hK⟩ := hK
  have hl := Yq ob
  rw [V0] at r1
  have hbl : ∀ b, RO.virt.blk? = some b → w.heap.size ≤ b := fun b hb => by simp [RO.blk?] at hb
  have t1 := Xcv w (Ext.refl w) (o := .virt) (hO.free hl) hbl
  have o1 : OM w (ρ.ins (fresh ob) .virt) ((fresh ob, .arr E sz []) :: ob) := hO.ins (Ext.refl w) hl hbl (.inl ⟨Wz, rfl⟩)
  have q1 : (V.sl (fresh ob) ([] : List D).length).rep w (ρ.ins (fresh ob) .virt) (a.eval u) := by
   rw [Vh]; exact ⟨_, Wz, rfl, r1⟩
  intro o ho next Q hn _
  obtain ⟨val, w', ρ', g1, g2, g3, g4⟩ := Xny (ty := o.type) (ys := ys) T o1 (by simp [lookO]) q1 (D.repL_mono t1.mono _ _ hre) hu hx hf (by simpa using hB)
  unfold Oper.wp
  rw [hrun w' val o ho g1]
  simp only [setO, if_true, List.nil_append, List.length_nil, Nat.zero_add] at g3 g4
  exact hn val _ _ w' ρ' hK g4 g3 (t1.trans g2)
 ·exact hK.elim

theorem Xyq (hs : SM w ρ sl a) (hO : OM w ρ ob) {op : Op} {E sz B : Nat} {x y : A} (hc : I.chk P op (.app E sz B x y) = true)
  (h : Xwy sz (fun ys => Xdf E sz B ob ys K (x.ev sl)) (y.ev sl)) : J4 P a w ρ op K Pn := by
 cases op <;> simp only [I.chk, Bool.false_eq_true] at hc
 rename_i c
 obtain ⟨ca, args, ts⟩ := c
 cases ca <;> (try simp only [Bool.false_eq_true] at hc)
 rename_i b
 cases b <;> (try simp only [Bool.false_eq_true] at hc)
 split at hc
 ·rename_i u v t t2 e1 e2
  simp only [Bool.and_eq_true] at hc
  obtain ⟨⟨⟨⟨h0, h1⟩, h2⟩, h3⟩, h4⟩ := hc
  have ea : args = #[u, v] := by simpa using congrArg List.toArray e1
  have et : ts = #[t, t2] := by simpa using congrArg List.toArray e2
  subst ea et
  have T : AppT P t t2 E sz B := by
   cases hi : P.info? E with
   | none => simp [hi] at h1
   | some i =>
    simp only [hi, Bool.and_eq_true, beq_iff_eq, bne_iff_ne, ne_eq] at h1
    obtain ⟨⟨⟨⟨⟨g1, g2⟩, g3⟩, g4⟩, g5⟩, g6⟩ := h1
    obtain ⟨z, hz⟩ := Option.isSome_iff_exists.1 g5
    rw [hz] at g6
    simp at g6
    refine ⟨?_, ?_, ⟨i, z, hi, g1, g2, hz, g6⟩, by rw [← g2]; exact g3, by rw [← g1]; exact g4⟩
    ·revert h0; split <;> simp_all
    ·left; revert h2; split <;> simp_all
  have r1 := A.sound hs h3
  have r2 := A.sound hs h4
  obtain ⟨ys, vs, hK, hre, hu, hx, hf⟩ := X4c (P := P) r2 h
  exact Xq5 T r1 hO hK hre hu hx hf
 ·simp at hc

theorem Xhw (s : List UInt8) : ∀ x ∈ bytesD s, x.sz = 1 := by
 induction s with
 | nil => simp [bytesD]
 | cons b r ih => simp only [bytesD, List.mem_cons]; rintro x (rfl | h); exact rfl; exact ih x h
theorem Y0 (s : List UInt8) : (bytesD s).length = s.length := by
 induction s with
 | nil => rfl
 | cons b r ih => simp [bytesD, ih]
theorem Vb {ow : Nat → Prop} : ∀ (s : List UInt8) (cs : List Value), D.repL w ow (bytesD s) cs ↔ cs = s.map fun b => .int .u8 b.toNat
 | [], cs => by simp [bytesD, D.repL]
 | b :: r, cs => by
  simp only [bytesD, D.repL, D.rep, List.map_cons, Vb r]
  constructor
  ·rintro ⟨c1, c2, rfl, rfl, rfl⟩; rfl
  ·rintro rfl; exact ⟨_, _, rfl, rfl, rfl⟩

theorem Xr0 (hs : SM w ρ sl a) (hO : OM w ρ ob) {op : Op} {E B : Nat} {x y : A} (hc : I.chk P op (.appS E B x y) = true)
  (h : Xf2 (fun ys => Xdf E 1 B ob ys K (x.ev sl)) (y.ev sl)) : J4 P a w ρ op K Pn := by
 cases op <;> simp only [I.chk, Bool.false_eq_true] at hc
 rename_i c
 obtain ⟨ca, args, ts⟩ := c
 cases ca <;> (try simp only [Bool.false_eq_true] at hc)
 rename_i b
 cases b <;> (try simp only [Bool.false_eq_true] at hc)
 split at hc
 ·rename_i u v t t2 e1 e2
  simp only [Bool.and_eq_true] at hc
  obtain ⟨⟨⟨⟨h0, h1⟩, h2⟩, h3⟩, h4⟩ := hc
  have ea : args = #[u, v] := by simpa using congrArg List.toArray e1
  have et : ts = #[t, t2] := by simpa using congrArg List.toArray e2
  subst ea et
  have T : AppT P t t2 E 1 B := by
   cases hi : P.info? E with
   | none => simp [hi] at h1
   | some i =>
    simp only [hi, Bool.and_eq_true, beq_iff_eq, bne_iff_ne, ne_eq] at h1
    obtain ⟨⟨⟨⟨g1, g2⟩, g3⟩, g5⟩, g6⟩ := h1
    obtain ⟨z, hz⟩ := Option.isSome_iff_exists.1 g5
    rw [hz] at g6
    simp at g6
    refine ⟨?_, ?_, ⟨i, z, hi, g1, g2, hz, g6⟩, by rw [← g2]; exact g3, by omega⟩
    ·revert h0; split <;> simp_all
    ·right; revert h2; split <;> simp_all
  have r1 := A.sound hs h3
  have r2 := A.sound hs h4
  unfold Xf2 at h
  split at h
  ·rename_i s e3
   rw [e3, rep_str] at r2
   have hlen : (bytesD s).length = s.length := Y0 s
   refine Xq5 T r1 hO h ((Vb s _).2 rfl) (Xhw s) (fun w' => ?_) (fun w' _ => ?_)
   ·rw [r2, hlen]; simp [Builtin.lenOf, Xb4]
   ·rw [r2, hlen]
    simp only [Builtin.firstCells, Sem.run_pure]
    congr 1
    apply Array.ext'
    simp [ByteArray.data_extract]
  ·exact h.elim
 ·simp at hc

theorem Xxn (hs : SM w ρ sl a) (hO : OM w ρ ob) {op : Op} {x : A} (hc : I.chk P op (.cvb x) = true) (h : Xus ob K (x.ev sl)) : J4 P a w ρ op K Pn := by
 cases op <;> simp only [I.chk, Bool.false_eq_true] at hc
 rename_i s t y
 simp only [Bool.and_eq_true, beq_iff_eq] at hc
 obtain ⟨⟨rfl, h0⟩, h2⟩ := hc
 have r1 := A.sound hs h2
 obtain ⟨e, hs1, he⟩ : ∃ e, P.underlying s = some (.slice e) ∧ P.underlying e = some (.int .u8) := by
  cases hu : P.underlying s with
  | none => simp [hu] at h0
  | some d =>
   cases d <;> simp [hu] at h0
   rename_i e
   refine ⟨e, rfl, ?_⟩
   revert h0; split <;> simp_all
 unfold Xus at h
 split at h
 ·rename_i id n e1
  unfold Xe8 at h
  split at h
  ·rename_i E sz xs hl
   obtain ⟨hsz, rfl, hne, hK⟩ := h
   rw [e1] at r1
   have r3 := Xew hO hl hsz r1
   rw [Vh] at r1
   obtain ⟨o, hρ, hv⟩ := r1
   rcases hO.one id _ hl with ⟨h1, rfl⟩ | ⟨b, cap, cs, sp, h1, h2, h3, h4, h5⟩
   ·exact absurd rfl hne
   ·rw [hρ] at h1; simp at h1; subst h1
    have hu := hv.2.2 rfl
    have hw : ∃ w2, w2.heap.size = w.heap.size ∧ (∀ j, j ≠ b → w2.heap[j]? = w.heap[j]?) ∧ w2.heap[b]? = some (.cells (List.toArray (cs ++ sp)) E ((cs ++ sp).length, (cs ++ sp).length + 1)) ∧ w2.tape = w.tape ∧ w2.os = w.os ∧ w2.output = w.output ∧ (markStringish ⟨b, 0, none⟩).run P w = .ok () w2 := by
     have hsh : w.shape? b = some (E, (cs ++ sp).length) := by simp [World.shape?, h2]
     refine ⟨w.freeze ⟨b, (cs ++ sp).length, none⟩ 1, by simp [World.freeze], fun j hj => ?_, ?_, rfl, rfl, rfl, ?_⟩
     ·simp only [World.freeze]
      simp [Array.getElem?_modify, Ne.symm hj]
     ·simp only [World.freeze]
      simp [Array.getElem?_modify, h2]
     ·simp only [markStringish, Sem.run_bind, run_shape, hsh, Result.andThen_ok, run_freeze]
    obtain ⟨w2, q1, q2, q3, q4, q5, q6, q7⟩ := hw
    obtain ⟨t1, o1, hno⟩ := Xf5 hO (w2 := w2) ⟨_, hl⟩ q1 (fun j hj => q2 j (fun e => hj _ hρ (by rw [e]; rfl))) q4 q5 q6
    refine Xr (v := .slice (some ⟨b, 0, none⟩) xs.length cap) (fun o ho => ?_) hK ?_ o1 t1
    ·simp only [execOp, ho, hu, convert, Sem.run_bind, Xa hs1, Result.andThen_ok, beq_self_eq_true, Xa he, q7, Sem.run_pure]
    ·rw [Yr]
     refine .inr ⟨_, cap, cs, rfl, ?_, ⟨fun _ => ⟨rfl, hno b _ hρ rfl, Xu q3⟩, fun i hi => ?_⟩, D.repL_mono t1.mono _ _ h3, h4⟩
     ·have hcl : cs.length = xs.length * sz := by rw [D.repL_len _ _ h3, D.szs_uniform _ h4]
      have : xs.length * sz ≤ cap * sz := by rw [← h5, ← hcl]; simp
      exact Nat.le_of_mul_le_mul_right this (Nat.pos_of_ne_zero hsz)
     ·simp [World.cell?, q3, List.getElem?_append, hi]
  ·exact h.elim
 ·exact h.elim

theorem Xtc (hs : SM w ρ sl a) (hO : OM w ρ ob) {op : Op} {E : Nat} {x y : A} (hc : I.chk P op (.ustr E x y) = true) (h : J8 E ob K (x.ev sl) (y.ev sl)) : J4 P a w ρ op K Pn := by
 cases op <;> simp only [I.chk, Bool.false_eq_true] at hc
 rename_i c
 obtain ⟨ca, args, ts⟩ := c
 cases ca <;> (try simp only [Bool.false_eq_true] at hc)
 rename_i b
 cases b <;> (try simp only [Bool.false_eq_true] at hc)
 split at hc
 ·rename_i u v t t2 e1 e2
  have ea : args = #[u, v] := by simpa using congrArg List.toArray e1
  have et : ts = #[t, t2] := by simpa using congrArg List.toArray e2
  subst ea et
  simp only [Bool.and_eq_true] at hc
  obtain ⟨⟨h0, h1⟩, h2⟩ := hc
  have r1 := A.sound hs h1
  have r2 := A.sound hs h2
  obtain ⟨hp, hce⟩ : P.underlying t = some (.pointer E) ∧ P.cellsOf E = 1 := by
   split at h0
   ·rename_i e he; simp only [Bool.and_eq_true, beq_iff_eq] at h0; obtain ⟨rfl, h0⟩ := h0; exact ⟨he, h0⟩
   ·simp at h0
  have hrun : ∀ (w' : World) (val : Value) (o : Oper), o.op = .call { callee := .builtin .unsafeString, args := #[u, v], argTypes := #[t, t2] } → (Builtin.unsafeString_ #[t, t2] o.type #[a.eval u, a.eval v]).run P w = .ok val w' → (execOp a.eval o).run P w = .ok (.value val) w' := by
   intro w' val o ho hr
   simp only [execOp, ho, resolve, invoke, builtin, Sem.run_bind, Sem.run_pure, Result.andThen_ok, List.map_toArray, List.map_cons, List.map_nil, hr]
  unfold J8 at h
  split at h
  ·rename_i id n m e3 e4
   unfold Js at h
   split at h
   ·rename_i E' sz xs hl
    obtain ⟨rfl, rfl, rfl, rfl, h63, hne, s, rfl, hK⟩ := h
    rw [e3, X1p] at r1
    rw [e4, Ya] at r2
    obtain ⟨o, hρ, hv⟩ := r1
    have hs0 : s ≠ [] := by intro e; subst e; exact hne rfl
    rcases hO.one id _ hl with ⟨h1, hx⟩ | ⟨b, cap, cs, sp, h1, h2, h3, h4, h5⟩
    ·exact absurd hx hne
    ·rw [hρ] at h1; simp at h1; subst h1
     have hu := hv.2.2 rfl (by simpa using hne)
     rw [Vb] at h3
     subst h3
     have hll : (bytesD s).length = s.length := Y0 s
     obtain ⟨t1, o1, hno⟩ := Xf5 hO (w2 := w.freeze ⟨b, 0, none⟩ s.length) ⟨_, hl⟩ (by unfold World.freeze; split <;> simp) (fun j hj => by
      have : b ≠ j := fun e => hj _ hρ (by rw [e]; rfl)
      unfold World.freeze; split
      ·rfl
      ·simp [Array.getElem?_modify, this]) (by unfold World.freeze; split <;> rfl) (by unfold World.freeze; split <;> rfl) (by unfold World.freeze; split <;> rfl)
     refine Xr (v := .string ⟨s.toArray⟩) (fun o ho => hrun _ _ o ho ?_) hK (rep_str.2 rfl) o1 t1
     rw [hu, r2, hll]
     exact Lib.run_unsafeString_row (P := P) (w := w) t t2 _ E' hp hce b ((s.map fun b => Value.int .u8 b.toNat) ++ sp).length (by simp [World.shape?, h2]) s hs0 (by simp) (by omega) (fun j x hj => by
      obtain ⟨hj', e⟩ := List.getElem?_eq_some_iff.1 hj
      rw [Addr.add_eq rfl]
      simp [World.cell?, h2, List.getElem?_append, hj', e])
   ·exact h.elim
  ·rename_i m e3 e4
   obtain ⟨rfl, hK⟩ := h
   rw [e3, Xby] at r1
   rw [e4, Ya] at r2
   refine Xr (v := .string .empty) (fun o ho => hrun _ _ o ho ?_) hK (rep_str.2 rfl) hO (Tr.refl _ _)
   rw [r1, r2]
   exact Lib.run_unsafeString_none _ _ _ _ _
  ·exact h.elim
 ·simp at hc

theorem Xg6 : ∀ (s : List UInt8) (l : List UInt8), (s.map fun b : UInt8 => ((b.toNat : Nat) : Int)).foldl (fun (r : ByteArray) (n : Int) => r.push (UInt8.ofNat n.toNat)) ⟨l.toArray⟩ = ⟨(l ++ s).toArray⟩
 | [], l => by simp
 | b :: r, l => by
  simp only [List.map_cons, List.foldl_cons]
  have : (ByteArray.mk l.toArray).push (UInt8.ofNat ((b.toNat : Nat) : Int).toNat) = ⟨(l ++ [b]).toArray⟩ := by
   apply ByteArray.ext; simp [ByteArray.push]
  rw [this, Xg6 r (l ++ [b])]
  simp

theorem Xxo (hs : SM w ρ sl a) (hO : OM w ρ ob) {op : Op} {x : A} (hc : I.chk P op (.b2s x) = true) (h : X6m (fun v => K v ob) (x.ev sl)) : J4 P a w ρ op K Pn := by
 cases op <;> simp [I.chk] at hc
 rename_i s t y
 obtain ⟨⟨h0, h1⟩, h2⟩ := hc
 have r1 := A.sound hs h2
 obtain ⟨e, hs1, he, hsz⟩ : ∃ e, P.underlying s = some (.slice e) ∧ P.underlying e = some (.int .u8) ∧ X8 P e = some 1 := by
  cases hu : P.underlying s with
  | none => simp [hu] at h0
  | some d =>
   cases d <;> simp [hu] at h0
   rename_i e
   refine ⟨e, rfl, ?_, h0.2⟩
   have := h0.1
   revert this; split <;> simp_all
 have ht : P.underlying t = some .string := by revert h1; split <;> simp_all
 have hcv : ∀ (ad : Option Addr) (l c : Nat) (o : Oper), o.op = .convert s t y → a.eval y = .slice ad l c → (execOp a.eval o).run P w = ((Conv.bytesToString (.slice ad l c)).run P w).andThen fun v w' => .ok (.value v) w' := by
  intro ad l c o ho hy
  simp only [execOp, ho, hy, convert, Sem.run_bind, Xa hs1, Xa ht, Result.andThen_ok, Xa he]
  simp
 unfold X6m at h
 split at h
 ·rename_i sz xs e1
  obtain ⟨rfl, bs, rfl, hK⟩ := h
  rw [e1, Yr] at r1
  rcases r1 with ⟨hx, r1⟩ | ⟨ad, cap, vs, r1, hcap, hce, hre, hu⟩
  ·have : bs = [] := by have := congrArg List.length hx; rw [Y0] at this; exact List.eq_nil_of_length_eq_zero this
   subst this
   refine Xr (fun o ho => ?_) hK (rep_str.2 rfl) hO (Tr.refl _ _)
   rw [hcv _ _ _ o ho r1]
   simp [Conv.bytesToString]
   rfl
  ·rw [Vb] at hre
   refine Xr (fun o ho => ?_) hK (rep_str.2 rfl) hO (Tr.refl _ _)
   rw [hcv _ _ _ o ho r1, run_bytesToString w ad _ cap (bs.map fun b => ((b.toNat : Nat) : Int)) ?_]
   ·have := Xg6 bs []
    simp only [List.nil_append] at this
    simp only [Result.andThen_ok]
    rw [← this]
    rfl
   ·have := run_loadCells_list (P := P) w ad vs (fun j u hj => by
     obtain ⟨hj', e⟩ := List.getElem?_eq_some_iff.1 hj
     have hne : vs ≠ [] := by intro h; simp [h] at hj'
     rw [Addr.add_eq (hce.1 hne).1, ← e]; exact hce.2 j hj')
    rw [Y0]
    rw [show vs.length = bs.length by rw [hre]; simp] at this
    rw [this, hre]
    simp
 ·rename_i e1
  rw [e1, V0] at r1
  refine Xr (fun o ho => ?_) h (rep_str.2 rfl) hO (Tr.refl _ _)
  rw [hcv _ _ _ o ho r1]
  simp [Conv.bytesToString]
  rfl
 ·exact h.elim

theorem Xm5 (hs : SM w ρ sl a) (hO : OM w ρ ob) {op : Op} {x : A} (hc : I.chk P op (.s2b x) = true) (h : X6s (fun v => K v ob) (x.ev sl)) : X6t P a w ρ op ob K := by
 cases op <;> simp [I.chk] at hc
 rename_i s t y
 obtain ⟨⟨h0, h1⟩, h2⟩ := hc
 have r1 := A.sound hs h2
 have hs1 : P.underlying s = some .string := by revert h0; split <;> simp_all
 obtain ⟨e, ht, he⟩ : ∃ e, P.underlying t = some (.slice e) ∧ P.underlying e = some (.int .u8) := by
  cases hu : P.underlying t with
  | none => simp [hu] at h1
  | some d =>
   cases d <;> simp [hu] at h1
   rename_i e
   refine ⟨e, rfl, ?_⟩
   revert h1; split <;> simp_all
 unfold X6s at h
 split at h
 ·rename_i bs e1
  rw [e1, rep_str] at r1
  have hq : (Question.appendCap bs.length 0 e).forced = false := rfl
  generalize hcap : (Question.appendCap bs.length 0 e).cut (w.tape w.drawn (.appendCap bs.length 0 e)) = cap
  have hge : bs.length ≤ cap := by rw [← hcap]; simp [Question.cut]
  let cs : List Value := (bs.map fun b => Value.int .u8 b.toNat) ++ List.replicate (cap - bs.length) (.int .u8 0)
  let w1 : World := Xi4 { w with drawn := w.drawn + 1 } (.cells cs.toArray e)
  have hlen : cs.length = cap := by simp [cs]; omega
  have he1 : Ext w w1 := (Ext.drew w _).trans (Ud _ _)
  have hn : w1.heap[w.heap.size]? = some (.cells cs.toArray e (0, 0)) := Qo _ _
  let w2 : World := w1.freeze ⟨w.heap.size, cap, none⟩ 1
  have hn2 : w2.heap[w.heap.size]? = some (.cells cs.toArray e (cap, cap + 1)) := by
   simp only [w2, World.freeze]
   simp [Array.getElem?_modify, hn]
  have hsz2 : w2.heap.size = w1.heap.size := by simp [w2, World.freeze]
  have he2 : Ext w w2 := by
   refine ⟨by rw [hsz2]; exact he1.size, fun b hb => ?_, he1.tape, he1.os, he1.out⟩
   rw [← he1.keep b hb]
   simp only [w2, World.freeze]
   simp [Array.getElem?_modify, Nat.ne_of_gt hb]
  refine ⟨.slice (some ⟨w.heap.size, 0, none⟩) bs.length cap, _, w2, h, Yr.2 (.inr ⟨⟨w.heap.size, 0, none⟩, cap, bs.map fun b => Value.int .u8 b.toNat, by rw [Y0], by rw [Y0]; exact hge, ⟨fun _ => ⟨rfl, ?_, Xu hn2⟩, fun i hi => ?_⟩, (Vb bs _).2 rfl, Xhw bs⟩), he2, fun o ho => ?_⟩
  rotate_left 2
  ·simp only [execOp, ho, r1, convert, Sem.run_bind, Xa hs1, Xa ht, Result.andThen_ok, Xa he, Conv.stringToBytes, Xb4, run_choose, hq, Bool.false_eq_true, if_false, hcap, newRow, run_newObj, Sem.run_pure]
   have e3 : Array.map (fun b : UInt8 => Value.int IntKind.u8 b.toNat) (ByteArray.mk bs.toArray).data ++ Array.replicate (cap - bs.length) (Value.int IntKind.u8 0) = cs.toArray := by
    apply Array.ext'; simp [cs]
   rw [e3]
   have hsh : w1.shape? w.heap.size = some (e, cap) := by simp [World.shape?, hn, hlen]
   have hm : (markStringish ⟨w.heap.size, 0, none⟩).run P w1 = .ok () w2 := by
    simp only [markStringish, Sem.run_bind, run_shape, hsh, Result.andThen_ok, run_freeze]
    rfl
   show ((Sem.run P (markStringish ⟨w.heap.size, 0, none⟩) w1).andThen _).andThen _ = _
   rw [hm]
   simp
  ·rintro (⟨j, p, q1, q2⟩ | q)
   ·have := Qk hO q1 q2; simp at this
   ·have := hO.xlt _ q; simp at this
  ·have hi' : i < bs.length := by simpa using hi
   simp [World.cell?, hn2, cs, List.getElem?_append, hi']
 ·exact h.elim

theorem Xtb (hs : SM w ρ sl a) (hO : OM w ρ ob) {op : Op} {E sz : Nat} {x : A} (hc : I.chk P op (.nilo E sz x) = true) (h : Xf8 E sz ob K (x.ev sl)) : J4 P a w ρ op K Pn := by
 unfold Xf8 at h
 split at h
 ·rename_i e1
  have hf := Yq ob
  have hbl : ∀ b, RO.virt.blk? = some b → w.heap.size ≤ b := fun b hb => by simp [RO.blk?] at hb
  have t1 := Xcv w (Ext.refl w) (o := .virt) (hO.free hf) hbl
  have o1 : OM w (ρ.ins (fresh ob) .virt) ((fresh ob, .arr E sz []) :: ob) := hO.ins (Ext.refl w) hf hbl (.inl ⟨Wz, rfl⟩)
  cases op <;> simp [I.chk] at hc
  all_goals
   have r1 := A.sound hs hc
   rw [e1, V0] at r1
   exact Xr (fun o ho => by simp [execOp, ho]) h (Vh.2 ⟨.virt, Wz, ⟨rfl, r1⟩⟩) o1 t1
 ·exact h.elim

theorem Xyv (hs : SM w ρ sl a) (hO : OM w ρ ob) {op : Op} {r : Option A} (hc : I.chk P op (.mkm r) = true) (h : X0z sl r ∧ K (.mp (fresh ob)) ((fresh ob, .map []) :: ob)) : J4 P a w ρ op K Pn := by
 cases op <;> simp only [I.chk, Bool.false_eq_true] at hc
 rename_i t hint
 simp only [Bool.and_eq_true] at hc
 obtain ⟨hm, hK⟩ := h
 obtain ⟨kt, et, ht⟩ : ∃ kt et, P.underlying t = some (.map kt et) := by
  have := hc.1
  revert this; split <;> simp_all
 obtain ⟨t1, o1, p1⟩ := X31 hO (Yq ob)
 refine Xr (fun o ho => ?_) hK p1 o1 t1
 cases hint with
 | none =>
  simp only [execOp, ho, Option.map_none, Instr.makeMap, Sem.run_bind, run_newObj, Result.andThen_ok, Sem.run_pure]
  rfl
 | some x =>
  cases r with
  | none => simp [Xgu] at hc
  | some y =>
   simp only [Xgu] at hc
   have r1 := A.sound hs hc.2
   simp only [X0z] at hm
   unfold X0r at hm
   split at hm
   ·rename_i k n e1
    rw [e1, Ya] at r1
    simp only [execOp, ho, Option.map_some, Instr.makeMap, Sem.run_bind, Xa ht, run_newObj, Result.andThen_ok, Sem.run_pure, r1, asInt]
    rfl
   ·exact hm.elim

theorem Xcb {k j : D} (h : D.alike k j = true) : ∃ u v, k.key = some u ∧ j.key = some v := by
 unfold D.alike at h
 split at h <;> first | exact ⟨_, _, rfl, rfl⟩ | cases h
theorem Xaz {td : TypeDesc} {kd k : D} (h : V6 td kd = true) (h2 : D.alike kd k = true) : V6 td k = true := by
 unfold V6 at h
 split at h
 ·cases k <;> simp [D.alike] at h2 <;> rfl
 ·cases k <;> simp [D.alike] at h2 <;> rfl
 ·cases k <;> simp [D.alike] at h2 <;> rfl
 ·cases h
theorem Xej {td : TypeDesc} {k j : D} {u v : Value} (hk : V6 td k = true) (ha : D.alike k j = true) (hu : k.key = some u) (hv : j.key = some v) : Instr.sameNow td u v = some (D.sameKey k j) := by
 cases k <;> cases j <;> simp only [D.alike, Bool.false_eq_true, decide_eq_true_eq] at ha <;> simp only [D.key, Option.some.injEq] at hu hv <;> subst hu <;> subst hv <;> cases td <;> simp only [V6, Bool.false_eq_true] at hk
 ·subst ha; simp [Instr.sameNow, D.sameKey]
 ·simp [Instr.sameNow, D.sameKey]
 ·rename_i s t
  simp only [Instr.sameNow, D.sameKey, Option.some.injEq]
  rw [beq_toListBytes, Xia, Xia]
theorem Xtq {td : TypeDesc} {k : D} {u : Value} (hk : V6 td k = true) (hu : k.key = some u) : ∀ (es : List (D × V)) (l : List MapEntry) (i : Nat), Y2 w ρ es l → (∀ e ∈ es, D.alike k e.1 = true) →
  (Xbn k es = none ∧ Instr.findNow td u l i = some none) ∨ ∃ v j e, Xbn k es = some v ∧ Instr.findNow td u l i = some (some (i + j, e.val)) ∧ l[j]? = some e ∧ v.rep w ρ e.val ∧ e.key = u
 | [], l, i, h, _ => by
  simp only [Y2] at h; subst h
  exact .inl ⟨rfl, rfl⟩
 | (j, v) :: r, l, i, h, ha => by
  obtain ⟨e, l', rfl, h1, h2, h3⟩ := h
  have haj := ha (j, v) (by simp)
  have hs := Xej hk haj hu h1
  simp only [Instr.findNow, Xbn, hs]
  cases hsk : D.sameKey k j with
  | true =>
   refine .inr ⟨v, 0, e, by simp, by simp, by simp, h2, ?_⟩
   cases k <;> cases j <;> simp only [D.alike, Bool.false_eq_true, decide_eq_true_eq] at haj <;> simp only [D.sameKey, beq_iff_eq] at hsk <;> simp only [D.key, Option.some.injEq] at hu h1 <;> rw [← hu, ← h1] <;> simp_all
  | false =>
   rcases Xtq hk hu r l' (i + 1) h3 (fun x hx => ha x (by simp [hx])) with ⟨f1, f2⟩ | ⟨v', j', e', f1, f2, f3, f4, f5⟩
   ·exact .inl ⟨by simpa using f1, by simpa using f2⟩
   ·exact .inr ⟨v', j' + 1, e', by simpa using f1, by simp only [f2]; congr 3; omega, by simpa using f3, f4, f5⟩
theorem Yt {kt : TypeId} {td : TypeDesc} (ht : P.underlying kt = some td) {u : Value} {l : List MapEntry} {r : Option (Nat × Value)} (h : Instr.findNow td u l 0 = some r) (w' : World) : (Instr.findKey kt u l).run P w' = .ok r w' := by
 simp [Instr.findKey, Xa ht, h]
theorem Yk {kt : TypeId} {td : TypeDesc} (ht : P.underlying kt = some td) {k : D} (hk : V6 td k = true) (u : Value) (b : Bool) (w' : World) : (Instr.checkKey b 10000 kt u).run P w' = .ok () w' := by
 unfold Instr.checkKey
 simp only [Sem.run_bind, Xa ht, Result.andThen_ok]
 unfold V6 at hk
 split at hk <;> first | (cases hk; done) | simp
theorem Xyi {et : TypeId} {z : D} (h : (match Jv P et with | some cs => D.isC z cs && (((P.info? et).bind (·.zero)).map fun v => match v with | .agg _ => true | _ => false) == some (V.d z).isAgg | none => false) = true) :
  ∃ zv, (V.d z).rep w ρ zv ∧ ∀ w', (zeroValue et).run P w' = .ok zv w' := by
 cases hzt : Jv P et with
 | none => simp [hzt] at h
 | some cs =>
  simp only [hzt, Bool.and_eq_true, beq_iff_eq] at h
  obtain ⟨hz1, hz2⟩ := h
  obtain ⟨zv, e1, e2, hzr⟩ := Q5 hzt
  refine ⟨zv, ?_, hzr⟩
  have hr : (V.d z).repC w ρ cs := by simp only [V.repC]; exact D.isC_rep z cs hz1
  rw [e2] at hz2
  simp only [Option.map_some, Option.some.injEq] at hz2
  cases zv with
  | agg cs' =>
   simp only at hz2
   refine .inr (.inl ⟨hz2.symm, cs, ?_, hr⟩)
   simp only [Value.cells] at e1
   rw [← e1]
  | _ =>
   simp only at hz2
   refine .inr (.inr ⟨hz2.symm, ?_⟩)
   simp only [Value.cells] at e1
   rw [← e1] at hr
   simpa using hr
theorem Xzf (hs : SM w ρ sl a) (hO : OM w ρ ob) {op : Op} {kd z : D} {ok : Bool} {m k : A} (hc : I.chk P op (.lkp kd z ok m k) = true) (h : Xwr ob kd z ok (fun v => K v ob) (m.ev sl) (k.ev sl)) : J4 P a w ρ op K Pn := by
 cases op <;> simp only [I.chk, Bool.false_eq_true] at hc
 rename_i t x i o
 simp only [Bool.and_eq_true, beq_iff_eq] at hc
 obtain ⟨⟨⟨rfl, hty⟩, hx⟩, hi⟩ := hc
 obtain ⟨kt, et, ht, hkk, hz⟩ : ∃ kt et, P.underlying t = some (.map kt et) ∧ Um P kt kd = true ∧ (match Jv P et with | some cs => D.isC z cs && (((P.info? et).bind (·.zero)).map fun v => match v with | .agg _ => true | _ => false) == some (V.d z).isAgg | none => false) = true := by
  revert hty; split
  ·rename_i kt et h; intro h1; simp only [Bool.and_eq_true] at h1; exact ⟨kt, et, h, h1.1, h1.2⟩
  ·intro h; cases h
 obtain ⟨td, htd, hkd⟩ : ∃ td, P.underlying kt = some td ∧ V6 td kd = true := by
  unfold Um at hkk
  split at hkk
  ·rename_i d hd; exact ⟨d, hd, hkk⟩
  ·cases hkk
 obtain ⟨zv, hzv, hzr⟩ := Xyi (w := w) (ρ := ρ) hz
 have r1 := A.sound hs hx
 have r2 := A.sound hs hi
 have tup : ∀ {v : V} {u : Value} (b : Bool), v.rep w ρ u → (V.tup [v, .d (.bool b)]).rep w ρ (.tuple #[u, .bool b]) := fun b hv => by
  rw [rep_tup]
  refine ⟨[_, .bool b], rfl, ?_⟩
  simp only [V.reps]
  exact ⟨_, _, rfl, hv, _, _, rfl, rep_bool.2 rfl, rfl⟩
 have keyRep : ∀ {d : D} {u v : Value}, d.key = some u → (V.d d).rep w ρ v → v = u := fun {d u v} h1 h2 => by
  cases d <;> simp only [D.key, Option.some.injEq, reduceCtorEq] at h1
  ·rw [Ya] at h2; rw [h2, ← h1]
  ·rw [rep_bool] at h2; rw [h2, ← h1]
  ·rw [rep_str] at h2; rw [h2, ← h1]
 unfold Xwr at h
 split at h
 ·rename_i id kk e1 e2
  rw [e1] at r1
  rw [e2] at r2
  unfold Xer at h
  split at h
  ·rename_i es hl
   obtain ⟨⟨ha0, hall⟩, hK⟩ := h
   obtain ⟨b, l, clk, g1, g2, g3⟩ := hO.one id _ hl
   rw [Xsa] at r1
   rcases r1 with ⟨b', g4, r1⟩ | ⟨g4, _⟩
   ·rw [g1] at g4; cases g4
    have hkk' := Xaz hkd ha0
    obtain ⟨_, ku, _, hku⟩ := Xcb ha0
    have r2' := keyRep hku r2
    have hget : (getObj b).run P w = .ok (.map l.toArray clk) w := by simp [getObj, Sem.run, g2]
    rcases Xtq hkk' hku es l 0 g3 hall with ⟨f1, f2⟩ | ⟨v, j, e, f1, f2, f3, f4, f5⟩
    ·rw [f1] at hK
     cases o
     ·exact Xr (fun o ho => by simp [execOp, ho, Instr.lookup, r1, r2', Xa ht, hget, Yk htd hkk', Yt htd f2, hzr]) hK hzv hO (Tr.refl _ _)
     ·exact Xr (fun o ho => by simp [execOp, ho, Instr.lookup, r1, r2', Xa ht, hget, Yk htd hkk', Yt htd f2, hzr]) hK (tup false hzv) hO (Tr.refl _ _)
    ·rw [f1] at hK
     cases o
     ·exact Xr (fun o ho => by simp [execOp, ho, Instr.lookup, r1, r2', Xa ht, hget, Yk htd hkk', Yt htd f2]) hK f4 hO (Tr.refl _ _)
     ·exact Xr (fun o ho => by simp [execOp, ho, Instr.lookup, r1, r2', Xa ht, hget, Yk htd hkk', Yt htd f2]) hK (tup true f4) hO (Tr.refl _ _)
   ·rw [g1] at g4; cases g4
  ·exact h.elim
 ·rename_i kk e1 e2
  rw [e1, Xof] at r1
  rw [e2] at r2
  obtain ⟨ha0, hK⟩ := h
  have hkk' := Xaz hkd ha0
  obtain ⟨_, ku, _, hku⟩ := Xcb ha0
  have r2' := keyRep hku r2
  have f2 : Instr.findNow td ku ([] : List MapEntry) 0 = some none := rfl
  cases o
  ·exact Xr (fun o ho => by simp [execOp, ho, Instr.lookup, r1, r2', Xa ht, Yk htd hkk', Yt htd f2, hzr]) hK hzv hO (Tr.refl _ _)
  ·exact Xr (fun o ho => by simp [execOp, ho, Instr.lookup, r1, r2', Xa ht, Yk htd hkk', Yt htd f2, hzr]) hK (tup false hzv) hO (Tr.refl _ _)
 ·exact h.elim

theorem X0x {td : TypeDesc} {k : D} {u : Value} {x : V} {xv : Value} (hk : V6 td k = true) (hu : k.key = some u) (hx : x.rep w ρ xv) (clk : Nat) : ∀ (es : List (D × V)) (l : List MapEntry) (i : Nat), Y2 w ρ es l → (∀ e ∈ es, D.alike k e.1 = true) →
  (Instr.findNow td u l i = some none ∧ Y2 w ρ (Xqe k x es) (l ++ [{ key := u, val := xv, born := clk }])) ∨ ∃ j e v, Instr.findNow td u l i = some (some (i + j, v)) ∧ l[j]? = some e ∧ e.key = u ∧ Y2 w ρ (Xqe k x es) (l.modify j fun e => { e with key := u, val := xv })
 | [], l, i, h, _ => by
  simp only [Y2] at h; subst h
  exact .inl ⟨rfl, ⟨_, [], rfl, hu, hx, rfl⟩⟩
 | (j, v) :: r, l, i, h, ha => by
  obtain ⟨e, l', rfl, h1, h2, h3⟩ := h
  have haj := ha (j, v) (by simp)
  have hs := Xej hk haj hu h1
  simp only [Instr.findNow, Xqe, hs]
  cases hsk : D.sameKey k j with
  | true =>
   refine .inr ⟨0, e, e.val, by simp, by simp, ?_, ?_⟩
   ·cases k <;> cases j <;> simp only [D.alike, Bool.false_eq_true, decide_eq_true_eq] at haj <;> simp only [D.sameKey, beq_iff_eq] at hsk <;> simp only [D.key, Option.some.injEq] at hu h1 <;> rw [← hu, ← h1] <;> simp_all
   ·simp only [if_true]
    exact ⟨_, l', rfl, hu, hx, h3⟩
  | false =>
   rcases X0x hk hu hx clk r l' (i + 1) h3 (fun x hx => ha x (by simp [hx])) with ⟨f1, f2⟩ | ⟨j', e', v', f1, f2, f3, f4⟩
   ·refine .inl ⟨by simpa using f1, ?_⟩
    exact ⟨e, _, rfl, h1, h2, f2⟩
   ·refine .inr ⟨j' + 1, e', v', by simp only [f1]; congr 3; omega, by simpa using f2, f3, ?_⟩
    exact ⟨e, _, rfl, h1, h2, f4⟩
theorem Xh2 {k : D} {u : Value} (h : k.key = some u) : Instr.sameBits 10000 u u = true := by
 cases k <;> simp only [D.key, Option.some.injEq, reduceCtorEq] at h
 ·subst h; show (_ == _ && _ == _) = true; simp
 ·subst h; show (_ == _) = true; simp
 ·subst h; show (_ == _) = true; rw [beq_toListBytes]; simp
theorem Xth (hs : SM w ρ sl a) (hO : OM w ρ ob) {op : Op} {kd : D} {m k v : A} (hc : I.chk P op (.mset kd m k v) = true) (h : Xcw ob kd (v.ev sl) K (m.ev sl) (k.ev sl)) : J4 P a w ρ op K Pn := by
 obtain ⟨t, x, i, y, hop, hty, hx, hi, hy⟩ : ∃ t x i y, (op = .mapUpdate t x i y ∨ op = .insert t x i y) ∧ (match P.underlying t with | some (.map kt _) => Um P kt kd | _ => false) = true ∧ A.chk x m = true ∧ A.chk i k = true ∧ A.chk y v = true := by
  cases op <;> simp only [I.chk, Bool.false_eq_true, Bool.and_eq_true] at hc
  ·rename_i t x i y; exact ⟨t, x, i, y, .inr rfl, hc.1.1.1, hc.1.1.2, hc.1.2, hc.2⟩
  ·rename_i t x i y; exact ⟨t, x, i, y, .inl rfl, hc.1.1.1, hc.1.1.2, hc.1.2, hc.2⟩
 obtain ⟨kt, et, ht, hkk⟩ : ∃ kt et, P.underlying t = some (.map kt et) ∧ Um P kt kd = true := by
  revert hty; split
  ·rename_i kt et h; intro h1; exact ⟨kt, et, h, h1⟩
  ·intro h; cases h
 obtain ⟨td, htd, hkd⟩ : ∃ td, P.underlying kt = some td ∧ V6 td kd = true := by
  unfold Um at hkk
  split at hkk
  ·rename_i d hd; exact ⟨d, hd, hkk⟩
  ·cases hkk
 have r1 := A.sound hs hx
 have r2 := A.sound hs hi
 have r3 := A.sound hs hy
 have keyRep : ∀ {d : D} {u v : Value}, d.key = some u → (V.d d).rep w ρ v → v = u := fun {d u v} h1 h2 => by
  cases d <;> simp only [D.key, Option.some.injEq, reduceCtorEq] at h1
  ·rw [Ya] at h2; rw [h2, ← h1]
  ·rw [rep_bool] at h2; rw [h2, ← h1]
  ·rw [rep_str] at h2; rw [h2, ← h1]
 unfold Xcw at h
 split at h
 ·rename_i id kk e1 e2
  rw [e1] at r1
  rw [e2] at r2
  unfold Jf at h
  split at h
  ·rename_i es hl
   obtain ⟨⟨ha0, hall⟩, hst, hK⟩ := h
   obtain ⟨b, l, clk, g1, g2, g3⟩ := hO.one id _ hl
   rw [Xsa] at r1
   rcases r1 with ⟨b', g4, r1⟩ | ⟨g4, _⟩
   ·rw [g1] at g4; cases g4
    have hkk' := Xaz hkd ha0
    obtain ⟨_, ku, _, hku⟩ := Xcb ha0
    have r2' := keyRep hku r2
    have hget : (getObj b).run P w = .ok (.map l.toArray clk) w := by simp [getObj, Sem.run, g2]
    rcases X0x hkk' hku r3 clk es l 0 g3 hall with ⟨f1, f2⟩ | ⟨j, e, v', f1, f2, f3, f4⟩
    ·obtain ⟨t1, o1⟩ := Xha (clk' := clk + 1) hO hl g1 g2 f2
     refine Xcy (fun o ho => ?_) hK o1 t1
     have hset : (setObj b (.map ((l ++ [(⟨ku, a.eval y, clk⟩ : MapEntry)]).toArray) (clk + 1))).run P w = .ok () (Xwx w b (.map ((l ++ [(⟨ku, a.eval y, clk⟩ : MapEntry)]).toArray) (clk + 1))) := by simp [setObj, Sem.run, g2, Xwx]
     rcases hop with rfl | rfl <;> simp [execOp, ho, Instr.mapUpdate, r1, r2', Xa ht, hget, Yk htd hkk', Yt htd f1] <;> (rw [hset]; simp)
    ·obtain ⟨t1, o1⟩ := Xha (clk' := clk) hO hl g1 g2 f4
     refine Xcy (fun o ho => ?_) hK o1 t1
     have hks : (Instr.keyThatStays e.key ku).run P w = .ok ku w := by simp [Instr.keyThatStays, f3, Xh2 hku]
     have hm : (l.toArray.modify j fun e => { e with key := ku, val := a.eval y }) = (l.modify j fun e => { e with key := ku, val := a.eval y }).toArray := by simp
     have hset : (setObj b (.map (l.modify j fun e => { e with key := ku, val := a.eval y }).toArray clk)).run P w = .ok () (Xwx w b (.map (l.modify j fun e => { e with key := ku, val := a.eval y }).toArray clk)) := by simp [setObj, Sem.run, g2, Xwx]
     have f1' : Instr.findNow td ku l 0 = some (some (j, v')) := by rw [f1]; simp
     rcases hop with rfl | rfl <;> simp [execOp, ho, Instr.mapUpdate, r1, r2', Xa ht, hget, Yk htd hkk', Yt htd f1', f2, hks] <;> (rw [hset]; simp)
   ·rw [g1] at g4; cases g4
  ·exact h.elim
 ·exact h.elim

theorem Xyw {P : Prg} (hg : ρ.gl = P.g) (hO : OM w ρ ob) {op : Op} {g n : Nat} {ag : Bool} {x : D} (hc : I.chk P.p op (.gld g n ag x) = true) (h : GlobIs P g x ∧ x.sz = n ∧ (V.d x).isAgg = ag ∧ K (.d x) ob) : J4 P.p a w ρ op K Pn := by
 obtain ⟨t, hop, h1, h2, h3⟩ : ∃ t, op = .load t (.global g) ∧ X8 P.p t = some n ∧ (P.p.underlying t).isSome = true ∧ agT P.p t = ag := by
  simp only [I.chk] at hc
  split at hc
  ·rename_i t hh
   simp only [Bool.and_eq_true, beq_iff_eq] at hc
   obtain ⟨⟨⟨rfl, h1⟩, h2⟩, h3⟩ := hc
   exact ⟨t, rfl, h1, h2, h3⟩
  ·cases hc
 obtain ⟨⟨cs, T, f, hgl, hx⟩, hsz, hag, hK⟩ := h
 obtain ⟨hh, hno⟩ := hO.glb g _ (by rw [hg]; exact hgl)
 have hrep : x.rep w (own ρ) cs := D.isC_rep x cs hx
 have hr : (V.d (.ref x)).rep w ρ (.pointer (some ⟨g, 0, none⟩)) := Qw.2 ⟨⟨g, 0, none⟩, cs, rfl, rfl, ⟨fun _ => ⟨rfl, hno, Xu hh⟩, fun i hi => by simp [World.cell?, hh, hi]⟩, hrep⟩
 let a2 : Act := ⟨#[.pointer (some ⟨g, 0, none⟩)], []⟩
 have hs2 : SM w ρ [(0, .d (.ref x))] a2 := by
  intro k
  simp only [look]
  split
  ·rename_i e; subst e; exact hr
  ·exact Xf1
 obtain ⟨v, y, hK2, hr2, hrun⟩ := Xb0 (P := P.p) (K := fun v => v = V.d x) (a := a2) (n := n) (ag := ag) (x := .t 0) (op := .load t (.tmp 0)) hs2 hO (by simp [C.chk, h1, h2, h3, A.chk]) (by simp [A.ev, look, ldK, hsz, hag])
 subst hK2
 refine Xr (fun o ho => ?_) hK hr2 hO (Tr.refl _ _)
 have := hrun ⟨none, .load t (.tmp 0), 0, "", #[], none⟩ rfl w (fun _ => Ext.refl w)
 simp only [execOp, Act.eval, a2] at this
 simp only [execOp, ho, hop, Act.eval]
 simpa using this

theorem Xy6 (hs : SM w ρ sl a) (hO : OM w ρ ob) {op : Op} {n z : Nat} {x : A} (hc : I.chk P op (.slg n z x) = true) (h : X1d ob n z K (x.ev sl)) : J4 P a w ρ op K Pn := by
 obtain ⟨t, x1, e, hop, ht, he, hx⟩ : ∃ t x1 e, op = .slice t x1 none none none ∧ P.underlying t = some (.array n e) ∧ X8 P e = some z ∧ A.chk x1 x = true := by
  simp only [I.chk] at hc
  split at hc
  ·rename_i t x1
   simp only [Bool.and_eq_true] at hc
   obtain ⟨h0, h1⟩ := hc
   split at h0
   ·rename_i m e hu
    simp only [Bool.and_eq_true, beq_iff_eq] at h0
    obtain ⟨rfl, h0⟩ := h0
    exact ⟨t, x1, e, rfl, hu, h0, h1⟩
   ·cases h0
  ·cases hc
 have r1 := A.sound hs hx
 unfold X1d at h
 split at h
 ·rename_i id p e1
  rw [e1] at r1
  unfold Xot at h
  split at h
  ·rename_i xs hat
   obtain ⟨hl, hz, hK⟩ := h
   obtain ⟨t0, b', cs, E, g1, g2, g3, g4, g5⟩ := Xd4 hO hat
   obtain ⟨b, sh, hρ, r1⟩ := rep_ptr_box hO g1 r1
   rw [hρ] at g3
   simp only [Option.some.injEq, RO.box.injEq] at g3
   obtain ⟨rfl, rfl⟩ := g3
   obtain ⟨t1, o1, hno⟩ := Xjj hO (id := id) ⟨_, g1⟩
   obtain ⟨c1, c2, c3, q1, q2, q3⟩ := V.repC_at p t0 _ cs g5 g2
   simp only [V.repC, D.rep] at q3
   refine Xr (v := .slice (some ⟨b, t0.shape.off p, none⟩) n n) (fun o ho => ?_) hK ?_ o1 t1
   ·simp only [execOp, ho, hop, r1, Option.map_none, Instr.sliceAt, Sem.run_bind, Xa ht, Result.andThen_ok, Instr.sureAddr, Sem.run_pure, Instr.sliceBounds, Xz he]
    simp only [Nat.zero_mul, Nat.sub_zero]
    rw [Addr.add_eq rfl]
    simp
   ·rw [Yr]
    refine .inr ⟨⟨b, t0.shape.off p, none⟩, n, c2, by rw [hl], by omega, ⟨fun _ => ⟨rfl, hno b _ hρ rfl, Xu g4⟩, fun i hi => ?_⟩, D.repL_mono t1.mono _ _ q3, hz⟩
    rw [← q2]
    simp [World.cell?, g4, q1, List.getElem?_append, hi]
  ·exact h.elim
 ·exact h.elim

theorem I.sound {P : Prg} (hg : ρ.gl = P.g) (hs : SM w ρ sl a) (hO : OM w ρ ob) {op : Op} : ∀ {i : I}, i.chk P.p op = true → i.wp P sl ob K Pn → J4 P.p a w ρ op K Pn
 | .c _, hc, h => X91 hs hO hc h
 | .box _ _, hc, h => (Xg1 hs hO hc h).does
 | .alloc _ _, hc, h => (Xdc hO hc h).does
 | .bls _ _ _, hc, h => (Xob hs hO hc h).does hO
 | .blo _ _ _ _, hc, h => (Xhv hs hO hc h).does
 | .st _ _ _, hc, h => X2c hs hO hc h
 | .app _ _ _ _ _, hc, h => Xyq hs hO hc h
 | .appS _ _ _ _, hc, h => Xr0 hs hO hc h
 | .call _ _, hc, h => Xvu hg hs hO hc h
 | .pcall _ _, hc, h => (Xck hg hs hO hc h).does hO
 | .callv _ _, hc, h => Xow hg hs hO hc h
 | .panic _, hc, h => Xoq hs hO hc h
 | .b2s _, hc, h => Xxo hs hO hc h
 | .s2b _, hc, h => (Xm5 hs hO hc h).does hO
 | .nilo _ _ _, hc, h => Xtb hs hO hc h
 | .mvf _, hc, h => Xyf hs hO hc h
 | .ldf _ _ _, hc, h => Xyb hs hO hc h
 | .mvg _ _ _ _ _, hc, h => Xy9 hs hO hc h
 | .mvn _ _ _, hc, h => Xyz hs hO hc h
 | .cvb _, hc, h => Xxn hs hO hc h
 | .ustr _ _ _, hc, h => Xtc hs hO hc h
 | .mkm _, hc, h => Xyv hs hO hc h
 | .lkp _ _ _ _ _, hc, h => Xzf hs hO hc h
 | .mset _ _ _ _, hc, h => Xth hs hO hc h
 | .gld _ _ _ _, hc, h => Xyw hg hO hc h
 | .slg _ _ _, hc, h => Xy6 hs hO hc h

def I.kind : I → Nat
 | .c cc => if cc.isLd then 1 else 0
 | .bls _ _ _ | .s2b _ | .pcall _ _ => 2
 | .box _ _ | .alloc _ _ | .blo _ _ _ _ => 4
 | _ => 3

theorem I.soundE {P : Prg} (hg : ρ.gl = P.g) (hs : SM w ρ sl a) (hO : OM w ρ ob) {op : Op} : ∀ {i : I}, i.kind = 2 → i.chk P.p op = true → i.wp P sl ob K Pn → Xvd P.p a w ρ op ob K
 | .bls _ _ _, _, hc, h => (Xob hs hO hc h).doesE
 | .s2b _, _, hc, h => (Xm5 hs hO hc h).doesE
 | .pcall _ _, _, hc, h => Xck hg hs hO hc h
 | .c cc, hk, _, _ => by simp only [I.kind] at hk; split at hk <;> cases hk
 | .box _ _, hk, _, _ | .alloc _ _, hk, _, _ | .blo _ _ _ _, hk, _, _ | .st _ _ _, hk, _, _ | .app _ _ _ _ _, hk, _, _ | .appS _ _ _ _, hk, _, _ | .call _ _, hk, _, _ | .callv _ _, hk, _, _ | .panic _, hk, _, _ | .b2s _, hk, _, _ | .nilo _ _ _, hk, _, _ | .mvf _, hk, _, _ | .ldf _ _ _, hk, _, _ | .mvg _ _ _ _ _, hk, _, _ | .mvn _ _ _, hk, _, _ | .cvb _, hk, _, _ | .ustr _ _ _, hk, _, _ | .mkm _, hk, _, _ | .lkp _ _ _ _ _, hk, _, _ | .mset _ _ _ _, hk, _, _ | .gld _ _ _ _, hk, _, _ | .slg _ _ _, hk, _, _ => by simp [I.kind] at hk
theorem I.soundX (hs : SM w ρ sl a) (hO : OM w ρ ob) {Q : Prg} {op : Op} : ∀ {i : I}, i.kind = 4 → i.chk P op = true → i.wp Q sl ob K Pn → Xmz P a w ρ op K
 | .box _ _, _, hc, h => Xg1 hs hO hc h
 | .alloc _ _, _, hc, h => Xdc hO hc h
 | .blo _ _ _ _, _, hc, h => Xhv hs hO hc h
 | .c cc, hk, _, _ => by simp only [I.kind] at hk; split at hk <;> cases hk
 | .bls _ _ _, hk, _, _ | .s2b _, hk, _, _ | .pcall _ _, hk, _, _ | .st _ _ _, hk, _, _ | .app _ _ _ _ _, hk, _, _ | .appS _ _ _ _, hk, _, _ | .call _ _, hk, _, _ | .callv _ _, hk, _, _ | .panic _, hk, _, _ | .b2s _, hk, _, _ | .nilo _ _ _, hk, _, _ | .mvf _, hk, _, _ | .ldf _ _ _, hk, _, _ | .mvg _ _ _ _ _, hk, _, _ | .mvn _ _ _, hk, _, _ | .cvb _, hk, _, _ | .ustr _ _ _, hk, _, _ | .mkm _, hk, _, _ | .lkp _ _ _ _ _, hk, _, _ | .mset _ _ _ _, hk, _, _ | .gld _ _ _ _, hk, _, _ | .slg _ _ _, hk, _, _ => by simp [I.kind] at hk
end
end Go.Ab
/- Regions that draw their order: which operations may be taken first. Over any program; no condition. -/
namespace Go.Ab
open Go
section
variable {P : Program} {ops : Array Oper} {Q : Exit → Act → World → Prop} {md : Region.Mode} {R : World → World → Prop} {tl : Nat → Bool}

def Wt (P : Program) (md : Region.Mode) (ops : Array Oper) (Q : Exit → Act → World → Prop) (R : World → World → Prop) (tl : Nat → Bool) : Nat → Array Bool → Act → World → Prop
 | 0, listed, a, w => Region.ready md ops listed = [] ∧ Q .normal a w
 | fuel + 1, listed, a, w =>
  (Region.ready md ops listed = [] → Q .normal a w) ∧
  ∀ i ∈ Region.ready md ops listed, wpOp P ops Q i (fun a' w' => (tl i = false → R w w') ∧ Wt P md ops Q R tl fuel (listed.setIfInBounds i true) a' w') a w

theorem Xap : ∀ (fuel : Nat) (listed : Array Bool) (a : Act) (w : World), Wt P md ops Q R tl fuel listed a w → wpAny P md ops Q fuel listed a w
 | 0, _, _, _, h => h
 | fuel + 1, _, _, _, h => ⟨h.1, fun i hi => wpOp_mono (fun a' w' h' => Xap fuel _ a' w' h'.2) (h.2 i hi)⟩

def Xba (md : Region.Mode) (ops : Array Oper) (listed : Array Bool) : Prop :=
 ∀ k o, ops[k]? = some o → listed.getD k false = true → ∀ e ∈ o.after, Region.binds md e = true → listed.getD e.on false = true

theorem Xba.step {listed : Array Bool} (h : Xba md ops listed) {j : Nat} (hj : j ∈ Region.ready md ops listed) : Xba md ops (listed.setIfInBounds j true) := by
 obtain ⟨_, oj, hoj, hall⟩ := mem_ready.1 hj
 intro k o hk hl e he hb
 by_cases hjk : j = k
 ·subst hjk
  rw [hoj] at hk; simp at hk; subst hk
  exact getD_set_true (hall e he hb)
 ·rw [getD_set_ne false hjk] at hl
  exact getD_set_true (h k o hk hl e he hb)

def Xbo (md : Region.Mode) (ops : Array Oper) (i : Nat) : Nat → Nat → Bool
 | 0, _ => false
 | fuel + 1, j => match ops[j]? with
  | some o => o.after.any fun e => Region.binds md e && (e.on == i || Xbo md ops i fuel e.on)
  | none => false

theorem Xa7 {listed : Array Bool} (hc : Xba md ops listed) {i : Nat} : ∀ (fuel k : Nat), Xbo md ops i fuel k = true → listed.getD k false = true → listed.getD i false = true
 | 0, k, h, _ => by simp [Xbo] at h
 | fuel + 1, k, h, hl => by
  simp only [Xbo] at h
  split at h
  ·rename_i o ho
   rw [Array.any_eq_true'] at h
   obtain ⟨e, he, h⟩ := h
   simp only [Bool.and_eq_true, Bool.or_eq_true, beq_iff_eq] at h
   have h1 := hc k o ho hl e he h.1
   rcases h.2 with h2 | h2
   ·rw [← h2]; exact h1
   ·exact Xa7 hc fuel e.on h2 h1
  ·simp at h

theorem Q1 {listed : Array Bool} (hc : Xba md ops listed) {i j fuel : Nat} (hi : listed.getD i true = false) (h : Xbo md ops i fuel j = true) : j ∉ Region.ready md ops listed := by
 intro hj
 obtain ⟨_, o, ho, hall⟩ := mem_ready.1 hj
 cases fuel with
 | zero => simp [Xbo] at h
 | succ fuel =>
  simp only [Xbo, ho] at h
  rw [Array.any_eq_true'] at h
  obtain ⟨e, he, h⟩ := h
  simp only [Bool.and_eq_true, Bool.or_eq_true, beq_iff_eq] at h
  have h1 := hall e he h.1
  have hli : listed.getD i false = true := by
   rcases h.2 with h2 | h2
   ·rw [← h2]; exact h1
   ·exact Xa7 hc fuel e.on h2 h1
  rcases Nat.lt_or_ge i listed.size with h' | h'
  ·simp [h'] at hi hli; rw [hi] at hli; cases hli
  ·simp [Array.getElem?_eq_none h'] at hli

theorem Xp3 {S S' : World → Prop} {o : Oper} {v : Value} {a : Act} (h : YieldsIf P ops S o v a) (hs : ∀ w, S' w → S w) : YieldsIf P ops S' o v a :=
 h.imp (fun ⟨h1, h2⟩ => ⟨h1, fun w hw => h2 w (hs w hw)⟩) id

theorem W1 (hrefl : ∀ w, R w w) (htrans : ∀ u v w, R u v → R v w → R u w) {l : Bool} {i : Nat} {oi : Oper} {v : Value} (hi : ops[i]? = some oi) (hsel : ∀ (j : Nat) (o : Oper) cs b, ops[j]? = some o → o.op ≠ .select cs b)
  (hQ : ∀ c a w, Q (.panic c) (a.put oi.dst v) w → Q (.panic c) a w) (hl : l = true → ∀ j, j < ops.size → tl j = true → j ≠ i → ∃ fuel, Xbo md ops i fuel j = true) :
  ∀ (fuel : Nat) (listed : Array Bool) (a : Act) (w : World), Xba md ops listed →
   (∀ j oj, ops[j]? = some oj → j ≠ i → listed.getD j true = false → (∀ e ∈ oj.after, Region.binds md e = true → e.on ≠ i) → oi.apart ops oj = true) →
   i ∈ Region.ready md ops listed → YieldsIf P ops (fun w' => l = true → R w w') oi v a →
   Wt P md ops Q R tl fuel (listed.setIfInBounds i true) (a.put oi.dst v) w → Wt P md ops Q R tl (fuel + 1) listed a w := by
 intro fuel
 induction fuel with
 | zero =>
  intro listed a w _ _ hr hy H
  refine ⟨fun h => (by rw [h] at hr; cases hr), fun j hj => ?_⟩
  by_cases hji : j = i
  ·subst hji; exact hy.wpOp hi (fun _ => hrefl w) ⟨fun _ => hrefl w, H⟩
  ·have := ready_mono hj hji
   rw [H.1] at this
   cases this
 | succ fuel ih =>
  intro listed a w hcl hfree hr hy H
  refine ⟨fun h => (by rw [h] at hr; cases hr), fun j hj => ?_⟩
  by_cases hji : j = i
  ·subst hji; exact hy.wpOp hi (fun _ => hrefl w) ⟨fun _ => hrefl w, H⟩
  ·have h1 := H.2 j (ready_mono hj hji)
   obtain ⟨hjun, oj, hoj, hall⟩ := mem_ready.1 hj
   have hiun := (mem_ready.1 hr).1
   have hnot : ∀ e ∈ oj.after, Region.binds md e = true → e.on ≠ i := fun e he hb heq => by
    have h1 := hall e he hb
    rw [heq] at h1
    rcases Nat.lt_or_ge i listed.size with h' | h'
    ·simp [h'] at hiun h1; rw [hiun] at h1; cases h1
    ·simp [Array.getElem?_eq_none h'] at h1
   have h2 := wpOp_putIf hoj (hfree j oj hoj hji hjun hnot) (fun cs b => hsel i oi cs b hi) (fun cs b => hsel j oj cs b hoj) hQ hy h1
   have hfree' : ∀ k ok, ops[k]? = some ok → k ≠ i → (listed.setIfInBounds j true).getD k true = false →
     (∀ e ∈ ok.after, Region.binds md e = true → e.on ≠ i) → oi.apart ops ok = true := fun k ok hk hki hun hno => by
    refine hfree k ok hk hki ?_ hno
    by_cases hjk : j = k
    ·subst hjk; exact hjun
    ·rw [getD_set_ne true hjk] at hun; exact hun
   refine wpOp_mono (fun a' w' h3 => ⟨h3.2.1, ih (listed.setIfInBounds j true) a' w' (hcl.step hj) hfree' (ready_mono hr (Ne.symm hji)) (Xp3 h3.1 fun w'' h4 h5 => ?_) ?_⟩) h2
   ·have hR : R w w' := by
     refine h3.2.1 ?_
     cases ht : tl j with
     | false => rfl
     | true =>
      obtain ⟨fl, hw⟩ := hl h5 j (Array.getElem?_eq_some_iff.1 hoj).1 ht hji
      exact absurd hj (Q1 hcl hiun hw)
    exact htrans _ _ _ hR (h4 h5)
   ·rw [Array.setIfInBounds_comm _ _ hji]
    exact h3.2.2
end
end Go.Ab
