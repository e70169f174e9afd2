/- Texts of this claim joined by a program, part 4 of 15; the last is: The equations by which folded statements are walked. Over any program; no condition. -/
import Derived.Test.YtmapdjjigmkbfaaGreatDoorD3
import Derived.IntWalk
set_option linter.unusedSimpArgs false
set_option linter.unusedVariables false
set_option linter.unusedSectionVars false
set_option linter.defProp false
/- Functions: what is shown of a body is a fact on the call. Over any program; no condition. -/
namespace Go.Ab
open Go

inductive RV where
 | t (k : Nat)
 | c (k n : Nat) (ag : Bool)

def RV.chk (P : Program) : ResultVar → RV → Bool
 | .tmp j, .t k => j == k
 | .cell a ty, .c k n ag => a == k && Xt P ty == some n && (P.underlying ty).isSome && agT P ty == ag
 | _, _ => false
def Ub (P : Program) : List ResultVar → List RV → Bool
 | [], [] => true
 | x :: r, y :: s => y.chk P x && Ub P r s
 | _, _ => false

def RV.wp (sl : Xb) (ob : Objs) (K : V → Prop) : RV → Prop
 | .t k => K (look sl k)
 | .c k n ag => ldK ob n ag K (look sl k)
def Wg (sl : Xb) (ob : Objs) : List RV → (List V → Prop) → Prop
 | [], K => K []
 | x :: r, K => x.wp sl ob fun v => Wg sl ob r fun vs => K (v :: vs)

def W5 : List V → V
 | [v] => v
 | vs => .tup vs

def Z6 (K : List D → Objs → Prop) : Option (List D × Objs) → Prop
 | some (l, ob) => K l ob
 | none => False

def Xa9 (rs : List RV) (K : V → Prop) : Z5
 | .normal, sl, ob => Wg sl ob rs fun vs => Z6 (fun l _ => K (W5 (l.map .d))) (V.givs ob vs)
 | .ret, sl, ob => Wg sl ob rs fun vs => Z6 (fun l _ => K (W5 (l.map .d))) (V.givs ob vs)
 | .exit _, _, _ => False
 | .panic _, _, _ => False

def gvO (v : V) (ob : Objs) (K : V → Objs → Prop) : Option (D × Objs) → Prop
 | some (d, ob') => K (.d d) ob'
 | none => K v ob
def Xds : List V → Objs → (List V → Objs → Prop) → Prop
 | [], ob, K => K [] ob
 | v :: r, ob, K => gvO v ob (fun v' ob' => Xds r ob' fun vs ob'' => K (v' :: vs) ob'') (V.giv ob v)
def X0 (n : Nat) (K : Objs → Prop) (vs : List V) (ob : Objs) : Prop :=
 ∃ kp : List Nat, V.mens (young n kp) vs = false ∧ noMenO (young n kp) (Yt (young n kp) ob) = true ∧ K (Yt (young n kp) ob)
def Zy (n : Nat) (rs : List RV) (K : Out → Objs → Prop) : Z5
 | .normal, sl, ob => Wg sl ob rs fun vs => Xds vs ob fun vs ob => X0 n (K (.ret (W5 vs))) vs ob
 | .ret, sl, ob => Wg sl ob rs fun vs => Xds vs ob fun vs ob => X0 n (K (.ret (W5 vs))) vs ob
 | .panic v, _, ob => X0 n (K (.panic v)) [v] ob
 | .exit _, _, _ => False

def Qe (k : Nat) : List V → Xb
 | [] => []
 | v :: r => (k, v) :: Qe (k + 1) r

def Xx (P : Program) (f n : Nat) (s : S) (rs : List RV) : Bool := match P.funcs[f]? with
 | some fn => match fn.body with
  | some code => decide (n ≤ fn.ntmps) && S.chk P fn.ntmps code s && Ub P fn.results.toList rs
  | none => false
 | none => false

section
variable {P : Program} {w : World} {ρ : Env}

def Xcz (a : Act) (r : ResultVar) : Sem Value := match r with
 | .tmp t => pure (a.tmps.getD t undef)
 | .cell x t => do loadVar t (← asAddr (a.tmps.getD x undef))

theorem Xgu {a : Act} {sl : Xb} {ob : Objs} (hs : SM w ρ sl a) (hO : OM w ρ ob) : ∀ (xs : List ResultVar) (rs : List RV) (K : List V → Prop), Ub P xs rs = true → Wg sl ob rs K →
  ∃ vs us, K vs ∧ V.reps w ρ vs us ∧ (xs.mapM (Xcz a)).run P w = .ok us w
 | [], [], K, _, h => ⟨[], [], h, by simp [V.reps], by simp⟩
 | x :: r, y :: s, K, hc, h => by
  simp only [Ub, Bool.and_eq_true] at hc
  simp only [Wg] at h
  have one : ∃ v u, Wg sl ob s (fun vs => K (v :: vs)) ∧ v.rep w ρ u ∧ (Xcz a x).run P w = .ok u w := by
   cases x with
   | tmp t =>
    cases y with
    | t k => simp [RV.chk] at hc; obtain ⟨rfl, _⟩ := hc; exact ⟨_, _, h, hs t, by simp [Xcz]⟩
    | c k n ag => simp [RV.chk] at hc
   | cell z t =>
    cases y with
    | t k => simp [RV.chk] at hc
    | c k n ag =>
     simp only [RV.chk, Bool.and_eq_true, beq_iff_eq] at hc
     obtain ⟨⟨⟨⟨rfl, h1⟩, h2⟩, h3⟩, _⟩ := hc
     simp only [RV.wp] at h
     obtain ⟨v, y, hK, hr, hrun⟩ := Xag (P := P) (a := a) (n := n) (ag := ag) (x := .t z) (op := .load t (.tmp z)) hs hO (by simp [C.chk, h1, h2, h3, A.chk]) (by simpa [A.ev] using h)
     refine ⟨y, v, hK, hr, ?_⟩
     have := hrun ⟨none, .load t (.tmp z), 0, "", #[], none⟩ rfl w (fun _ => Ext.refl w)
     simp only [execOp, Act.eval, Sem.run_bind, Instr.loadAt] at this
     simp only [Xcz, Sem.run_bind]
     generalize hv : a.tmps.getD z undef = pv at *
     cases pv with
     | pointer ad =>
      cases ad with
      | none => simp [Instr.sureAddr] at this
      | some ad =>
       simp only [Instr.sureAddr, Sem.run_pure, Result.andThen_ok] at this
       simp only [asAddr, Sem.run_pure, Result.andThen_ok]
       revert this
       generalize (loadVar t ad).run P w = res
       intro this
       cases res with
       | ok x w' => simp at this; obtain ⟨rfl, rfl⟩ := this; rfl
       | halt x w' => simp at this
     | _ => simp [Instr.sureAddr] at this
  obtain ⟨v, u, h1, h2, h3⟩ := one
  obtain ⟨vs, us, k, h4, h5⟩ := Xgu hs hO r s _ hc.2 h1
  refine ⟨v :: vs, u :: us, k, ?_, ?_⟩
  ·simp only [V.reps]; exact ⟨u, us, rfl, h2, h4⟩
  ·simp only [List.mapM_cons, Sem.run_bind, h3, Result.andThen_ok, h5, Sem.run_pure]
 | [], _ :: _, _, hc, _ => by simp [Ub] at hc
 | _ :: _, [], _, hc, _ => by simp [Ub] at hc

def Xq3 : List Value → Value
 | [u] => u
 | us => .tuple us.toArray

theorem W4 {fn : Func} {a : Act} {sl : Xb} {ob : Objs} {rs : List RV} {K : List V → Prop} (hs : SM w ρ sl a) (hO : OM w ρ ob) (hc : Ub P fn.results.toList rs = true) (h : Wg sl ob rs K) :
  ∃ vs us, K vs ∧ V.reps w ρ vs us ∧ (results fn a.tmps).run P w = .ok (Xq3 us) w := by
 obtain ⟨vs, us, k, h1, h2⟩ := Xgu (P := P) hs hO _ _ _ hc h
 refine ⟨vs, us, k, h1, ?_⟩
 have h3 : (fn.results.mapM (Xcz a)).run P w = .ok us.toArray w := by
  rw [Array.mapM_eq_mapM_toList]
  simp only [Sem.run_map, h2, Result.andThen_ok]
 have h4 : results fn a.tmps = (fn.results.mapM (Xcz a) >>= fun vs => pure (if h : vs.size = 1 then vs[0] else .tuple vs)) := rfl
 rw [h4, Sem.run_bind]
 simp only [h3, Result.andThen_ok, Sem.run_pure]
 congr 1
 cases us with
 | nil => simp [Xq3]
 | cons u r =>
  cases r with
  | nil => simp [Xq3]
  | cons u' r' => simp [Xq3]

theorem Qb {vs : List V} {us : List Value} (h : V.reps w ρ vs us) : (W5 vs).rep w ρ (Xq3 us) := by
 cases vs with
 | nil =>
  simp only [V.reps] at h; subst h
  rw [show W5 [] = .tup [] from rfl, rep_tup]; exact ⟨[], rfl, by simp [V.reps]⟩
 | cons v r =>
  simp only [V.reps] at h
  obtain ⟨u, us', rfl, h1, h2⟩ := h
  cases r with
  | nil => simp only [V.reps] at h2; subst h2; exact h1
  | cons v' r' =>
   have h2' := h2
   simp only [V.reps] at h2
   obtain ⟨u', us'', rfl, h3, h4⟩ := h2
   show (V.tup _).rep w ρ _
   rw [rep_tup]
   refine ⟨_, rfl, ?_⟩
   simp only [V.reps]
   exact ⟨u, _, rfl, h1, u', us'', rfl, h3, h4⟩

theorem Qq : ∀ (vs : List V) (us : List Value) {ρ : Env} {ob ob' : Objs} {l : List D}, OM w ρ ob → V.reps w ρ vs us → V.givs ob vs = some (l, ob') → ∃ ρ', Tr w ρ w ρ' ∧ OM w ρ' ob' ∧ V.reps w ρ' (l.map .d) us
 | [], us, ρ, ob, ob', l, hO, h, e => by
  simp only [V.givs, Option.some.injEq, Prod.mk.injEq] at e
  obtain ⟨rfl, rfl⟩ := e
  exact ⟨ρ, Tr.refl _ _, hO, by simpa only [List.map_nil, V.reps] using h⟩
 | x :: r, us, ρ, ob, ob', l, hO, h, e => by
  simp only [V.givs] at e
  simp only [V.reps] at h
  obtain ⟨u, us', rfl, h1, h2⟩ := h
  split at e
  ·rename_i dd ob1 hg
   obtain ⟨ρ1, t1, o1, hr⟩ := J3 hO (u := u) h1 hg
   cases hg2 : V.givs ob1 r with
   | none => simp [hg2, Jp] at e
   | some q =>
    obtain ⟨l2, ob2⟩ := q
    simp only [hg2, Jp, Option.some.injEq, Prod.mk.injEq] at e
    obtain ⟨rfl, rfl⟩ := e
    obtain ⟨ρ2, t2, o2, hr2⟩ := Qq r us' o1 (V.reps_tr t1 _ _ h2) hg2
    exact ⟨ρ2, t1.trans t2, o2, by simp only [List.map_cons, V.reps]; exact ⟨u, us', rfl, V.rep_tr t2 hr, hr2⟩⟩
  ·cases e
theorem Xaw : ∀ (vs : List V) (us : List Value) {ρ : Env} {ob : Objs} {K : List V → Objs → Prop}, OM w ρ ob → V.reps w ρ vs us → Xds vs ob K → ∃ vs' ob' ρ', K vs' ob' ∧ Tr w ρ w ρ' ∧ OM w ρ' ob' ∧ V.reps w ρ' vs' us
 | [], us, ρ, ob, K, hO, h, e => by
  simp only [Xds] at e
  exact ⟨[], ob, ρ, e, Tr.refl _ _, hO, h⟩
 | x :: r, us, ρ, ob, K, hO, h, e => by
  simp only [Xds] at e
  simp only [V.reps] at h
  obtain ⟨u, us', rfl, h1, h2⟩ := h
  cases hg : V.giv ob x with
  | none =>
   simp only [hg, gvO] at e
   obtain ⟨vs', ob', ρ', k, t, o, hr⟩ := Xaw r us' hO h2 e
   exact ⟨_, ob', ρ', k, t, o, by simp only [V.reps]; exact ⟨u, us', rfl, V.rep_tr (u := u) t h1, hr⟩⟩
  | some q =>
   obtain ⟨dd, ob1⟩ := q
   simp only [hg, gvO] at e
   obtain ⟨ρ1, t1, o1, hr⟩ := J3 hO (u := u) h1 hg
   obtain ⟨vs', ob', ρ', k, t, o, hr2⟩ := Xaw r us' o1 (V.reps_tr t1 _ _ h2) e
   exact ⟨_, ob', ρ', k, t1.trans t, o, by simp only [V.reps]; exact ⟨u, us', rfl, V.rep_tr t hr, hr2⟩⟩

theorem Ul {vs : List V} {us : List Value} (h : V.reps w ρ vs us) : ∀ (k : Nat) (t : Array Value), (∀ i (hi : i < us.length), t.getD (k + i) undef = us[i]) → ∀ j, (look (Qe k vs) j).rep w ρ (t.getD j undef) := by
 induction vs generalizing us with
 | nil => intro k t _ j; exact Xbb
 | cons v r ih =>
  simp only [V.reps] at h
  obtain ⟨u, us', rfl, h1, h2⟩ := h
  intro k t ht j
  simp only [Qe, look]
  split
  ·rename_i e; subst e
   have := ht 0 (by simp)
   simp only [Nat.add_zero, List.getElem_cons_zero] at this
   rw [this]; exact h1
  ·refine ih h2 (k + 1) t (fun i hi => ?_) j
   have := ht (i + 1) (by simpa using hi)
   simp only [List.getElem_cons_succ] at this
   rw [← this]; congr 1; omega

theorem Ve {ρ1 : Env} (mo : Xe1 w (own ρ) w (own ρ1)) : ∀ (vs : List V) (us : List Value) (ds : List D), vs = ds.map .d → V.reps w ρ vs us → V.reps w ρ1 vs us
 | [], us, ds, _, h => by simpa [V.reps] using h
 | v :: r, us, [], e, h => by simp at e
 | v :: r, us, d :: ds, e, h => by
  simp only [List.map_cons, List.cons.injEq] at e
  obtain ⟨rfl, e⟩ := e
  simp only [V.reps] at h ⊢
  obtain ⟨u, us', rfl, h1, h2⟩ := h
  refine ⟨u, us', rfl, ?_, Ve mo r us' ds e h2⟩
  rcases h1 with h1 | ⟨p, x, q, r⟩ | ⟨p, r⟩
  ·cases h1
  ·exact .inr (.inl ⟨p, x, q, by simp only [V.repC] at r ⊢; exact D.rep_mono mo d x r⟩)
  ·exact .inr (.inr ⟨p, by simp only [V.repC] at r ⊢; exact D.rep_mono mo d _ r⟩)

theorem Ze : ∀ {vs : List V} {us : List Value}, V.reps w ρ vs us → us.length = vs.length
 | [], us, h => by simp [V.reps] at h; simp [h]
 | v :: r, us, h => by
  simp only [V.reps] at h
  obtain ⟨u, us', rfl, _, h2⟩ := h
  simp [Ze h2]

theorem Xcy {P : Prg} (hm : P.p.follows .mixedOrders = true) {f : Nat} {s : S} {rs : List RV} {ds : List D} {ob0 : Objs} {K : V → Prop} (hc : Xx P.p f ds.length s rs = true)
  (h : cwp P s (Xa9 rs K) (Qe 0 (ds.map .d)) []) : PCall P f (ds.map .d) ob0 K := by
 unfold Xx at hc
 split at hc
 ·rename_i fn hf
  split at hc
  ·rename_i code hb
   simp only [Bool.and_eq_true, decide_eq_true_eq] at hc
   obtain ⟨⟨hn, h1⟩, h2⟩ := hc
   refine ⟨fun w ρ args hO hg hr => calls_of_wp hf hb ?_⟩
   let ρ0 : Env := ⟨fun _ => none, own ρ, ρ.gl⟩
   let c : Ctx := ⟨w, fun _ => False, fn.ntmps, [], P.g, fun _ => none, []⟩
   have hnone : ∀ b, ¬ Xk5 ρ0 b := fun b ⟨_, _, h, _⟩ => by cases h
   have hlt : ∀ b, own ρ b → b < w.heap.size := fun b h => h.elim (fun ⟨_, _, h1, h2⟩ => Vl hO h1 h2) (hO.xlt b)
   have mo : Xe1 w (own ρ) w (own ρ0) := fun b h1 _ => ⟨rfl, fun h2 => h2.elim (hnone b) h1⟩
   have hr0 := Ve mo _ _ ds rfl hr
   have hlen : args.length = ds.length := by simpa using Ze hr
   have m : Mod c (own ρ) ρ0 (Qe 0 (ds.map .d)) [] { tmps := args.toArray ++ Array.replicate (fn.ntmps - args.toArray.size) undef, defers := [] } w := by
    refine ⟨⟨Nat.le_refl _, fun _ _ _ => rfl, fun b h => absurd h (hnone b), rfl, rfl, rfl, (fun id o h => by cases h), (fun p hp => by cases hp)⟩, ⟨fun j x hx => (by simp [lookO] at hx), fun j o hj => (by cases hj), fun i j o p b hi => (by cases hi), fun b hb => hlt b hb, fun b o hb => ⟨(hO.glb b o hb).1, fun h => h.elim (hnone b) (hO.glb b o hb).2⟩, fun b hb => absurd hb (hnone b), trivial⟩, ?_, ?_, rfl, rfl, hg⟩
    ·refine Ul hr0 0 _ (fun i hi => ?_)
     simp [Array.getElem?_append, hi]
    ·simp [c]; omega
   refine wp_mono (Ya hm rfl code s _ _ _ ρ0 _ w h1 h m) ?_
   rintro e a' w' ⟨ae, sl', ob', ρ', hq, he, m'⟩
   have hfin : Wg sl' ob' rs (fun vs => Z6 (fun l _ => K (W5 (l.map .d))) (V.givs ob' vs)) → a'.defers = [] ∧ ∃ v, (results fn a'.tmps).run P.p w' = .ok v w' ∧ ∃ x u, K x ∧ Ending.returned v = .returned u ∧ x.rep w' ρ u ∧ Ext w w' := by
    intro hq
    obtain ⟨vs, us, hk, hrep, hrun⟩ := W4 (P := P.p) (fn := fn) m'.sm m'.om h2 hq
    cases hgv : V.givs ob' vs with
    | none => simp [hgv, Z6] at hk
    | some q =>
     obtain ⟨l, ob2⟩ := q
     simp only [hgv, Z6] at hk
     obtain ⟨ρ2, t2, o2, hr2⟩ := Qq vs us m'.om hrep hgv
     have mo2 : Xe1 w' (own ρ2) w' (own ρ) := fun b h1 _ => ⟨rfl, fun h2 => h1 (.inr (by rw [t2.xo, m'.xo]; exact h2))⟩
     have hrep' := Ve mo2 _ _ l rfl hr2
     have hext : Ext w w' := ⟨m'.base.size, fun b hb => m'.base.keep b hb (fun h => h), m'.base.tape, m'.base.os, m'.base.out⟩
     exact ⟨m'.df, Xq3 us, hrun, W5 (l.map .d), Xq3 us, hk, rfl, Qb hrep', hext⟩
   cases ae with
   | normal =>
    cases e <;> simp only [exM] at he
    exact hfin hq
   | ret =>
    cases e <;> simp only [exM] at he
    exact hfin hq
   | exit n => exact hq.elim
   | panic v => exact hq.elim
  ·simp at hc
 ·simp at hc

theorem Xgt {ids : Nat → Bool} {vs : List V} {us : List Value} (hm : V.mens ids vs = false) (h : V.reps w ρ vs us) : V.reps w (ρ.del ids) vs us := V.reps_del vs us hm h

def Ob.noMen (ids : Nat → Bool) : Ob → Prop
 | .box _ t => V.men ids t = false
 | .vec _ _ xs => V.mens ids xs = false
 | .map es => Qz ids es = false
 | _ => True
theorem Z1 {ids : Nat → Bool} : ∀ (ob : Objs), (∀ e ∈ ob, e.2.noMen ids) → noMenO ids ob = true
 | [], _ => rfl
 | (j, .box E t) :: r, h => by
  simp only [noMenO, Bool.and_eq_true, Bool.not_eq_true']
  exact ⟨h (j, .box E t) (by simp), Z1 r fun e he => h e (by simp [he])⟩
 | (j, .vec E z t) :: r, h => by
  simp only [noMenO, Bool.and_eq_true, Bool.not_eq_true']
  exact ⟨h (j, .vec E z t) (by simp), Z1 r fun e he => h e (by simp [he])⟩
 | (j, .map t) :: r, h => by
  simp only [noMenO, Bool.and_eq_true, Bool.not_eq_true']
  exact ⟨h (j, .map t) (by simp), Z1 r fun e he => h e (by simp [he])⟩
 | (j, .arr _ _ _) :: r, h => by simp only [noMenO]; exact Z1 r fun e he => h e (by simp [he])
 | (j, .gone) :: r, h => by simp only [noMenO]; exact Z1 r fun e he => h e (by simp [he])
theorem Xf9 {ids : Nat → Bool} (hd : ∀ id o, ρ.m id = some o → ids id = false) : ∀ (l : List (D × V)) (es : List MapEntry), Ym w ρ l es → Qz ids l = false
 | [], _, _ => rfl
 | (k, v) :: r, es, h => by
  obtain ⟨e, es', _, _, h3, h4⟩ := h
  simp only [Qz, V.men_temp hd h3, Xf9 hd r es' h4, Bool.or_self]
theorem Xah.noMen {ids : Nat → Bool} (hd : ∀ id o, ρ.m id = some o → ids id = false) {j : Nat} {x : Ob} (h : Xah w ρ j x) : x.noMen ids := by
 cases x with
 | box E t => obtain ⟨b, cs, _, _, h3⟩ := h; exact V.men_dom hd _ _ h3
 | vec E sz xs =>
  rcases h with ⟨_, rfl⟩ | ⟨b, cap, cs, sp, _, _, h3, _⟩
  ·rfl
  ·exact V.menCs_dom hd _ _ h3
 | map es => obtain ⟨b, l, clk, _, _, h3⟩ := h; exact Xf9 hd _ _ h3
 | arr E sz xs => trivial
 | gone => trivial
theorem Xb5 {P : Prg} (hm : P.p.follows .mixedOrders = true) {f : Nat} {s : S} {rs : List RV} {vs : List V} {ob : Objs} {K : Out → Objs → Prop} (hc : Xx P.p f vs.length s rs = true)
  (h : cwp P s (Zy (fresh ob) rs K) (Qe 0 vs) ob) : ACall P f vs ob K := by
 unfold Xx at hc
 split at hc
 ·rename_i fn hf
  split at hc
  ·rename_i code hb
   simp only [Bool.and_eq_true, decide_eq_true_eq] at hc
   obtain ⟨⟨hn, h1⟩, h2⟩ := hc
   refine ⟨fun w ρ args hO hg hr => calls_of_wp hf hb ?_⟩
   let c : Ctx := ⟨w, Xk5 ρ, fn.ntmps, [], P.g, ρ.m, []⟩
   have hlen : args.length = vs.length := by simpa using Ze hr
   have m : Mod c ρ.xo ρ (Qe 0 vs) ob { tmps := args.toArray ++ Array.replicate (fn.ntmps - args.toArray.size) undef, defers := [] } w := by
    refine ⟨⟨Nat.le_refl _, fun _ _ _ => rfl, fun b h => .inr h, rfl, rfl, rfl, fun id o h => ⟨o, h, .refl o⟩, (fun p hp => by cases hp)⟩, hO, ?_, ?_, rfl, rfl, hg⟩
    ·refine Ul hr 0 _ (fun i hi => ?_)
     simp [Array.getElem?_append, hi]
    ·simp [c]; omega
   refine wp_mono (Ya hm rfl code s _ _ _ ρ _ w h1 h m) ?_
   rintro e a' w' ⟨ae, sl', ob', ρ', hq, he, m'⟩
   have old : ∀ kp id o, ρ.m id = some o → young (fresh ob) kp id = false := fun kp id o h0 => by
    obtain ⟨x, hx⟩ := hO.dom id o h0
    have hlt : ¬ fresh ob ≤ id := fun hle => by rw [X1 _ _ hle] at hx; cases hx
    simp [young, hlt]
   have tr : ∀ {ρ2 : Env}, Tr w' ρ' w' ρ2 → ∀ kp, Tr w ρ w' (ρ2.del (young (fresh ob) kp)) := fun {ρ2} t kp => by
    have b2 := m'.base.tr t
    refine ⟨b2.size, fun b h1 h2 => b2.keep b h2 h1, fun b h1 => (b2.owns b (Vt h1)).symm, ?_, ?_, fun id o h1 => ?_, b2.tape, b2.os, b2.out⟩
    ·show ρ2.xo = ρ.xo; rw [t.xo, m'.xo]
    ·show ρ2.gl = ρ.gl; rw [t.gl, m'.gl, hg]
    ·obtain ⟨o', h3, h4⟩ := b2.same id o h1
     exact ⟨o', by simp only [Env.del, old kp id o h1]; exact h3, h4⟩
   have hfin : Wg sl' ob' rs (fun vs => Xds vs ob' fun vs ob' => X0 (fresh ob) (K (.ret (W5 vs))) vs ob') → a'.defers = [] ∧ ∃ v, (results fn a'.tmps).run P.p w' = .ok v w' ∧ ∃ out ob2 ρ2, K out ob2 ∧ Xnw w' ρ2 (.returned v) out ∧ OM w' ρ2 ob2 ∧ Tr w ρ w' ρ2 := by
    intro hq
    obtain ⟨vs, us, hk, hrep, hrun⟩ := W4 (P := P.p) (fn := fn) m'.sm m'.om h2 hq
    obtain ⟨vs', ob2, ρ2, ⟨kp, k1, k2, k3⟩, t2, o2, hr2⟩ := Xaw vs us m'.om hrep hk
    exact ⟨m'.df, Xq3 us, hrun, .ret (W5 vs'), _, _, k3, Qb (Xgt k1 hr2), o2.del k2, tr t2 kp⟩
   cases ae with
   | normal =>
    cases e <;> simp only [exM] at he
    exact hfin hq
   | ret =>
    cases e <;> simp only [exM] at he
    exact hfin hq
   | exit n => exact hq.elim
   | panic v =>
    cases e <;> simp only [exM] at he
    obtain ⟨u, rfl, hu⟩ := he
    obtain ⟨kp, k1, k2, k3⟩ := hq
    simp only [V.mens, Bool.or_false] at k1
    exact ⟨m'.df, .panic v, _, _, k3, ⟨u, rfl, V.rep_del k1 hu⟩, m'.om.del k2, tr (Tr.refl _ _) kp⟩
  ·simp at hc
 ·simp at hc

theorem ACall.of_wf {P : Prg} {f : Nat} {vs : List V} {ob : Objs} {K : Out → Objs → Prop} (h : (∀ kp, V.mens (young (fresh ob) kp) vs = false) → (∀ kp, noMenO (young (fresh ob) kp) ob = true) → ACall P f vs ob K) : ACall P f vs ob K := by
 refine ⟨fun w ρ args hO hg hr => ?_⟩
 have old : ∀ kp id o, ρ.m id = some o → young (fresh ob) kp id = false := fun kp id o h0 => by
  obtain ⟨x, hx⟩ := hO.dom id o h0
  have hlt : ¬ fresh ob ≤ id := fun hle => by rw [X1 _ _ hle] at hx; cases hx
  simp [young, hlt]
 exact (h (fun kp => V.mens_dom (old kp) _ _ hr) (fun kp => Z1 ob fun e he => (hO.one e.1 _ (hO.once.look e he)).noMen (old kp))).run w ρ args hO hg hr

theorem Xvr {P : Prg} {p : Program} (hP : P.p = p) (hm : p.follows .mixedOrders = true) {f : Nat} {s : S} {rs : List RV} {ds : List D} {ob0 : Objs} {K : V → Prop} (hc : Xx p f ds.length s rs = true)
  (h : cwp P s (Xa9 rs K) (Qe 0 (ds.map .d)) []) : PCall P f (ds.map .d) ob0 K := by
 subst hP
 exact Xcy hm hc h
end
end Go.Ab
/- The equations by which an abstract state is walked. Over any program; no condition. -/
namespace Go.Ab
open Go
section
variable (P : Prg) (K : V → Prop) (KO : V → Objs → Prop) (Pn : V → Objs → Prop) (Q : Z5) (next : Xb → Objs → Prop) (sl : Xb) (ob : Objs) (r : Xb) (ro : Objs) (v v' : V) (x y z : A) (k j n : Nat) (b c : Bool) (m m' : Int) (kd kd' : IntKind) (s s' : List UInt8) (xs : List D) (vs : List V) (d : D)
@[simp] theorem Xh9 : look ((k, v) :: r) k = v := by simp [look]
@[simp] theorem Xpm (h : (j == k) = false) : look ((j, v) :: r) k = look r k := by simp at h; simp [look, h]
@[simp] theorem lookO_eq (o : Ob) : lookO ((k, o) :: ro) k = some o := by simp [lookO]
@[simp] theorem Xkw (o : Ob) (h : (j == k) = false) : lookO ((j, o) :: ro) k = lookO ro k := by simp at h; simp [lookO, h]
@[simp] theorem setO_eq (o o' : Ob) : setO ((k, o) :: ro) k o' = (k, o') :: ro := by simp [setO]
@[simp] theorem Xrc (o o' : Ob) (h : (j == k) = false) : setO ((j, o) :: ro) k o' = (j, o) :: setO ro k o' := by simp at h; simp [setO, h]
@[simp] theorem put_some : put sl (some k) v = (k, v) :: sl := by simp only [put]
@[simp] theorem put_none : put sl none v = sl := by simp only [put]
@[simp] theorem X8i : A.ev sl (.t k) = look sl k := by simp only [A.ev]
@[simp] theorem ev_int : A.ev sl (.int kd m) = .d (.int kd m) := by simp only [A.ev]
@[simp] theorem ev_bool : A.ev sl (.bool b) = .d (.bool b) := by simp only [A.ev]
@[simp] theorem ev_str : A.ev sl (.str s) = .d (.str s) := by simp only [A.ev]
@[simp] theorem ev_nils : A.ev sl .nils = .d .nils := by simp only [A.ev]
@[simp] theorem ev_nili : A.ev sl .nili = .d .nili := by simp only [A.ev]
@[simp] theorem ev_fn : A.ev sl (.fn k) = .fn k [] [] := by simp only [A.ev]
-- calm operations
@[simp] theorem wp_mv : C.wp sl ob K (.mv x) = K (x.ev sl) := by simp only [C.wp]
@[simp] theorem X22 : Q1 K (.d (.bool true)) v v' = K v := by unfold Q1; split <;> simp_all
@[simp] theorem X21 : Q1 K (.d (.bool false)) v v' = K v' := by unfold Q1; split <;> simp_all
@[simp] theorem wp_not : C.wp sl ob K (.not x) = Xql K (x.ev sl) := by simp only [C.wp]
@[simp] theorem notK_b : Xql K (.d (.bool b)) = K (.d (.bool (!b))) := by simp only [Xql]
@[simp] theorem wp_cpl : C.wp sl ob K (.cpl x) = Xse K (x.ev sl) := by simp only [C.wp]
@[simp] theorem wp_mx : C.wp sl ob K (.mx x y) = mxK K (x.ev sl) (y.ev sl) := by simp only [C.wp]
@[simp] theorem wp_bin (op : BinOp) : C.wp sl ob K (.bin op x y) = Xj2 op K (x.ev sl) (y.ev sl) := by simp only [C.wp]
@[simp] theorem binK_i (op : BinOp) : Xj2 op K (.d (.int kd m)) (.d (.int kd' m')) = Xki op kd kd' m m' K := by simp only [Xj2]
@[simp] theorem binK_s (op : BinOp) : Xj2 op K (.d (.str s)) (.d (.str s')) = Xm7 op s s' K := by simp only [Xj2]
@[simp] theorem intK_shl : Xki .shl kd kd' m m' K = (0 ≤ m' ∧ K (.d (.int kd (kd.wrap (m * 2 ^ (min m'.toNat kd.bits)))))) := by simp [Xki]
@[simp] theorem intK_shr : Xki .shr kd kd' m m' K = (0 ≤ m' ∧ K (.d (.int kd (m.fdiv (2 ^ (min m'.toNat kd.bits)))))) := by simp [Xki]
@[simp] theorem strK_eql : Xm7 .eql s s' K = K (.d (.bool (s == s'))) := by simp [Xm7]
@[simp] theorem strK_neq : Xm7 .neq s s' K = K (.d (.bool (s != s'))) := by simp [Xm7]
@[simp] theorem wp_isnil : C.wp sl ob K (.isnil b x) = Wm b K (x.ev sl) := by simp only [C.wp]
@[simp] theorem isnilK_n : Wm b K (.d .nili) = K (.d (.bool b)) := by simp only [Wm]
@[simp] theorem isnilK_di : Wm b K (.d (.iface k d)) = K (.d (.bool (!b))) := by simp only [Wm]
@[simp] theorem mkiV_d : Xvk k (.d d) = .d (.iface k d) := by simp only [Xvk]
@[simp] theorem mkfV_eq (l1 l2 : List V) : Xww k l1 l2 = X2t k l1 l2 (V.allD l1) (V.allD l2) := by simp only [Xww]
@[simp] theorem mkfO_n1 (l1 l2 : List V) (o : Option (List D)) : X2t k l1 l2 none o = .fn k l1 l2 := by cases o <;> simp only [X2t]
@[simp] theorem mkfO_n2 (l1 l2 : List V) (o : Option (List D)) : X2t k l1 l2 o none = .fn k l1 l2 := by cases o <;> simp only [X2t]
@[simp] theorem wp_cvi : C.wp sl ob K (.cvi kd x) = Xok kd K (x.ev sl) := by simp only [C.wp]
@[simp] theorem cviK_i : Xok kd K (.d (.int kd' m)) = K (.d (.int kd (kd.wrap m))) := by simp only [Xok]
@[simp] theorem wp_idx : C.wp sl ob K (.idx x y) = Xsh K (x.ev sl) (y.ev sl) := by simp only [C.wp]
@[simp] theorem idxK_s : Xsh K (.d (.str s)) (.d (.int kd m)) = ((0 ≤ m ∧ m < s.length) ∧ K (.d (.int .u8 (s.getD m.toNat 0).toNat))) := by simp only [Xsh]
@[simp] theorem wp_idxA : C.wp sl ob K (.idxA n x y) = Qs ob n K (x.ev sl) (y.ev sl) := by simp only [C.wp]
@[simp] theorem idxAK_l : Qs ob n K (.d (.list n xs)) (.d (.int kd m)) = ((0 ≤ m ∧ m < xs.length) ∧ K (.d (.ref (xs.getD m.toNat default)))) := by simp [Qs]
@[simp] theorem wp_idxP : C.wp sl ob K (.idxP k n x y) = Jr ob k n K (x.ev sl) (y.ev sl) := by simp only [C.wp]
@[simp] theorem idxPK_p (p : List Nat) : Jr ob k n K (.ptr j p) (.d (.int kd m)) = ((0 ≤ m ∧ m < k) ∧ (∃ ks, Yr (atO ob j p) = some ks ∧ ks.length = k ∧ ∀ k ∈ ks, k.size = n) ∧ K (.ptr j (p ++ [m.toNat]))) := by simp only [Jr]
@[simp] theorem idxPK_c : Jr ob k n K (.d (.ref (.agg xs))) (.d (.int kd m)) = ((0 ≤ m ∧ m < k) ∧ xs.length = k ∧ (∀ x ∈ xs, x.sz = n) ∧ K (.d (.ref (xs.getD m.toNat default)))) := by simp only [Jr]
@[simp] theorem wp_fldA : C.wp sl ob K (.fldA k n x) = Qp ob k n K (x.ev sl) := by simp only [C.wp]
@[simp] theorem fldAK_c : Qp ob k n K (.d (.ref (.agg xs))) = (k < xs.length ∧ D.szs (xs.take k) = n ∧ K (.d (.ref (xs.getD k default)))) := by simp only [Qp]
@[simp] theorem wp_ld : C.wp sl ob K (.ld n b x) = ldK ob n b K (x.ev sl) := by simp only [C.wp]
@[simp] theorem ldK_p (p : List Nat) : ldK ob n b K (.ptr j p) = Xf4 n b K (atO ob j p) := by simp only [ldK]
@[simp] theorem ldKo_s : Xf4 n b K (some v) = (v.size = n ∧ v.isAgg = b ∧ K v) := by simp only [Xf4]
@[simp] theorem ldK_c : ldK ob n b K (.d (.ref d)) = (d.sz = n ∧ (V.d d).isAgg = b ∧ K (.d d)) := by simp only [ldK]
@[simp] theorem wp_nilc : C.wp sl ob K (.nilc x) = Js K (x.ev sl) := by simp only [C.wp]
@[simp] theorem nilcK_p (p : List Nat) : Js K (.ptr j p) = K (.ptr j p) := by simp only [Js]
@[simp] theorem nilcK_c : Js K (.d (.ref d)) = K (.d (.ref d)) := by simp only [Js]
@[simp] theorem wp_lenS : C.wp sl ob K (.lenS x) = Xay K (x.ev sl) := by simp only [C.wp]
@[simp] theorem lenSK_s : Xay K (.d (.str s)) = K (.d (.int .i64 s.length)) := by simp only [Xay]
@[simp] theorem wp_lenL : C.wp sl ob K (.lenL x) = U1 ob K (x.ev sl) := by simp only [C.wp]
@[simp] theorem lenLK_l : U1 ob K (.d (.list n xs)) = K (.d (.int .i64 xs.length)) := by simp only [U1]
@[simp] theorem lenLK_n : U1 ob K (.d .nils) = K (.d (.int .i64 0)) := by simp only [U1]
@[simp] theorem lenLK_o : U1 ob K (.sl j n) = (((∃ E z xs, lookO ob j = some (.arr E z xs) ∧ n = xs.length) ∨ ∃ E z xs, lookO ob j = some (.vec E z xs) ∧ n = xs.length) ∧ K (.d (.int .i64 n))) := by simp only [U1]
@[simp] theorem wp_slcS (lo hi : Option A) : C.wp sl ob K (.slcS x lo hi) = Xb2 (lo.map (A.ev sl)) (hi.map (A.ev sl)) K (x.ev sl) := by simp only [C.wp]
@[simp] theorem slcSK_s (lo hi : Option V) : Xb2 lo hi K (.d (.str s)) = V9 s.length (fun l h => K (.d (.str ((s.take h).drop l)))) lo hi := by simp only [Xb2]
@[simp] theorem wp_slcL (lo hi : Option A) : C.wp sl ob K (.slcL n x lo hi) = Xb1 n (lo.map (A.ev sl)) (hi.map (A.ev sl)) K (x.ev sl) := by simp only [C.wp]
@[simp] theorem slcLK_l (lo hi : Option V) : Xb1 n lo hi K (.d (.list n xs)) = V9 xs.length (fun l h => K (.d (.list n ((xs.take h).drop l)))) lo hi := by simp [Xb1]
@[simp] theorem bndK_nn (KK : Nat → Nat → Prop) : V9 n KK none none = KK 0 n := by simp only [V9]
@[simp] theorem bndK_sn (KK : Nat → Nat → Prop) : V9 n KK (some (.d (.int kd m))) none = ((0 ≤ m ∧ m ≤ n) ∧ KK m.toNat n) := by simp only [V9]
@[simp] theorem bndK_ns (KK : Nat → Nat → Prop) : V9 n KK none (some (.d (.int kd m))) = ((0 ≤ m ∧ m ≤ n) ∧ KK 0 m.toNat) := by simp only [V9]
@[simp] theorem bndK_ss (KK : Nat → Nat → Prop) : V9 n KK (some (.d (.int kd m))) (some (.d (.int kd' m'))) = ((0 ≤ m' ∧ m' ≤ n) ∧ (0 ≤ m ∧ m ≤ m') ∧ KK m.toNat m'.toNat) := by simp only [V9]
@[simp] theorem wp_ext : C.wp sl ob K (.ext x n) = Xsg n K (x.ev sl) := by simp only [C.wp]
@[simp] theorem extK_t : Xsg n K (.tup vs) = (n < vs.length ∧ K (vs.getD n .any)) := by simp only [Xsg]
@[simp] theorem wp_bld (ps : List (Nat × A)) : C.wp sl ob K (.bld xs ps) = Um (xs.map .d) (ps.map fun p => (p.1, p.2.ev sl)) fun ks => K (V.mk ks) := by simp only [C.wp]
@[simp] theorem bldK_n (KL : List V → Prop) : Um vs [] KL = KL vs := by simp only [Um]
@[simp] theorem bldK_c (KL : List V → Prop) (l : List (Nat × V)) : Um vs ((k, v) :: l) KL = (k < vs.length ∧ v.shape = (vs.getD k .any).shape ∧ v ≠ .any ∧ Um (vs.set k v) l KL) := by simp only [Um]
@[simp] theorem wp_mkf (l l' : List A) : C.wp sl ob K (.mkf k l l') = K (Xww k (l.map (A.ev sl)) (l'.map (A.ev sl))) := by simp only [C.wp]
@[simp] theorem wp_mki : C.wp sl ob K (.mki k x) = K (Xvk k (x.ev sl)) := by simp only [C.wp]
@[simp] theorem wp_tas : C.wp sl ob K (.tas k d x) = Xv7 k d K (x.ev sl) := by simp only [C.wp]
-- trees
@[simp] theorem kids_agg : V.kids (.agg vs) = some vs := by simp only [V.kids]
@[simp] theorem kids_d : V.kids (.d (.agg xs)) = some (xs.map .d) := by simp only [V.kids]
@[simp] theorem kidsO_s : Yr (some v) = v.kids := by simp only [Yr]
def atB (p : List Nat) : Option Ob → Option V
 | some (.box _ t) => t.at p
 | _ => none
@[simp] theorem atO_b (p : List Nat) : atO ob k p = atB p (lookO ob k) := by
 unfold atO atB
 cases lookO ob k with
 | none => rfl
 | some o => cases o <;> rfl
@[simp] theorem atB_s (p : List Nat) (E : Nat) : atB p (some (.box E v)) = v.at p := by simp only [atB]
@[simp] theorem at_nil : V.at v [] = some v := by simp [V.at]
def Xe8 (i : Nat) (p : List Nat) : Option (List V) → Option V
 | some ks => atKid' p ks[i]?
 | none => none
where atKid' (p : List Nat) : Option V → Option V
 | some k => V.at k p
 | none => none
@[simp] theorem at_cons (p : List Nat) : V.at v (k :: p) = Xe8 k p v.kids := by
 simp only [V.at, Xe8]
 cases v.kids with
 | none => rfl
 | some ks => simp only [Xe8.atKid']; cases ks[k]? <;> rfl
@[simp] theorem atKid_s (p : List Nat) : Xe8 k p (some vs) = Xe8.atKid' p vs[k]? := by simp only [Xe8]
@[simp] theorem atKid'_s (p : List Nat) : Xe8.atKid' p (some v) = V.at v p := by simp only [Xe8.atKid']
@[simp] theorem set_nil : V.set v [] v' = some v' := by simp [V.set]
def Va (i : Nat) (p : List Nat) (x : V) : Option (List V) → Option V
 | some ks => setKid1 i p x ks ks[i]?
 | none => none
where
 setKid1 (i : Nat) (p : List Nat) (x : V) (ks : List V) : Option V → Option V
 | some k => setKid2 i ks (V.set k p x)
 | none => none
 setKid2 (i : Nat) (ks : List V) : Option V → Option V
 | some k' => some (V.mk (ks.set i k'))
 | none => none
@[simp] theorem set_cons (p : List Nat) : V.set v (k :: p) v' = Va k p v' v.kids := by
 simp only [V.set, Va]
 cases v.kids with
 | none => rfl
 | some ks =>
  simp only [Va.setKid1]
  cases ks[k]? with
  | none => rfl
  | some y => simp only [Va.setKid2]; cases V.set y p v' <;> rfl
@[simp] theorem setKid_s (p : List Nat) : Va k p v (some vs) = Va.setKid1 k p v vs vs[k]? := by simp only [Va]
@[simp] theorem setKid1_s (p : List Nat) : Va.setKid1 k p v vs (some v') = Va.setKid2 k vs (V.set v' p v) := by simp only [Va.setKid1]
@[simp] theorem setKid2_s : Va.setKid2 k vs (some v) = some (V.mk (vs.set k v)) := by simp only [Va.setKid2]
@[simp] theorem allD_nil : V.allD [] = some [] := by simp [V.allD]
def Xoh (x : D) : Option (List D) → Option (List D)
 | some l => some (x :: l)
 | none => none
@[simp] theorem allD_cons : V.allD (.d d :: vs) = Xoh d (V.allD vs) := by simp only [V.allD]; cases V.allD vs <;> rfl
@[simp] theorem consD_s : Xoh d (some xs) = some (d :: xs) := by simp only [Xoh]
@[simp] theorem consD_n : Xoh d none = none := by simp only [Xoh]
@[simp] theorem allD_map : V.allD (xs.map .d) = some xs := by induction xs with | nil => rfl | cons x r ih => simp [ih]
@[simp] theorem allD_fn (a1 a2 : List V) : V.allD (.fn k a1 a2 :: vs) = none := by simp only [V.allD]
@[simp] theorem allD_sl : V.allD (.sl k n :: vs) = none := by simp only [V.allD]
@[simp] theorem allD_ptr (p : List Nat) : V.allD (.ptr k p :: vs) = none := by simp only [V.allD]
def mkO (vs : List V) : Option (List D) → V
 | some l => .d (.agg l)
 | none => .agg vs
@[simp] theorem mk_eq : V.mk vs = mkO vs (V.allD vs) := by unfold V.mk mkO; cases V.allD vs <;> rfl
@[simp] theorem mkO_s : mkO vs (some xs) = .d (.agg xs) := by simp only [mkO]
@[simp] theorem mkO_n : mkO vs none = .agg vs := by simp only [mkO]
-- sizes, shapes
attribute [simp] D.sz D.szs Sh.size Sh.sizes D.shape D.shapes V.shape V.shapes V.isAgg V.sto V.stos V.size V.men V.mens
-- operations on memory
@[simp] theorem qw (e : C) : I.wp P sl ob KO Pn (.c e) = e.wp sl ob (fun v => KO v ob) := by simp only [I.wp]
@[simp] theorem qv : I.wp P sl ob KO Pn (.box k x) = Xm4 k ob KO (x.ev sl) := by simp only [I.wp]
@[simp] theorem qr : I.wp P sl ob KO Pn (.alloc k d) = Xm4 k ob KO (.d d) := by simp only [I.wp]
@[simp] theorem boxK_eq : Xm4 k ob KO v = (v.sto = true ∧ KO (.ptr (fresh ob) []) ((fresh ob, .box k v) :: ob)) := by simp only [Xm4]
@[simp] theorem qu (ps : List (Nat × A)) : I.wp P sl ob KO Pn (.bls n xs ps) = Um (xs.map .d) (ps.map fun p => (p.1, p.2.ev sl)) (fun ks => dK (fun l => KO (.d (.list n l)) ob) (V.allD ks)) := by simp only [I.wp]
@[simp] theorem dK_s (KD : List D → Prop) : dK KD (some xs) = KD xs := by simp only [dK]
@[simp] theorem qt (ps : List (Nat × A)) : I.wp P sl ob KO Pn (.blo j n xs ps) = Um (xs.map .d) (ps.map fun p => (p.1, p.2.ev sl)) (fun ks => dK (fun l => KO (.sl (fresh ob) l.length) ((fresh ob, .arr j n l) :: ob)) (V.allD ks)) := by simp only [I.wp]
@[simp] theorem zh : I.wp P sl ob KO Pn (.st n x y) = stK ob n (y.ev sl) KO (x.ev sl) := by simp only [I.wp]
@[simp] theorem stK_p (p : List Nat) : stK ob n v KO (.ptr k p) = Xrx ob k p n v KO (lookO ob k) := by simp only [stK]
@[simp] theorem stKo_s (p : List Nat) (t : V) (E : Nat) : Xrx ob k p n v KO (some (.box E t)) = Xry ob k p n E v t KO (t.at p) := by simp only [Xrx]
def X3q (ob : Objs) (id E : Nat) (K : V → Objs → Prop) : Option V → Prop
 | some t' => K .undef (setO ob id (.box E t'))
 | none => False
@[simp] theorem stKt_s (p : List Nat) (t : V) (E : Nat) : Xry ob k p n E v t KO (some v') = (v.shape = v'.shape ∧ v'.size = n ∧ v.sto = true ∧ X3q ob k E KO (t.set p v)) := by
 simp only [Xry]; cases t.set p v <;> simp [X3q]
@[simp] theorem stKs_s (E : Nat) : X3q ob k E KO (some v) = KO .undef (setO ob k (.box E v)) := by simp only [X3q]
@[simp] theorem qs (E sz B : Nat) : I.wp P sl ob KO Pn (.app E sz B x y) = Xrv sz (fun ys => Xbo E sz B ob ys KO (x.ev sl)) (y.ev sl) := by simp only [I.wp]
@[simp] theorem srcK_l (KD : List D → Prop) : Xrv n KD (.d (.list n xs)) = KD xs := by simp [Xrv]
@[simp] theorem appK_s (E sz B : Nat) : Xbo E sz B ob xs KO (.sl k n) = Xbq k E sz B n ob xs KO (lookO ob k) := by simp [Xbo]
@[simp] theorem appK_n (E sz B : Nat) : Xbo E sz B ob xs KO (.d .nils) = ((2 * xs.length + 192) * B ≤ 281474976710656 ∧ KO (.sl (fresh ob) xs.length) ((fresh ob, .arr E sz xs) :: ob)) := by simp only [Xbo]
@[simp] theorem appKo_s (E sz B : Nat) (ys : List D) : Xbq k E sz B n ob xs KO (some (.arr E sz ys)) = (n = ys.length ∧ (2 * (ys.length + xs.length) + 192) * B ≤ 281474976710656 ∧ KO (.sl k (ys.length + xs.length)) (setO ob k (.arr E sz (ys ++ xs)))) := by simp [Xbq]
@[simp] theorem iwp_appS (E B : Nat) : I.wp P sl ob KO Pn (.appS E B x y) = Xes (fun ys => Xbo E 1 B ob ys KO (x.ev sl)) (y.ev sl) := by simp only [I.wp]
@[simp] theorem srcSK_s (KD : List D → Prop) : Xes KD (.d (.str s)) = KD (bytesD s) := by simp only [Xes]
@[simp] theorem zb : I.wp P sl ob KO Pn (.mvf x) = Xft KO (V.giv ob (x.ev sl)) := by simp only [I.wp]
@[simp] theorem za : I.wp P sl ob KO Pn (.ldf n b x) = Xvb n b ob KO (x.ev sl) := by simp only [I.wp]
@[simp] theorem zd (E sz : Nat) (p : List Nat) : I.wp P sl ob KO Pn (.mvg E sz y x p) = Xhc ob E sz p (y.ev sl) KO (x.ev sl) := by simp only [I.wp]
@[simp] theorem ze (l : List (Nat × Nat × List Nat)) : I.wp P sl ob KO Pn (.mvn y x l) = Xwz (y.ev sl) KO (x.ev sl) l ob := by simp only [I.wp]
@[simp] theorem mvgK_p (E sz : Nat) (p q : List Nat) : Xhc ob E sz p v KO (.ptr k q) = Xbx ob k (q ++ p) E sz v KO (lookO ob k) := by simp only [Xhc]
@[simp] theorem mvgKt_s (E E0 sz : Nat) (p : List Nat) (t : V) : Xbx ob k p E sz v KO (some (.box E0 t)) = ((t.at p = some (.d .nils) ∧ Xgb ob k E0 E sz v KO (t.set p (.sl (fresh ob) 0))) ∨ ((∃ i n, t.at p = some (.sl i n)) ∧ KO v ob)) := by simp only [Xbx]
@[simp] theorem mvgKs_s (E E0 sz : Nat) (t : V) : Xgb ob k E0 E sz v KO (some t) = KO v ((fresh ob, .arr E sz []) :: setO ob k (.box E0 t)) := by simp only [Xgb]
@[simp] theorem iwp_cvb : I.wp P sl ob KO Pn (.cvb x) = Xoj ob KO (x.ev sl) := by simp only [I.wp]
@[simp] theorem cvbK_s : Xoj ob KO (.sl k n) = Xdj k n ob KO (lookO ob k) := by simp only [Xoj]
@[simp] theorem cvbKo_s (E sz : Nat) : Xdj k n ob KO (some (.arr E sz xs)) = (sz ≠ 0 ∧ n = xs.length ∧ xs ≠ [] ∧ KO (.d (.list sz xs)) (setO ob k .gone)) := by simp only [Xdj]
@[simp] theorem wp_usd : C.wp sl ob K (.usd x) = Xmz ob K (x.ev sl) := by simp only [C.wp]
@[simp] theorem usdK_s : Xmz ob K (.sl k n) = ((∃ E sz xs, lookO ob k = some (.arr E sz xs) ∧ sz ≠ 0 ∧ n = xs.length ∧ xs ≠ []) ∧ K (.sd k n)) := by simp only [Xmz]
@[simp] theorem usdK_n : Xmz ob K (.d .nils) = K (.d .nilp) := by simp only [Xmz]
@[simp] theorem iwp_ustr (E : Nat) : I.wp P sl ob KO Pn (.ustr E x y) = Q4 E ob KO (x.ev sl) (y.ev sl) := by simp only [I.wp]
@[simp] theorem ustrK_s (E : Nat) : Q4 E ob KO (.sd k n) (.d (.int .i64 m)) = Qd k n m E ob KO (lookO ob k) := by simp only [Q4]
@[simp] theorem ustrK_n (E : Nat) : Q4 E ob KO (.d .nilp) (.d (.int .i64 m)) = (m = 0 ∧ KO (.d (.str [])) ob) := by simp only [Q4]
@[simp] theorem ustrKo_s (E E' sz : Nat) : Qd k n m E ob KO (some (.arr E' sz xs)) = (E' = E ∧ sz = 1 ∧ n = xs.length ∧ m = n ∧ n ≤ 9223372036854775807 ∧ xs ≠ [] ∧ ∃ s, xs = bytesD s ∧ KO (.d (.str s)) (setO ob k .gone)) := by simp only [Qd]
-- values given up
@[simp] theorem giv_d : V.giv ob (.d d) = some (d, ob) := by simp only [V.giv]
@[simp] theorem giv_sl : V.giv ob (.sl k n) = X4q ob k n (lookO ob k) := by simp only [V.giv]
@[simp] theorem givO_s (E sz : Nat) : X4q ob k n (some (.arr E sz xs)) = if sz ≠ 0 ∧ n = xs.length then some (.list sz xs, setO ob k .gone) else none := by simp only [X4q]
@[simp] theorem giv_agg : V.giv ob (.agg vs) = Xst (V.givs ob vs) := by simp only [V.giv]
@[simp] theorem giv_fn (l1 l2 : List V) : V.giv ob (.fn k l1 l2) = fnG k ob (V.allD l1) (V.allD l2) := by simp only [V.giv]
@[simp] theorem fnG_s (l1 l2 : List D) : fnG k ob (some l1) (some l2) = some (.fn k l1 l2, ob) := by simp only [fnG]
@[simp] theorem givs_nil : V.givs ob [] = some ([], ob) := by simp only [V.givs]
def Xys (r : List V) : Option (D × Objs) → Option (List D × Objs)
 | some (x, ob1) => Jp x (V.givs ob1 r)
 | none => none
@[simp] theorem givs_cons : V.givs ob (v :: vs) = Xys vs (V.giv ob v) := by
 simp only [V.givs]; cases V.giv ob v with
 | none => rfl
 | some q => obtain ⟨y, ob1⟩ := q; rfl
@[simp] theorem bindO_s : Xys vs (some (d, ob)) = Jp d (V.givs ob vs) := by simp only [Xys]
@[simp] theorem consO_s (l : List D) : Jp d (some (l, ob)) = some (d :: l, ob) := by simp only [Jp]
@[simp] theorem aggO_s (l : List D) : Xst (some (l, ob)) = some (.agg l, ob) := by simp only [Xst]
@[simp] theorem givsK_s (KD : List D → Objs → Prop) (l : List D) : Z6 KD (some (l, ob)) = KD l ob := by simp only [Z6]
@[simp] theorem gvsK_nil (KL : List V → Objs → Prop) : Xds [] ob KL = KL [] ob := by simp only [Xds]
@[simp] theorem gvsK_cons (KL : List V → Objs → Prop) : Xds (v :: vs) ob KL = gvO v ob (fun v' ob' => Xds vs ob' fun vs ob'' => KL (v' :: vs) ob'') (V.giv ob v) := by simp only [Xds]
@[simp] theorem gvO_s : gvO v ob KO (some (d, ro)) = KO (.d d) ro := by simp only [gvO]
-- names
@[simp] theorem fresh_nil : fresh [] = 0 := by simp only [fresh]
@[simp] theorem fresh_cons (o : Ob) : fresh ((k, o) :: ro) = if fresh ro ≤ k then k + 1 else fresh ro := by simp only [fresh]
@[simp] theorem fresh_set (o : Ob) : fresh (setO ob k o) = fresh ob := by
 induction ob with
 | nil => simp [setO]
 | cons e r ih => obtain ⟨i, y⟩ := e; simp only [setO]; split <;> simp [fresh, ih]
@[simp] theorem fresh_ne (h : (lookO ob k).isSome = true) : (fresh ob == k) = false := by
 rw [beq_eq_false_iff_ne]; intro e; rw [← e, X2] at h; cases h
@[simp] theorem lookO_set_eq (o : Ob) (h : (lookO ob k).isSome = true) : lookO (setO ob k o) k = some o := by
 rw [Xm ob k k (Option.isSome_iff_exists.1 h)]; simp
@[simp] theorem lookO_set_ne (o : Ob) (h : (j == k) = false) : lookO (setO ob j o) k = lookO ob k := by
 by_cases hs : (lookO ob j).isSome = true
 ·rw [Xm ob j k (Option.isSome_iff_exists.1 hs)]; simp at h; rw [if_neg (fun e => h e.symm)]
 ·have hn : lookO ob j = none := by simpa using hs
  have : ∀ (ob : Objs), lookO ob j = none → setO ob j o = ob := fun ob => by
   induction ob with
   | nil => intro _; rfl
   | cons e r ih => obtain ⟨i, y⟩ := e; intro h; simp only [lookO] at h; split at h; cases h; rename_i hne; simp [setO, hne, ih h]
  rw [this ob hn]
@[simp] theorem Xaf (o o' : Ob) : setO (setO ob k o) k o' = setO ob k o' := by
 induction ob with
 | nil => rfl
 | cons e r ih =>
  obtain ⟨i, y⟩ := e
  by_cases h : i = k
  ·subst h; simp [setO]
  ·simp [setO, h, ih]
-- young objects dropped
@[simp] theorem young_lt (l : List Nat) (h : k < n) : young n l k = false := by simp [young]; omega
@[simp] theorem young_old (l : List Nat) (h : (lookO ob k).isSome = true) : young (fresh ob) l k = false := by
 have : k < fresh ob := by
  rcases Nat.lt_or_ge k (fresh ob) with h1 | h1
  ·exact h1
  ·rw [X1 ob k h1] at h; cases h
 simp [young]; omega
@[simp] theorem young_self : young n [] n = true := by simp [young]
theorem noMenO_set_box (ids : Nat → Bool) (E : Nat) (h : noMenO ids ob = true) (hv : V.men ids v = false) : noMenO ids (setO ob k (.box E v)) = true := by
 induction ob with
 | nil => rfl
 | cons e r ih =>
  obtain ⟨i, y⟩ := e
  simp only [setO]
  split
  ·cases y <;> simp_all [noMenO]
  ·cases y <;> simp_all [noMenO]
theorem noMenO_set_arr (ids : Nat → Bool) (E z : Nat) (h : noMenO ids ob = true) : noMenO ids (setO ob k (.arr E z xs)) = true := by
 induction ob with
 | nil => rfl
 | cons e r ih =>
  obtain ⟨i, y⟩ := e
  simp only [setO]
  split
  ·cases y <;> simp_all [noMenO]
  ·cases y <;> simp_all [noMenO]
@[simp] theorem qx (l : List A) : I.wp P sl ob KO Pn (.call k l) = ACall P k (l.map (A.ev sl)) ob (Xhd KO Pn) := by simp only [I.wp]
@[simp] theorem qy (l : List A) : I.wp P sl ob KO Pn (.callv x l) = Vg P (l.map (A.ev sl)) ob KO Pn (x.ev sl) := by simp only [I.wp]
@[simp] theorem callvK_f (a1 a2 : List V) : Vg P vs ob KO Pn (.fn k a1 a2) = (Xi P.p k = true ∧ ACall P k (a1 ++ vs ++ a2) ob (Xhd KO Pn)) := by simp only [Vg]
@[simp] theorem callvK_df (a1 a2 : List D) : Vg P vs ob KO Pn (.d (.fn k a1 a2)) = (Xi P.p k = true ∧ ACall P k (a1.map .d ++ vs ++ a2.map .d) ob (Xhd KO Pn)) := by simp only [Vg]
@[simp] theorem zj : Xhd KO Pn (.ret v) ob = KO v ob := by simp only [Xhd]
@[simp] theorem zi : Xhd KO Pn (.panic v) ob = Pn v ob := by simp only [Xhd]
@[simp] theorem iwp_panic : I.wp P sl ob KO Pn (.panic x) = U7 ob Pn (x.ev sl) := by simp only [I.wp]
@[simp] theorem panicK_d : U7 ob Pn (.d (.iface k d)) = Pn (.d (.iface k d)) ob := by simp only [U7]
@[simp] theorem iwp_s2b : I.wp P sl ob KO Pn (.s2b x) = Xvx (fun v => KO v ob) (x.ev sl) := by simp only [I.wp]
@[simp] theorem s2bK_s : Xvx K (.d (.str s)) = K (.d (.list 1 (bytesD s))) := by simp only [Xvx]
@[simp] theorem zf (E sz : Nat) : I.wp P sl ob KO Pn (.nilo E sz x) = Xej E sz ob KO (x.ev sl) := by simp only [I.wp]
@[simp] theorem niloK_n (E sz : Nat) : Xej E sz ob KO (.d .nils) = KO (.sl (fresh ob) 0) ((fresh ob, .arr E sz []) :: ob) := by simp only [Xej]
-- regions and statements
@[simp] theorem keepS_nil : Xd sl [] = [] := by simp only [Xd]
@[simp] theorem keepS_cons (l : List Nat) : Xd sl (k :: l) = (k, look sl k) :: Xd sl l := by simp only [Xd]
@[simp] theorem zg (l : List A) : I.wp P sl ob KO Pn (.pcall k l) = PCall P k (l.map (A.ev sl)) ob (fun v => KO v ob) := by simp only [I.wp]
@[simp] theorem condK_t (Y N : Prop) : Qk Y N (.d (.bool true)) = Y := by simp [Qk]
@[simp] theorem condK_f (Y N : Prop) : Qk Y N (.d (.bool false)) = N := by simp [Qk]
@[simp low] theorem condK_b (Y N : Prop) : Qk Y N (.d (.bool b)) = ((b = true → Y) ∧ (b = false → N)) := by simp only [Qk]
@[simp] theorem zw : Zt next Q .normal sl ob = next sl ob := by simp only [Zt]
@[simp] theorem zu : Zt next Q (.exit n) sl ob = Q (.exit n) sl ob := by simp only [Zt]
@[simp] theorem zy : Zt next Q .ret sl ob = Q .ret sl ob := by simp only [Zt]
@[simp] theorem zx : Zt next Q (.panic v) sl ob = Q (.panic v) sl ob := by simp only [Zt]
@[simp] theorem qb : Y5 n Q .normal sl ob = Q .normal sl ob := by simp only [Y5]
@[simp] theorem qa : Y5 n Q (.exit n) sl ob = Q .normal sl ob := by simp [Y5]
@[simp] theorem qd : Y5 n Q .ret sl ob = Q .ret sl ob := by simp only [Y5]
@[simp] theorem qc : Y5 n Q (.panic v) sl ob = Q (.panic v) sl ob := by simp only [Y5]
attribute [simp] U4 noMenO Yt
-- results
@[simp] theorem pureQ_r (rs : List RV) : Xa9 rs K .ret sl ob = Wg sl ob rs fun vs => Z6 (fun l _ => K (W5 (l.map .d))) (V.givs ob vs) := by simp only [Xa9]
@[simp] theorem pureQ_p (rs : List RV) : Xa9 rs K (.panic v) sl ob = False := by simp only [Xa9]
@[simp] theorem qe (rs : List RV) (KU : Out → Objs → Prop) : Zy n rs KU .normal sl ob = Wg sl ob rs fun vs => Xds vs ob fun vs ob => X0 n (KU (.ret (W5 vs))) vs ob := by simp only [Zy]
@[simp] theorem qg (rs : List RV) (KU : Out → Objs → Prop) : Zy n rs KU .ret sl ob = Wg sl ob rs fun vs => Xds vs ob fun vs ob => X0 n (KU (.ret (W5 vs))) vs ob := by simp only [Zy]
@[simp] theorem qf (rs : List RV) (KU : Out → Objs → Prop) : Zy n rs KU (.panic v) sl ob = X0 n (KU (.panic v)) [v] ob := by simp only [Zy]
@[simp] theorem resK_nil (KL : List V → Prop) : Wg sl ob [] KL = KL [] := by simp only [Wg]
@[simp] theorem resK_t (KL : List V → Prop) (rs : List RV) : Wg sl ob (.t k :: rs) KL = Wg sl ob rs fun vs => KL (look sl k :: vs) := by simp only [Wg, RV.wp]
@[simp] theorem resK_c (KL : List V → Prop) (rs : List RV) : Wg sl ob (.c k n b :: rs) KL = ldK ob n b (fun v => Wg sl ob rs fun vs => KL (v :: vs)) (look sl k) := by simp only [Wg, RV.wp]
@[simp] theorem retV_1 : W5 [v] = v := by simp only [W5]
@[simp] theorem retV_0 : W5 [] = .tup [] := by simp only [W5]
@[simp] theorem retV_2 : W5 (v :: v' :: vs) = .tup (v :: v' :: vs) := by simp only [W5]
@[simp] theorem argS_nil : Qe k [] = [] := by simp only [Qe]
@[simp] theorem argS_cons : Qe k (v :: vs) = (k, v) :: Qe (k + 1) vs := by simp only [Qe]
end

@[congr] theorem I_wp_congr {P : Prg} {sl : Xb} {ob : Objs} {KO : V → Objs → Prop} {Pn : V → Objs → Prop} {i : I} : I.wp P sl ob KO Pn i = I.wp P sl ob KO Pn i := rfl
@[congr] theorem C_wp_congr {sl : Xb} {ob : Objs} {K : V → Prop} {e : C} : C.wp sl ob K e = C.wp sl ob K e := rfl
@[congr] theorem rwp_congr {P : Prg} {KS : Xb → Objs → Prop} {PS : V → Xb → Objs → Prop} {l : List It} {sl : Xb} {ob : Objs} : rwp P KS PS l sl ob = rwp P KS PS l sl ob := rfl
@[congr] theorem gdK_congr {k : Nat} {b : Bool} {sl : Xb} {Y N : Xb → Prop} {v v' : V} (h0 : v = v') : gdK k b sl Y N v = gdK k b sl Y N v' := by rw [h0]
@[congr] theorem condK_congr {Y N : Prop} {v v' : V} (h0 : v = v') : Qk Y N v = Qk Y N v' := by rw [h0]
@[congr] theorem pickK_congr {K : V → Prop} {u u' : V} {v v' : V} {w w' : V} (h0 : u = u') (h1 : v = v') (h2 : w = w') : Q1 K u v w = Q1 K u' v' w' := by rw [h0, h1, h2]
@[congr] theorem notK_congr {K : V → Prop} {v v' : V} (h0 : v = v') : Xql K v = Xql K v' := by rw [h0]
@[congr] theorem cplK_congr {K : V → Prop} {v v' : V} (h0 : v = v') : Xse K v = Xse K v' := by rw [h0]
@[congr] theorem mxK_congr {K : V → Prop} {u u' v v' : V} (h0 : u = u') (h1 : v = v') : mxK K u v = mxK K u' v' := by rw [h0, h1]
@[congr] theorem negK_congr {K : V → Prop} {v v' : V} (h0 : v = v') : X2v K v = X2v K v' := by rw [h0]
@[congr] theorem cvsK_congr {K : V → Prop} {v v' : V} (h0 : v = v') : Xzi K v = Xzi K v' := by rw [h0]
@[congr] theorem nilcK_congr {K : V → Prop} {v v' : V} (h0 : v = v') : Js K v = Js K v' := by rw [h0]
@[congr] theorem lenSK_congr {K : V → Prop} {v v' : V} (h0 : v = v') : Xay K v = Xay K v' := by rw [h0]
@[congr] theorem b2sK_congr {K : V → Prop} {v v' : V} (h0 : v = v') : X3e K v = X3e K v' := by rw [h0]
@[congr] theorem s2bK_congr {K : V → Prop} {v v' : V} (h0 : v = v') : Xvx K v = Xvx K v' := by rw [h0]
@[congr] theorem binK_congr {op : BinOp} {K : V → Prop} {u u' : V} {v v' : V} (h0 : u = u') (h1 : v = v') : Xj2 op K u v = Xj2 op K u' v' := by rw [h0, h1]
@[congr] theorem intK_congr {op : BinOp} {k j : IntKind} {K : V → Prop} {a a' : Int} {b b' : Int} (h0 : a = a') (h1 : b = b') : Xki op k j a b K = Xki op k j a' b' K := by rw [h0, h1]
@[congr] theorem strK_congr {op : BinOp} {K : V → Prop} {a a' : List UInt8} {b b' : List UInt8} (h0 : a = a') (h1 : b = b') : Xm7 op a b K = Xm7 op a' b' K := by rw [h0, h1]
@[congr] theorem beqK_congr {e : Bool} {K : V → Prop} {u u' : V} {v v' : V} (h0 : u = u') (h1 : v = v') : Xyp e K u v = Xyp e K u' v' := by rw [h0, h1]
@[congr] theorem isnilK_congr {e : Bool} {K : V → Prop} {v v' : V} (h0 : v = v') : Wm e K v = Wm e K v' := by rw [h0]
@[congr] theorem cviK_congr {k : IntKind} {K : V → Prop} {v v' : V} (h0 : v = v') : Xok k K v = Xok k K v' := by rw [h0]
@[congr] theorem idxK_congr {K : V → Prop} {u u' : V} {v v' : V} (h0 : u = u') (h1 : v = v') : Xsh K u v = Xsh K u' v' := by rw [h0, h1]
@[congr] theorem idxAK_congr {ob : Objs} {n : Nat} {K : V → Prop} {u u' : V} {v v' : V} (h0 : u = u') (h1 : v = v') : Qs ob n K u v = Qs ob n K u' v' := by rw [h0, h1]
@[congr] theorem idxPK_congr {ob : Objs} {k n : Nat} {K : V → Prop} {u u' : V} {v v' : V} (h0 : u = u') (h1 : v = v') : Jr ob k n K u v = Jr ob k n K u' v' := by rw [h0, h1]
@[congr] theorem fldAK_congr {ob : Objs} {k n : Nat} {K : V → Prop} {v v' : V} (h0 : v = v') : Qp ob k n K v = Qp ob k n K v' := by rw [h0]
@[congr] theorem fldAKo_congr {j : Nat} {p : List Nat} {k n : Nat} {K : V → Prop} {v v' : Option (List V)} (h0 : v = v') : Ja j p k n K v = Ja j p k n K v' := by rw [h0]
@[congr] theorem fldK_congr {k j n : Nat} {b : Bool} {K : V → Prop} {v v' : Option (List V)} (h0 : v = v') : Xzu k j n b K v = Xzu k j n b K v' := by rw [h0]
@[congr] theorem ldK_congr {ob : Objs} {n : Nat} {b : Bool} {K : V → Prop} {v v' : V} (h0 : v = v') : ldK ob n b K v = ldK ob n b K v' := by rw [h0]
@[congr] theorem ldKo_congr {n : Nat} {b : Bool} {K : V → Prop} {v v' : Option V} (h0 : v = v') : Xf4 n b K v = Xf4 n b K v' := by rw [h0]
@[congr] theorem lenLK_congr {ob : Objs} {K : V → Prop} {v v' : V} (h0 : v = v') : U1 ob K v = U1 ob K v' := by rw [h0]
@[congr] theorem bndK_congr {n : Nat} {KK : Nat → Nat → Prop} {u u' : Option V} {v v' : Option V} (h0 : u = u') (h1 : v = v') : V9 n KK u v = V9 n KK u' v' := by rw [h0, h1]
@[congr] theorem slcSK_congr {K : V → Prop} {l l' : Option V} {h h' : Option V} {v v' : V} (h0 : l = l') (h1 : h = h') (h2 : v = v') : Xb2 l h K v = Xb2 l' h' K v' := by rw [h0, h1, h2]
@[congr] theorem slcLK_congr {n : Nat} {K : V → Prop} {l l' : Option V} {h h' : Option V} {v v' : V} (h0 : l = l') (h1 : h = h') (h2 : v = v') : Xb1 n l h K v = Xb1 n l' h' K v' := by rw [h0, h1, h2]
@[congr] theorem extK_congr {n : Nat} {K : V → Prop} {v v' : V} (h0 : v = v') : Xsg n K v = Xsg n K v' := by rw [h0]
@[congr] theorem bldK_congr {KL : List V → Prop} {u u' : List V} {l l' : List (Nat × V)} (h0 : u = u') (h1 : l = l') : Um u l KL = Um u' l' KL := by rw [h0, h1]
@[congr] theorem tasK_congr {k : Nat} {d : D} {K : V → Prop} {v v' : V} (h0 : v = v') : Xv7 k d K v = Xv7 k d K v' := by rw [h0]
@[congr] theorem boxK_congr {k : Nat} {ob : Objs} {KO : V → Objs → Prop} {v v' : V} (h0 : v = v') : Xm4 k ob KO v = Xm4 k ob KO v' := by rw [h0]
@[congr] theorem stK_congr {ob : Objs} {n : Nat} {KO : V → Objs → Prop} {u u' : V} {v v' : V} (h0 : u = u') (h1 : v = v') : stK ob n u KO v = stK ob n u' KO v' := by rw [h0, h1]
@[congr] theorem stKo_congr {ob : Objs} {k : Nat} {p : List Nat} {n : Nat} {u : V} {KO : V → Objs → Prop} {v v' : Option Ob} (h0 : v = v') : Xrx ob k p n u KO v = Xrx ob k p n u KO v' := by rw [h0]
@[congr] theorem stKt_congr {ob : Objs} {k : Nat} {p : List Nat} {n E : Nat} {u t : V} {KO : V → Objs → Prop} {v v' : Option V} (h0 : v = v') : Xry ob k p n E u t KO v = Xry ob k p n E u t KO v' := by rw [h0]
@[congr] theorem stKs_congr {ob : Objs} {k E : Nat} {KO : V → Objs → Prop} {v v' : Option V} (h0 : v = v') : X3q ob k E KO v = X3q ob k E KO v' := by rw [h0]
@[congr] theorem dK_congr {KD : List D → Prop} {v v' : Option (List D)} (h0 : v = v') : dK KD v = dK KD v' := by rw [h0]
@[congr] theorem callvK_congr {P : Prg} {ob : Objs} {KO : V → Objs → Prop} {Pn : V → Objs → Prop} {u u' : List V} {v v' : V} (h0 : u = u') (h1 : v = v') : Vg P u ob KO Pn v = Vg P u' ob KO Pn v' := by rw [h0, h1]
@[congr] theorem panicK_congr {ob : Objs} {Pn : V → Objs → Prop} {v v' : V} (h0 : v = v') : U7 ob Pn v = U7 ob Pn v' := by rw [h0]
@[congr] theorem srcK_congr {n : Nat} {KD : List D → Prop} {v v' : V} (h0 : v = v') : Xrv n KD v = Xrv n KD v' := by rw [h0]
@[congr] theorem appK_congr {E sz B : Nat} {ob : Objs} {xs : List D} {KO : V → Objs → Prop} {v v' : V} (h0 : v = v') : Xbo E sz B ob xs KO v = Xbo E sz B ob xs KO v' := by rw [h0]
@[congr] theorem appKo_congr {k E sz B n : Nat} {ob : Objs} {xs : List D} {KO : V → Objs → Prop} {v v' : Option Ob} (h0 : v = v') : Xbq k E sz B n ob xs KO v = Xbq k E sz B n ob xs KO v' := by rw [h0]
@[congr] theorem niloK_congr {E sz : Nat} {ob : Objs} {KO : V → Objs → Prop} {v v' : V} (h0 : v = v') : Xej E sz ob KO v = Xej E sz ob KO v' := by rw [h0]
@[congr] theorem srcSK_congr {KD : List D → Prop} {v v' : V} (h0 : v = v') : Xes KD v = Xes KD v' := by rw [h0]
@[congr] theorem pnilK_congr {e : Bool} {K : V → Prop} {v v' : V} (h0 : v = v') : Xjf e K v = Xjf e K v' := by rw [h0]
@[congr] theorem fnilK_congr {e : Bool} {K : V → Prop} {v v' : V} (h0 : v = v') : Xhz e K v = Xhz e K v' := by rw [h0]
@[congr] theorem peqK_congr {ob : Objs} {e : Bool} {K : V → Prop} {u u' v v' : V} (h1 : u = u') (h0 : v = v') : X3n ob e K u v = X3n ob e K u' v' := by rw [h0, h1]
@[congr] theorem givK_congr {KO : V → Objs → Prop} {v v' : Option (D × Objs)} (h0 : v = v') : Xft KO v = Xft KO v' := by rw [h0]
@[congr] theorem givsK_congr {KO : List D → Objs → Prop} {v v' : Option (List D × Objs)} (h0 : v = v') : Z6 KO v = Z6 KO v' := by rw [h0]
@[congr] theorem gvO_congr {u : V} {ob : Objs} {KO : V → Objs → Prop} {v v' : Option (D × Objs)} (h0 : v = v') : gvO u ob KO v = gvO u ob KO v' := by rw [h0]
@[congr] theorem gvsK_congr {KL : List V → Objs → Prop} {u u' : List V} {ob ob' : Objs} (h0 : u = u') (h1 : ob = ob') : Xds u ob KL = Xds u' ob' KL := by rw [h0, h1]
@[congr] theorem leaveK_congr {n : Nat} {K : Objs → Prop} {u u' : List V} {ob ob' : Objs} (h0 : u = u') (h1 : ob = ob') : X0 n K u ob = X0 n K u' ob' := by rw [h0, h1]
@[congr] theorem ldfK_congr {n : Nat} {b : Bool} {ob : Objs} {KO : V → Objs → Prop} {v v' : V} (h0 : v = v') : Xvb n b ob KO v = Xvb n b ob KO v' := by rw [h0]
@[congr] theorem ldfKo_congr {n : Nat} {b : Bool} {ob : Objs} {KO : V → Objs → Prop} {v v' : Option V} (h0 : v = v') : Xh6 n b ob KO v = Xh6 n b ob KO v' := by rw [h0]
@[congr] theorem mvgK_congr {ob : Objs} {E sz : Nat} {p : List Nat} {KO : V → Objs → Prop} {u u' v v' : V} (h1 : u = u') (h0 : v = v') : Xhc ob E sz p u KO v = Xhc ob E sz p u' KO v' := by rw [h0, h1]
@[congr] theorem mvgKt_congr {ob : Objs} {k E sz : Nat} {p p' : List Nat} {KO : V → Objs → Prop} {u : V} {v v' : Option Ob} (h1 : p = p') (h0 : v = v') : Xbx ob k p E sz u KO v = Xbx ob k p' E sz u KO v' := by rw [h0, h1]
@[congr] theorem mvgKs_congr {ob : Objs} {k E0 E sz : Nat} {KO : V → Objs → Prop} {u : V} {v v' : Option V} (h0 : v = v') : Xgb ob k E0 E sz u KO v = Xgb ob k E0 E sz u KO v' := by rw [h0]
@[congr] theorem cvbK_congr {ob : Objs} {KO : V → Objs → Prop} {v v' : V} (h0 : v = v') : Xoj ob KO v = Xoj ob KO v' := by rw [h0]
@[congr] theorem cvbKo_congr {k n : Nat} {ob : Objs} {KO : V → Objs → Prop} {v v' : Option Ob} (h0 : v = v') : Xdj k n ob KO v = Xdj k n ob KO v' := by rw [h0]
@[congr] theorem usdK_congr {ob : Objs} {K : V → Prop} {v v' : V} (h0 : v = v') : Xmz ob K v = Xmz ob K v' := by rw [h0]
@[congr] theorem ustrK_congr {E : Nat} {ob : Objs} {KO : V → Objs → Prop} {u u' v v' : V} (h1 : u = u') (h0 : v = v') : Q4 E ob KO u v = Q4 E ob KO u' v' := by rw [h0, h1]
@[congr] theorem ustrKo_congr {k n : Nat} {m : Int} {E : Nat} {ob : Objs} {KO : V → Objs → Prop} {v v' : Option Ob} (h0 : v = v') : Qd k n m E ob KO v = Qd k n m E ob KO v' := by rw [h0]
@[congr] theorem resK_congr {sl : Xb} {ob : Objs} {rs : List RV} {KL : List V → Prop} : Wg sl ob rs KL = Wg sl ob rs KL := rfl
@[congr] theorem ACall_congr {P : Prg} {f : Nat} {vs vs' : List V} {ob ob' : Objs} {K : Out → Objs → Prop} (h : vs = vs') (h' : ob = ob') : ACall P f vs ob K = ACall P f vs' ob' K := by rw [h, h']
@[congr] theorem PCall_congr {P : Prg} {f : Nat} {vs vs' : List V} {ob ob' : Objs} {K : V → Prop} (h : vs = vs') (h' : ob = ob') : PCall P f vs ob K = PCall P f vs' ob' K := by rw [h, h']
@[congr] theorem ALoop_congr {keep : List Nat} {body : Z5 → Xb → Objs → Prop} {Q : Z5} {sl sl' : Xb} {ob ob' : Objs} (h : sl = sl') (h' : ob = ob') : ALoop keep body Q sl ob = ALoop keep body Q sl' ob' := by rw [h, h']

theorem ALoop.of {keep : List Nat} {body : Z5 → Xb → Objs → Prop} {Q : Z5} {sl : Xb} {ob : Objs} {ι : Type} (S : ι → Xb) (O : ι → Objs) (I : ι → Prop) (μ : ι → Nat) (i0 : ι) (h0 : I i0) (hs : Xd sl keep = S i0) (ho : ob = O i0)
  (step : ∀ i, I i → body (Zt (sub keep (fresh (O i)) fun sl' ob' => ∃ j, I j ∧ μ j < μ i ∧ sl' = S j ∧ ob' = O j) Q) (S i) (O i)) : ALoop keep body Q sl ob :=
 ⟨⟨ι, S, O, I, μ, i0, h0, hs, ho, step⟩⟩

theorem ALoop.go {keep : List Nat} {body : Z5 → Xb → Objs → Prop} {Q : Z5} {sl : Xb} {ob : Objs} {ι : Type} (S : ι → Xb) (O : ι → Objs) (I : ι → Prop) (μ : ι → Nat) (i0 : ι) (h0 : I i0) (hs : Xd sl keep = S i0) (ho : ob = O i0)
  (step : ∀ i, I i → ∀ R : Z5, (∀ kp j sl' ob', I j → μ j < μ i → Xd sl' keep = S j → Yt (young (fresh (O i)) kp) ob' = O j → U4 (young (fresh (O i)) kp) (S j) = true → noMenO (young (fresh (O i)) kp) (O j) = true → R .normal sl' ob') →
   (∀ n sl' ob', Q (.exit n) sl' ob' → R (.exit n) sl' ob') → (∀ sl' ob', Q .ret sl' ob' → R .ret sl' ob') → (∀ v sl' ob', Q (.panic v) sl' ob' → R (.panic v) sl' ob') → body R (S i) (O i)) : ALoop keep body Q sl ob := by
 refine ALoop.of S O I μ i0 h0 hs ho fun i hi => step i hi _ (fun kp j sl' ob' h1 h2 h3 h4 h5 h6 => ?_) (fun _ _ _ h => h) (fun _ _ h => h) (fun _ _ _ h => h)
 simp only [Zt, sub]
 refine ⟨kp, ?_⟩
 rw [h3, h4]
 exact ⟨h5, h6, j, h1, h2, rfl, rfl⟩
@[congr] theorem cwp_congr {P : Prg} {s : S} {Q : Z5} {sl sl' : Xb} {ob ob' : Objs} (h : sl = sl') (h' : ob = ob') : cwp P s Q sl ob = cwp P s Q sl' ob' := by rw [h, h']
end Go.Ab
/- Expressions: what an operation that only reads yields, as a value. Over any program; no condition. -/
namespace Go.Ab
open Go

def Xa8 : V → V → V → V
 | .d (.bool t), .d (.bool x), .d (.bool y) => .d (.bool (if t then x else y))
 | .d (.bool t), x, y => if t then x else y
 | _, _, _ => .any
def X2w : V → V
 | .d (.bool b) => .d (.bool (!b))
 | _ => .any
def Ybr : V → V
 | .d (.int k n) => .d (.int k (k.wrap (0 - n)))
 | _ => .any
def Xzf : V → V
 | .d (.int k n) => .d (.int k (Yn .xor k (if k.signed then -1 else k.max) n))
 | _ => .any
def mxV : V → V → V
 | .d (.int k a), .d (.int _ b) => .d (.int k (if b > a then b else a))
 | _, _ => .any
def Wq (op : BinOp) (k : IntKind) (a b : Int) : V :=
 match op with
 | .add => .d (.int k (k.wrap (a + b)))
 | .sub => .d (.int k (k.wrap (a - b)))
 | .mul => .d (.int k (k.wrap (a * b)))
 | .quo => .d (.int k (k.wrap (a.tdiv b)))
 | .rem => .d (.int k (a.tmod b))
 | .and | .or | .xor | .andNot => .d (.int k (Yn op k a b))
 | .shl => .d (.int k (k.wrap (a * 2 ^ (min b.toNat k.bits))))
 | .shr => .d (.int k (a.fdiv (2 ^ (min b.toNat k.bits))))
 | .eql => .d (.bool (a == b))
 | .neq => .d (.bool (a != b))
 | .lss => .d (.bool (decide (a < b)))
 | .leq => .d (.bool (decide (a ≤ b)))
 | .gtr => .d (.bool (decide (b < a)))
 | .geq => .d (.bool (decide (b ≤ a)))
def Xx0 (op : BinOp) (x y : List UInt8) : V :=
 match op with
 | .add => .d (.str (x ++ y))
 | .eql => .d (.bool (x == y))
 | .neq => .d (.bool (x != y))
 | .lss => .d (.bool (Op.bytesLess x y))
 | .leq => .d (.bool (Op.bytesLess x y || x == y))
 | .gtr => .d (.bool (!(Op.bytesLess x y || x == y)))
 | .geq => .d (.bool (!Op.bytesLess x y))
 | _ => .any
def Xyr (op : BinOp) : V → V → V
 | .d (.int k a), .d (.int _ b) => Wq op k a b
 | .d (.str x), .d (.str y) => Xx0 op x y
 | _, _ => .any
def X9f (e : Bool) : V → V → V
 | .d (.bool x), .d (.bool y) => .d (.bool ((x == y) == e))
 | _, _ => .any
def Uz (e : Bool) : V → V
 | .d .nili => .d (.bool e)
 | .iface _ _ => .d (.bool (!e))
 | .d (.iface _ _) => .d (.bool (!e))
 | _ => .any
def X23 (e : Bool) : V → V
 | .d .nilp => .d (.bool e)
 | .d (.ref _) => .d (.bool (!e))
 | .ptr _ _ => .d (.bool (!e))
 | _ => .any
def Xzv (e : Bool) : V → V
 | .d .nilf => .d (.bool e)
 | .d (.fn _ _ _) => .d (.bool (!e))
 | .fn _ _ _ => .d (.bool (!e))
 | _ => .any
def X29 : V → V
 | .sl id n => .sd id n
 | .d .nils => .d .nilp
 | _ => .any
def Xzh (k : IntKind) : V → V
 | .d (.int _ n) => .d (.int k (k.wrap n))
 | _ => .any
def X9k : V → V
 | .d (.str s) => .d (.str s)
 | _ => .any
def X4u : V → V → V
 | .d (.str s), .d (.int _ n) => .d (.int .u8 (s.getD n.toNat 0).toNat)
 | _, _ => .any
def Xbv (z : Nat) : V → V → V
 | .d (.list _ xs), .d (.int _ n) => .d (.ref (xs.getD n.toNat default))
 | .sl id n, .d (.int _ m) => .ep id n z m.toNat 0 []
 | .bs id p lo _, .d (.int _ m) => .ptr id (p ++ [lo + m.toNat])
 | _, _ => .any
def Xdt : V → V → V
 | .ptr id p, .d (.int _ n) => .ptr id (p ++ [n.toNat])
 | .d (.ref (.agg xs)), .d (.int _ n) => .d (.ref (xs.getD n.toNat default))
 | _, _ => .any
def Xhy (f fo : Nat) : V → V
 | .ptr id p => .ptr id (p ++ [f])
 | .ep id n z i g p => .ep id n z i (g + fo) (p ++ [f])
 | .d (.ref (.agg xs)) => .d (.ref (xs.getD f default))
 | _ => .any
def Yhp (f : Nat) : Option (List V) → V
 | some ks => ks.getD f .any
 | none => .any
def Xws : Option V → V
 | some v => v
 | none => .any
def ldV (ob : Objs) : V → V
 | .ptr id p => Xws (atO ob id p)
 | .d (.ref x) => .d x
 | .ep id m z i f p => Xws (atE ob id m z i f p)
 | _ => .any
def Xh7 : V → V
 | .d (.str s) => .d (.int .i64 s.length)
 | _ => .any
def Xbw : V → V
 | .d (.list _ xs) => .d (.int .i64 xs.length)
 | .d .nils => .d (.int .i64 0)
 | .sl _ n => .d (.int .i64 n)
 | .bs _ _ _ n => .d (.int .i64 n)
 | _ => .any
def Xsd (len : Nat) (K : Nat → Nat → V) : Option V → Option V → V
 | none, none => K 0 len
 | some (.d (.int _ l)), none => K l.toNat len
 | none, some (.d (.int _ h)) => K 0 h.toNat
 | some (.d (.int _ l)), some (.d (.int _ h)) => K l.toNat h.toNat
 | _, _ => .any
def Qc (lo hi : Option V) : V → V
 | .d (.str s) => Xsd s.length (fun l h => .d (.str ((s.take h).drop l))) lo hi
 | _ => .any
def Xmj (lo hi : Option V) : V → V
 | .d (.list sz xs) => Xsd xs.length (fun l h => .d (.list sz ((xs.take h).drop l))) lo hi
 | _ => .any
def X3h (i : Nat) : V → V
 | .tup xs => xs.getD i .any
 | _ => .any
def Xx1 (t : Nat) (z : D) : V → V
 | .iface t' v => if t' = t then .tup [v, .d (.bool true)] else .tup [.d z, .d (.bool false)]
 | .d (.iface t' x) => if t' = t then .tup [.d x, .d (.bool true)] else .tup [.d z, .d (.bool false)]
 | .d .nili => .tup [.d z, .d (.bool false)]
 | _ => .any

def X3f (e : Bool) : V → V → V
 | .d x, .d y => .d (.bool (D.eqb x y == e))
 | _, _ => .any
def Xl7 : V → V → V
 | .d (.agg xs), .d (.int _ n) => .d (xs.getD n.toNat default)
 | _, _ => .any

def C.val (sl : Xb) (ob : Objs) : C → V
 | .mv x => x.ev sl
 | .pick c a b => Xa8 (c.ev sl) (a.ev sl) (b.ev sl)
 | .not x => X2w (x.ev sl)
 | .neg x => Ybr (x.ev sl)
 | .cpl x => Xzf (x.ev sl)
 | .mx x y => mxV (x.ev sl) (y.ev sl)
 | .bin op x y => Xyr op (x.ev sl) (y.ev sl)
 | .beq e x y => X9f e (x.ev sl) (y.ev sl)
 | .isnil e x => Uz e (x.ev sl)
 | .pnil e x => X23 e (x.ev sl)
 | .fnil e x => Xzv e (x.ev sl)
 | .peq e _ _ => .d (.bool e)
 | .usd x => X29 (x.ev sl)
 | .cvi k x => Xzh k (x.ev sl)
 | .cvs x => X9k (x.ev sl)
 | .idx x i => X4u (x.ev sl) (i.ev sl)
 | .idxA z x i => Xbv z (x.ev sl) (i.ev sl)
 | .idxP _ _ x i => Xdt (x.ev sl) (i.ev sl)
 | .fldA f fo x => Xhy f fo (x.ev sl)
 | .fld f _ _ _ x => Yhp f (x.ev sl).kids
 | .ld _ _ x => ldV ob (x.ev sl)
 | .nilc x => x.ev sl
 | .lenS x => Xh7 (x.ev sl)
 | .lenL x => Xbw (x.ev sl)
 | .lenA n => .d (.int .i64 n)
 | .slcS x lo hi => Qc (lo.map (A.ev sl)) (hi.map (A.ev sl)) (x.ev sl)
 | .slcL _ x lo hi => Xmj (lo.map (A.ev sl)) (hi.map (A.ev sl)) (x.ev sl)
 | .ext x i => X3h i (x.ev sl)
 | .bld _ _ => .any
 | .mkf f first cap => Xww f (first.map (A.ev sl)) (cap.map (A.ev sl))
 | .mki t x => Xvk t (x.ev sl)
 | .tas t z x => Xx1 t z (x.ev sl)
 | .eqD _ e x y => X3f e (x.ev sl) (y.ev sl)
 | .aix _ _ _ x i => Xl7 (x.ev sl) (i.ev sl)

def C.ok (sl : Xb) (ob : Objs) (c : C) : Prop := c.wp sl ob fun v => v = c.val sl ob

theorem Xo8 {op : BinOp} {k k' : IntKind} {a b : Int} {K K' : V → Prop} (hk : ∀ v, K v → K' v) (h : Xki op k k' a b K) : Xki op k k' a b K' := by
 cases op <;> simp only [Xki] at h ⊢ <;> first | exact ⟨h.1, hk _ h.2⟩ | exact ⟨h.1, h.2.1, hk _ h.2.2⟩
theorem Xrz {op : BinOp} {a b : List UInt8} {K K' : V → Prop} (hk : ∀ v, K v → K' v) (h : Xm7 op a b K) : Xm7 op a b K' := by
 cases op <;> simp only [Xm7] at h ⊢ <;> first | exact hk _ h | exact ⟨h.1, hk _ h.2⟩ | exact h.elim
theorem Xam {n : Nat} {K K' : Nat → Nat → Prop} (hk : ∀ l h, K l h → K' l h) {lo hi : Option V} (h : V9 n K lo hi) : V9 n K' lo hi := by
 unfold V9 at h ⊢
 split <;> simp_all
theorem Vf {K K' : List V → Prop} (hk : ∀ l, K l → K' l) : ∀ (ps : List (Nat × V)) (ks : List V), Um ks ps K → Um ks ps K'
 | [], _, h => hk _ h
 | (_, _) :: r, _, h => ⟨h.1, h.2.1, h.2.2.1, Vf hk r _ h.2.2.2⟩
theorem C.wp_mono {sl : Xb} {ob : Objs} {K K' : V → Prop} (hk : ∀ v, K v → K' v) (c : C) (h : c.wp sl ob K) : c.wp sl ob K' := by
 cases c <;> simp only [C.wp] at h ⊢
 case mv => exact hk _ h
 case lenA => exact hk _ h
 case mkf => exact hk _ h
 case mki => exact hk _ h
 case bld => exact Vf (fun _ => hk _) _ _ h
 case bin x y =>
  generalize A.ev sl x = v at h ⊢; generalize A.ev sl y = u at h ⊢
  unfold Xj2 at h; split at h
  ·exact Xo8 hk h
  ·exact Xrz hk h
  ·exact h.elim
 case slcS x lo hi =>
  generalize A.ev sl x = v at h ⊢
  unfold Xb2 at h; split at h
  ·exact Xam (fun _ _ => hk _) h
  ·exact h.elim
 case slcL x lo hi =>
  generalize A.ev sl x = v at h ⊢
  unfold Xb1 at h; split at h
  ·exact ⟨h.1, Xam (fun _ _ => hk _) h.2⟩
  ·exact h.elim
 case pick x y z =>
  generalize A.ev sl x = v at h ⊢; generalize A.ev sl y = u at h ⊢; generalize A.ev sl z = t at h ⊢
  unfold Q1 at h; split at h
  ·exact hk _ h
  ·rename_i hn; simp only [Q1]; exact ⟨fun e => hk _ (h.1 e), fun e => hk _ (h.2 e)⟩
  ·exact h.elim
 case fld x =>
  generalize (A.ev sl x).kids = v at h ⊢
  unfold Xzu at h; split at h
  ·exact ⟨h.1, h.2.1, h.2.2.1, h.2.2.2.1, hk _ h.2.2.2.2⟩
  ·exact h.elim
 case fldA x =>
  generalize A.ev sl x = v at h ⊢
  unfold Qp at h; split at h
  ·simp only [Qp]
   generalize Yr _ = v at h ⊢
   unfold Ja at h; split at h
   ·exact ⟨h.1, h.2.1, hk _ h.2.2⟩
   ·exact h.elim
  ·exact ⟨h.1, h.2.1, hk _ h.2.2⟩
  ·exact hk _ h
  ·exact h.elim
 case ld x =>
  generalize A.ev sl x = v at h ⊢
  unfold ldK at h; split at h
  ·simp only [ldK]
   generalize atO _ _ _ = v at h ⊢
   unfold Xf4 at h; split at h
   ·exact ⟨h.1, h.2.1, hk _ h.2.2⟩
   ·exact h.elim
  ·exact ⟨h.1, h.2.1, hk _ h.2.2⟩
  ·simp only [ldK]
   generalize atE _ _ _ _ _ _ _ = v at h ⊢
   unfold Xf4 at h; split at h
   ·exact ⟨h.1, h.2.1, hk _ h.2.2⟩
   ·exact h.elim
  ·exact h.elim
 case tas x =>
  generalize A.ev sl x = v at h ⊢
  unfold Xv7 at h; split at h
  ·exact ⟨fun e => hk _ (h.1 e), fun e => hk _ (h.2 e)⟩
  ·exact ⟨fun e => hk _ (h.1 e), fun e => hk _ (h.2 e)⟩
  ·exact hk _ h
  ·exact h.elim
 case pnil x => generalize A.ev sl x = v at h ⊢; unfold Xjf at h; split at h <;> first | exact hk _ h | exact h.elim
 case fnil x => generalize A.ev sl x = v at h ⊢; unfold Xhz at h; split at h <;> first | exact hk _ h | exact h.elim
 case usd x => generalize A.ev sl x = v at h ⊢; unfold Xmz at h; split at h <;> first | exact ⟨h.1, hk _ h.2⟩ | exact hk _ h | exact h.elim
 case peq x y => generalize A.ev sl x = v at h ⊢; generalize A.ev sl y = u at h ⊢; unfold X3n at h; split at h <;> first | exact ⟨h.1, h.2.1, h.2.2.1, hk _ h.2.2.2⟩ | exact h.elim
 case not x => generalize A.ev sl x = v at h ⊢; unfold Xql at h; split at h <;> first | exact hk _ h | exact h.elim
 case cpl x => generalize A.ev sl x = v at h ⊢; unfold Xse at h; split at h <;> first | exact hk _ h | exact h.elim
 case mx x y => generalize A.ev sl x = v at h ⊢; generalize A.ev sl y = u at h ⊢; unfold mxK at h; split at h <;> first | exact hk _ h | exact h.elim
 case neg x => generalize A.ev sl x = v at h ⊢; unfold X2v at h; split at h <;> first | exact hk _ h | exact h.elim
 case isnil x => generalize A.ev sl x = v at h ⊢; unfold Wm at h; split at h <;> first | exact hk _ h | exact h.elim
 case cvi x => generalize A.ev sl x = v at h ⊢; unfold Xok at h; split at h <;> first | exact hk _ h | exact h.elim
 case cvs x => generalize A.ev sl x = v at h ⊢; unfold Xzi at h; split at h <;> first | exact hk _ h | exact h.elim
 case nilc x => generalize A.ev sl x = v at h ⊢; unfold Js at h; split at h <;> first | exact hk _ h | exact h.elim
 case lenS x => generalize A.ev sl x = v at h ⊢; unfold Xay at h; split at h <;> first | exact hk _ h | exact h.elim
 case lenL x => generalize A.ev sl x = v at h ⊢; unfold U1 at h; split at h <;> first | exact hk _ h | exact ⟨h.1, hk _ h.2⟩ | exact h.elim
 case ext x _ => generalize A.ev sl x = v at h ⊢; unfold Xsg at h; split at h <;> first | exact ⟨h.1, hk _ h.2⟩ | exact h.elim
 case eqD x y => generalize A.ev sl x = v at h ⊢; generalize A.ev sl y = u at h ⊢; unfold X4i at h; split at h <;> first | exact ⟨h.1, h.2.1, hk _ h.2.2⟩ | exact h.elim
 case aix x y => generalize A.ev sl x = v at h ⊢; generalize A.ev sl y = u at h ⊢; unfold Xh5 at h; split at h <;> first | exact ⟨h.1, h.2.1, h.2.2.1, hk _ h.2.2.2⟩ | exact h.elim
 case beq x y => generalize A.ev sl x = v at h ⊢; generalize A.ev sl y = u at h ⊢; unfold Xyp at h; split at h <;> first | exact hk _ h | exact h.elim
 case idx x y => generalize A.ev sl x = v at h ⊢; generalize A.ev sl y = u at h ⊢; unfold Xsh at h; split at h <;> first | exact ⟨h.1, hk _ h.2⟩ | exact h.elim
 case idxA x y => generalize A.ev sl x = v at h ⊢; generalize A.ev sl y = u at h ⊢; unfold Qs at h; split at h <;> first | exact ⟨h.1, h.2.1, hk _ h.2.2⟩ | exact h.elim
 case idxP x y => generalize A.ev sl x = v at h ⊢; generalize A.ev sl y = u at h ⊢; unfold Jr at h; split at h <;> first | exact ⟨h.1, h.2.1, hk _ h.2.2⟩ | exact ⟨h.1, h.2.1, h.2.2.1, hk _ h.2.2.2⟩ | exact h.elim
theorem C.wp_of {sl : Xb} {ob : Objs} {K : V → Prop} {c : C} (h : c.ok sl ob) (hK : K (c.val sl ob)) : c.wp sl ob K :=
 C.wp_mono (fun _ e => e ▸ hK) c h
end Go.Ab
/- Regions folded into expressions: the expressions, what they yield, and how a region is folded. Over any program; no condition. -/
namespace Go.Ab
open Go

inductive E where
 | a (x : A)
 | u (c : C) (x : E)
 | b (c : C) (x y : E)
 | t (c : C) (x y z : E)
 | ite (c x y : E)
 | call (f : Nat) (x : E)
 | nil
 | cons (x r : E)

structure Fn where
 pre : List V → Prop
 val : List V → V
abbrev Tab := List (Nat × Fn)
def U2 : Tab → Nat → Option Fn
 | [], _ => none
 | (j, x) :: r, k => if j = k then some x else U2 r k
def TOk (P : Prg) (T : Tab) : Prop := ∀ f F, U2 T f = some F → ∀ vs, F.pre vs → ∀ (ob : Objs) (K : V → Prop), K (F.val vs) → PCall P f vs ob K

def isB (pol : Bool) : V → Bool
 | .d (.bool b) => b == pol
 | _ => false
def Xan : V → Prop
 | .d (.bool _) => True
 | _ => False
def Xoi (x : V) : V → V
 | .tup xs => .tup (x :: xs)
 | _ => .any
def Xs7 : Option Fn → V → V
 | some F, .tup vs => F.val vs
 | _, _ => .any
def Xs6 : Option Fn → V → Prop
 | some F, .tup vs => F.pre vs
 | _, _ => False

def E.val (T : Tab) (sl : Xb) (ob : Objs) : E → V
 | .a x => x.ev sl
 | .u c x => c.val [(0, x.val T sl ob)] ob
 | .b c x y => c.val [(0, x.val T sl ob), (1, y.val T sl ob)] ob
 | .t c x y z => c.val [(0, x.val T sl ob), (1, y.val T sl ob), (2, z.val T sl ob)] ob
 | .ite c x y => Xa8 (c.val T sl ob) (x.val T sl ob) (y.val T sl ob)
 | .call f x => Xs7 (U2 T f) (x.val T sl ob)
 | .nil => .tup []
 | .cons x r => Xoi (x.val T sl ob) (r.val T sl ob)
def E.ok (T : Tab) (sl : Xb) (ob : Objs) : E → Prop
 | .a _ => True
 | .u c x => x.ok T sl ob ∧ c.ok [(0, x.val T sl ob)] ob
 | .b c x y => x.ok T sl ob ∧ y.ok T sl ob ∧ c.ok [(0, x.val T sl ob), (1, y.val T sl ob)] ob
 | .t c x y z => x.ok T sl ob ∧ y.ok T sl ob ∧ z.ok T sl ob ∧ c.ok [(0, x.val T sl ob), (1, y.val T sl ob), (2, z.val T sl ob)] ob
 | .ite c x y => c.ok T sl ob ∧ Xan (c.val T sl ob) ∧ (isB true (c.val T sl ob) = true → x.ok T sl ob) ∧ (isB false (c.val T sl ob) = true → y.ok T sl ob)
 | .call f x => x.ok T sl ob ∧ Xs6 (U2 T f) (x.val T sl ob)
 | .nil => True
 | .cons x r => x.ok T sl ob ∧ r.ok T sl ob

def A.men (k : Nat) : A → Bool
 | .t j => j == k
 | _ => false
def E.men (k : Nat) : E → Bool
 | .a x => x.men k
 | .u _ x => x.men k
 | .b _ x y => x.men k || y.men k
 | .t _ x y z => x.men k || y.men k || z.men k
 | .ite x y z => x.men k || y.men k || z.men k
 | .call _ x => x.men k
 | .nil => false
 | .cons x y => x.men k || y.men k
def C.rd : C → Bool
 | .ld _ _ _ => true
 | _ => false
def E.rd : E → Bool
 | .a _ => false
 | .u c x => c.rd || x.rd
 | .b c x y => c.rd || x.rd || y.rd
 | .t c x y z => c.rd || x.rd || y.rd || z.rd
 | .ite x y z => x.rd || y.rd || z.rd
 | .call _ x => x.rd
 | .nil => false
 | .cons x y => x.rd || y.rd
def E.isA : E → Bool
 | .a _ => true
 | _ => false

theorem E.val_sl {T : Tab} {sl : Xb} {ob : Objs} {k : Nat} {v : V} : ∀ {e : E}, e.men k = false → e.val T ((k, v) :: sl) ob = e.val T sl ob
 | .a x, h => by
  cases x <;> simp only [E.val, A.ev]
  rename_i j
  simp only [E.men, A.men, beq_eq_false_iff_ne, ne_eq] at h
  have h' : ¬ k = j := fun e => h e.symm
  simp [look, h']
 | .u c x, h => by simp only [E.men] at h; simp only [E.val, E.val_sl h]
 | .b c x y, h => by simp only [E.men, Bool.or_eq_false_iff] at h; simp only [E.val, E.val_sl h.1, E.val_sl h.2]
 | .t c x y z, h => by simp only [E.men, Bool.or_eq_false_iff] at h; simp only [E.val, E.val_sl h.1.1, E.val_sl h.1.2, E.val_sl h.2]
 | .ite x y z, h => by simp only [E.men, Bool.or_eq_false_iff] at h; simp only [E.val, E.val_sl h.1.1, E.val_sl h.1.2, E.val_sl h.2]
 | .call f x, h => by simp only [E.men] at h; simp only [E.val, E.val_sl h]
 | .nil, _ => rfl
 | .cons x y, h => by simp only [E.men, Bool.or_eq_false_iff] at h; simp only [E.val, E.val_sl h.1, E.val_sl h.2]
theorem C.val_ob {sl : Xb} {ob ob' : Objs} {c : C} (h : c.rd = false) : c.val sl ob = c.val sl ob' := by
 cases c <;> simp_all [C.rd, C.val]
theorem E.val_ob {T : Tab} {sl : Xb} {ob ob' : Objs} : ∀ {e : E}, e.rd = false → e.val T sl ob = e.val T sl ob'
 | .a x, h => rfl
 | .u c x, h => by simp only [E.rd, Bool.or_eq_false_iff] at h; simp only [E.val, E.val_ob (ob' := ob') h.2, C.val_ob (ob' := ob') h.1]
 | .b c x y, h => by simp only [E.rd, Bool.or_eq_false_iff] at h; simp only [E.val, E.val_ob (ob' := ob') h.1.2, E.val_ob (ob' := ob') h.2, C.val_ob (ob' := ob') h.1.1]
 | .t c x y z, h => by simp only [E.rd, Bool.or_eq_false_iff] at h; simp only [E.val, E.val_ob (ob' := ob') h.1.1.2, E.val_ob (ob' := ob') h.1.2, E.val_ob (ob' := ob') h.2, C.val_ob (ob' := ob') h.1.1.1]
 | .ite x y z, h => by simp only [E.rd, Bool.or_eq_false_iff] at h; simp only [E.val, E.val_ob (ob' := ob') h.1.1, E.val_ob (ob' := ob') h.1.2, E.val_ob (ob' := ob') h.2]
 | .call f x, h => by simp only [E.rd] at h; simp only [E.val, E.val_ob (ob' := ob') h]
 | .nil, _ => rfl
 | .cons x y, h => by simp only [E.rd, Bool.or_eq_false_iff] at h; simp only [E.val, E.val_ob (ob' := ob') h.1, E.val_ob (ob' := ob') h.2]


abbrev Vb := List (Nat × Bool)
abbrev Sg := List (Nat × Option (Vb × E))
def Zj : Sg → Nat → Option (Option (Vb × E))
 | [], _ => none
 | (j, x) :: r, k => if j = k then some x else Zj r k
def ent (σ : Sg) (k : Nat) : Option (Vb × E) := match Zj σ k with
 | none => some ([], .a (.t k))
 | some x => x
def Xl (sl : Xb) (p : Vb) : Bool := p.all fun g => isB g.2 (look sl g.1)
def Y2 (T : Tab) (sl : Xb) (ob : Objs) (p : List (E × Bool)) : Bool := p.all fun g => isB g.2 (g.1.val T sl ob)
def Inv (T : Tab) (σ : Sg) (sl sl0 : Xb) (ob : Objs) : Prop := ∀ k p e, ent σ k = some (p, e) →
 (Xl sl p = true → look sl k = e.val T sl0 ob) ∧ (Xl sl p = false → look sl k = .undef)

def opE (σ : Sg) (p : Vb) : A → Option E
 | .t k => match ent σ k with
  | some (q, e) => if q.isPrefixOf p then some e else none
  | none => none
 | x => some (.a x)
def Zp (σ : Sg) (p : Vb) (c : C) (x : A) : Option E := match opE σ p x with
 | some x => some (.u c x)
 | none => none
def Vj (σ : Sg) (p : Vb) (c : C) (x y : A) : Option E := match opE σ p x, opE σ p y with
 | some x, some y => some (.b c x y)
 | _, _ => none
def Xmc (σ : Sg) (p : Vb) (c : C) (x y z : A) : Option E := match opE σ p x, opE σ p y, opE σ p z with
 | some x, some y, some z => some (.t c x y z)
 | _, _, _ => none
def X20 (σ : Sg) (p : Vb) (g : Nat) (x y : A) : Option E := match opE σ p (.t g), opE σ (p ++ [(g, true)]) x, opE σ (p ++ [(g, false)]) y with
 | some c, some x, some y => some (.ite c x y)
 | _, _, _ => none
def Xhl (σ : Sg) (p : Vb) : List A → Option E
 | [] => some .nil
 | x :: r => match opE σ p x, Xhl σ p r with
  | some x, some r => some (.cons x r)
  | _, _ => none

def C.lift (σ : Sg) (p : Vb) : C → Option E
 | .mv x => opE σ p x
 | .pick (.t g) x y => X20 σ p g x y
 | .pick _ _ _ => none
 | .not x => Zp σ p (.not (.t 0)) x
 | .neg x => Zp σ p (.neg (.t 0)) x
 | .cpl x => Zp σ p (.cpl (.t 0)) x
 | .mx x y => Vj σ p (.mx (.t 0) (.t 1)) x y
 | .bin o x y => Vj σ p (.bin o (.t 0) (.t 1)) x y
 | .beq e x y => Vj σ p (.beq e (.t 0) (.t 1)) x y
 | .isnil e x => Zp σ p (.isnil e (.t 0)) x
 | .pnil e x => Zp σ p (.pnil e (.t 0)) x
 | .fnil e x => Zp σ p (.fnil e (.t 0)) x
 | .peq e x y => Vj σ p (.peq e (.t 0) (.t 1)) x y
 | .usd x => Zp σ p (.usd (.t 0)) x
 | .cvi k x => Zp σ p (.cvi k (.t 0)) x
 | .cvs x => Zp σ p (.cvs (.t 0)) x
 | .idx x i => Vj σ p (.idx (.t 0) (.t 1)) x i
 | .idxA z x i => Vj σ p (.idxA z (.t 0) (.t 1)) x i
 | .idxP n z x i => Vj σ p (.idxP n z (.t 0) (.t 1)) x i
 | .fldA f fo x => Zp σ p (.fldA f fo (.t 0)) x
 | .fld f fo n ag x => Zp σ p (.fld f fo n ag (.t 0)) x
 | .ld n ag x => Zp σ p (.ld n ag (.t 0)) x
 | .nilc x => Zp σ p (.nilc (.t 0)) x
 | .lenS x => Zp σ p (.lenS (.t 0)) x
 | .lenL x => Zp σ p (.lenL (.t 0)) x
 | .lenA n => some (.a (.int .i64 n))
 | .slcS x none none => Zp σ p (.slcS (.t 0) none none) x
 | .slcS x (some l) none => Vj σ p (.slcS (.t 0) (some (.t 1)) none) x l
 | .slcS x none (some h) => Vj σ p (.slcS (.t 0) none (some (.t 1))) x h
 | .slcS x (some l) (some h) => Xmc σ p (.slcS (.t 0) (some (.t 1)) (some (.t 2))) x l h
 | .slcL z x none none => Zp σ p (.slcL z (.t 0) none none) x
 | .slcL z x (some l) none => Vj σ p (.slcL z (.t 0) (some (.t 1)) none) x l
 | .slcL z x none (some h) => Vj σ p (.slcL z (.t 0) none (some (.t 1))) x h
 | .slcL z x (some l) (some h) => Xmc σ p (.slcL z (.t 0) (some (.t 1)) (some (.t 2))) x l h
 | .ext x i => Zp σ p (.ext (.t 0) i) x
 | .mki t x => Zp σ p (.mki t (.t 0)) x
 | .tas t z x => Zp σ p (.tas t z (.t 0)) x
 | .eqD ty e x y => Vj σ p (.eqD ty e (.t 0) (.t 1)) x y
 | .aix n z ag x i => Vj σ p (.aix n z ag (.t 0) (.t 1)) x i
 | .bld _ _ => none
 | .mkf _ _ _ => none
def I.lift (fs : List Nat) (σ : Sg) (p : Vb) : I → Option E
 | .c x => x.lift σ p
 | .pcall f args => if fs.contains f then (match Xhl σ p args with | some e => some (.call f e) | none => none) else none
 | _ => none

def Xbj (σ : Sg) (p : Vb) : A → List Nat
 | .t k => match ent σ k with
  | some (q, _) => if q == p then [k] else []
  | none => []
 | _ => []
def X76 (σ : Sg) (p : Vb) : List A → List Nat
 | [] => []
 | x :: r => Xbj σ p x ++ X76 σ p r
def C.cons (σ : Sg) (p : Vb) : C → List Nat
 | .mv x | .not x | .neg x | .cpl x | .isnil _ x | .pnil _ x | .fnil _ x | .usd x | .cvi _ x | .cvs x | .fldA _ _ x | .fld _ _ _ _ x | .ld _ _ x | .nilc x | .lenS x | .lenL x | .ext x _ | .mki _ x | .tas _ _ x => Xbj σ p x
 | .bin _ x y | .mx x y | .beq _ x y | .peq _ x y | .idx x y | .idxA _ x y | .idxP _ _ x y | .eqD _ _ x y | .aix _ _ _ x y => Xbj σ p x ++ Xbj σ p y
 | .slcS x none none | .slcL _ x none none => Xbj σ p x
 | .slcS x (some y) none | .slcL _ x (some y) none | .slcS x none (some y) | .slcL _ x none (some y) => Xbj σ p x ++ Xbj σ p y
 | .slcS x (some y) (some z) | .slcL _ x (some y) (some z) => Xbj σ p x ++ Xbj σ p y ++ Xbj σ p z
 | .pick (.t g) x y => Xbj σ p (.t g) ++ Xbj σ (p ++ [(g, true)]) x ++ Xbj σ (p ++ [(g, false)]) y
 | _ => []
def I.cons (σ : Sg) (p : Vb) : I → List Nat
 | .c x => x.cons σ p
 | .pcall _ args => X76 σ p args
 | _ => []
def I.gcons (σ : Sg) (p : Vb) : I → List Nat
 | .c (.pick (.t g) _ _) => Xbj σ p (.t g)
 | _ => []

section
variable {P : Prg} {T : Tab} {σ : Sg} {sl sl0 : Xb} {ob : Objs} {p : Vb}

theorem Jd {q : Vb} (h : q.isPrefixOf p = true) (hp : Xl sl p = true) : Xl sl q = true := by
 rw [List.isPrefixOf_iff_prefix] at h
 obtain ⟨t, rfl⟩ := h
 simp only [Xl, List.all_append, Bool.and_eq_true] at hp ⊢
 exact hp.1
theorem Zc (hI : Inv T σ sl sl0 ob) (hp : Xl sl p = true) {x : A} {e : E} (h : opE σ p x = some e) : e.val T sl0 ob = x.ev sl := by
 cases x with
 | t k =>
  simp only [opE] at h
  split at h
  ·rename_i q e' he
   split at h
   ·rename_i hq
    cases h
    exact ((hI k q e he).1 (Jd hq hp)).symm
   ·cases h
  ·cases h
 | _ => simp only [opE] at h; cases h; rfl
theorem Xks {c : C} {x : A} {e : E} (h : Zp σ p c x = some e) : ∃ ex, e = .u c ex ∧ opE σ p x = some ex := by
 unfold Zp at h; split at h
 ·cases h; exact ⟨_, rfl, by assumption⟩
 ·cases h
theorem Xkt {c : C} {x y : A} {e : E} (h : Vj σ p c x y = some e) : ∃ ex ey, e = .b c ex ey ∧ opE σ p x = some ex ∧ opE σ p y = some ey := by
 unfold Vj at h; split at h
 ·cases h; exact ⟨_, _, rfl, by assumption, by assumption⟩
 ·cases h
theorem Xku {c : C} {x y z : A} {e : E} (h : Xmc σ p c x y z = some e) : ∃ ex ey ez, e = .t c ex ey ez ∧ opE σ p x = some ex ∧ opE σ p y = some ey ∧ opE σ p z = some ez := by
 unfold Xmc at h; split at h
 ·cases h; exact ⟨_, _, _, rfl, by assumption, by assumption, by assumption⟩
 ·cases h
theorem Xem {g : Nat} {x y : A} {e : E} (h : X20 σ p g x y = some e) : ∃ ec ex ey, e = .ite ec ex ey ∧ opE σ p (.t g) = some ec ∧ opE σ (p ++ [(g, true)]) x = some ex ∧ opE σ (p ++ [(g, false)]) y = some ey := by
 unfold X20 at h; split at h
 ·cases h; exact ⟨_, _, _, rfl, by assumption, by assumption, by assumption⟩
 ·cases h
theorem Xe7 (hI : Inv T σ sl sl0 ob) (hp : Xl sl p = true) : ∀ {xs : List A} {e : E}, Xhl σ p xs = some e → e.val T sl0 ob = .tup (xs.map (A.ev sl))
 | [], e, h => by simp only [Xhl] at h; cases h; rfl
 | x :: r, e, h => by
  simp only [Xhl] at h
  split at h
  ·rename_i ex er hx hr
   cases h
   simp only [E.val, Zc hI hp hx, Xe7 hI hp hr, Xoi, List.map_cons]
  ·cases h
theorem Xqw (x y : V) : Xa8 (.d (.bool true)) x y = x := by unfold Xa8; split <;> simp_all
theorem Xqu (x y : V) : Xa8 (.d (.bool false)) x y = y := by unfold Xa8; split <;> simp_all
theorem Xqv {v : V} (h : ¬ Xan v) (x y : V) : Xa8 v x y = .any := by unfold Xa8; split <;> simp_all [Xan]
theorem Xde {v : V} (h : Xan v) : v = .d (.bool true) ∨ v = .d (.bool false) := by
 unfold Xan at h; split at h
 ·rename_i b; cases b <;> simp
 ·exact h.elim

theorem C.lift_sound (hI : Inv T σ sl sl0 ob) (hp : Xl sl p = true) {c : C} {e : E} (h : c.lift σ p = some e) : e.val T sl0 ob = c.val sl ob ∧ (e.ok T sl0 ob → c.ok sl ob) := by
 have l1 : ∀ {c x}, Zp σ p c x = some e → ∃ ex, e = .u c ex ∧ ex.val T sl0 ob = x.ev sl := fun h => by
  obtain ⟨ex, rfl, hx⟩ := Xks h; exact ⟨ex, rfl, Zc hI hp hx⟩
 have l2 : ∀ {c x y}, Vj σ p c x y = some e → ∃ ex ey, e = .b c ex ey ∧ ex.val T sl0 ob = x.ev sl ∧ ey.val T sl0 ob = y.ev sl := fun h => by
  obtain ⟨ex, ey, rfl, hx, hy⟩ := Xkt h; exact ⟨ex, ey, rfl, Zc hI hp hx, Zc hI hp hy⟩
 have l3 : ∀ {c x y z}, Xmc σ p c x y z = some e → ∃ ex ey ez, e = .t c ex ey ez ∧ ex.val T sl0 ob = x.ev sl ∧ ey.val T sl0 ob = y.ev sl ∧ ez.val T sl0 ob = z.ev sl := fun h => by
  obtain ⟨ex, ey, ez, rfl, hx, hy, hz⟩ := Xku h; exact ⟨ex, ey, ez, rfl, Zc hI hp hx, Zc hI hp hy, Zc hI hp hz⟩
 unfold C.lift at h
 split at h
 case h_1 => exact ⟨by rw [Zc hI hp h]; rfl, fun _ => rfl⟩
 case h_2 g x y =>
  obtain ⟨ec, ex, ey, rfl, hc, hx, hy⟩ := Xem h
  have hcv := Zc hI hp hc
  simp only [A.ev] at hcv
  have hpt : ∀ b, look sl g = .d (.bool b) → Xl sl (p ++ [(g, b)]) = true := fun b hb => by
   simp only [Xl, List.all_append, Bool.and_eq_true] at hp ⊢
   exact ⟨hp, by simp [hb, isB]⟩
  simp only [E.val, E.ok, C.val, C.ok, C.wp, X8i, hcv]
  by_cases hb : Xan (look sl g)
  ·rcases Xde hb with hb | hb
   ·have := Zc hI (hpt true hb) hx
    rw [hb]; simp only [Xqw, X22, this]; exact ⟨trivial, fun _ => trivial⟩
   ·have := Zc hI (hpt false hb) hy
    rw [hb]; simp only [Xqu, X21, this]; exact ⟨trivial, fun _ => trivial⟩
  ·rw [Xqv hb, Xqv hb]; exact ⟨rfl, fun h => (hb h.2.1).elim⟩
 case h_26 => cases h; exact ⟨rfl, fun _ => rfl⟩
 all_goals first
  | (cases h; done)
  | (obtain ⟨ex, rfl, hx⟩ := l1 h; simp only [E.val, E.ok, C.val, C.ok, C.wp, X8i, Xh9, hx, Option.map]; exact ⟨trivial, fun h => h.2⟩)
  | (obtain ⟨ex, ey, rfl, hx, hy⟩ := l2 h; simp only [E.val, E.ok, C.val, C.ok, C.wp, X8i, Xh9, Xpm, Nat.reduceBEq, hx, hy, Option.map]; exact ⟨trivial, fun h => h.2.2⟩)
  | (obtain ⟨ex, ey, ez, rfl, hx, hy, hz⟩ := l3 h; simp only [E.val, E.ok, C.val, C.ok, C.wp, X8i, Xh9, Xpm, Nat.reduceBEq, hx, hy, hz, Option.map]; exact ⟨trivial, fun h => h.2.2.2⟩)
end
end Go.Ab
/- Regions folded into expressions: that the fold Xf2 what is shown. Over any program; no condition. -/
namespace Go.Ab
open Go

section
variable {P : Prg} {T : Tab} {σ : Sg} {sl sl0 : Xb} {ob : Objs} {p : Vb}

theorem Zk {x : A} {k : Nat} {ex : E} (hk : k ∈ Xbj σ p x) (h : opE σ p x = some ex) : ent σ k = some (p, ex) := by
 cases x with
 | t j =>
  simp only [Xbj] at hk
  simp only [opE] at h
  split at hk
  ·rename_i q e he
   split at hk
   ·rename_i hq
    simp at hk; subst hk
    simp at hq; subst hq
    rw [he] at h
    simp at h
    rw [he, h]
   ·cases hk
  ·cases hk
 | _ => simp [Xbj] at hk
theorem Yl {g : Nat} {b : Bool} : Xl sl (p ++ [(g, b)]) = (Xl sl p && isB b (look sl g)) := by
 simp [Xl, List.all_append]
theorem Xlj : ∀ {xs : List A} {e : E}, Xhl σ p xs = some e → ∀ {k q ek}, k ∈ X76 σ p xs → ent σ k = some (q, ek) → q = p ∧ (e.ok T sl0 ob → ek.ok T sl0 ob)
 | [], _, _, k, _, _, hk, _ => by simp [X76] at hk
 | x :: r, e, h, k, q, ek, hk, he => by
  simp only [Xhl] at h
  split at h
  ·rename_i ex er hx hr
   cases h
   simp only [X76, List.mem_append] at hk
   rcases hk with hk | hk
   ·have := Zk hk hx
    rw [he] at this; cases this
    exact ⟨rfl, fun h => h.1⟩
   ·obtain ⟨h1, h2⟩ := Xlj hr hk he
    exact ⟨h1, fun h => h2 h.2⟩
  ·cases h

theorem C.cov (hI : Inv T σ sl sl0 ob) {c : C} {e : E} (h : c.lift σ p = some e) {k : Nat} {q : Vb} {ek : E} (hk : k ∈ c.cons σ p) (he : ent σ k = some (q, ek)) (hq : Xl sl q = true) (ho : Xl sl p = true → e.ok T sl0 ob) : ek.ok T sl0 ob := by
 have l1 : ∀ {c x}, Zp σ p c x = some e → k ∈ Xbj σ p x → ek.ok T sl0 ob := fun h hk => by
  obtain ⟨ex, rfl, hx⟩ := Xks h
  have := Zk hk hx
  rw [he] at this; cases this
  exact (ho hq).1
 have l2 : ∀ {c x y}, Vj σ p c x y = some e → k ∈ Xbj σ p x ++ Xbj σ p y → ek.ok T sl0 ob := fun h hk => by
  obtain ⟨ex, ey, rfl, hx, hy⟩ := Xkt h
  rw [List.mem_append] at hk
  rcases hk with hk | hk
  ·have := Zk hk hx
   rw [he] at this; cases this
   exact (ho hq).1
  ·have := Zk hk hy
   rw [he] at this; cases this
   exact (ho hq).2.1
 have l3 : ∀ {c x y z}, Xmc σ p c x y z = some e → k ∈ Xbj σ p x ++ Xbj σ p y ++ Xbj σ p z → ek.ok T sl0 ob := fun h hk => by
  obtain ⟨ex, ey, ez, rfl, hx, hy, hz⟩ := Xku h
  rw [List.mem_append, List.mem_append] at hk
  rcases hk with (hk | hk) | hk
  ·have := Zk hk hx
   rw [he] at this; cases this
   exact (ho hq).1
  ·have := Zk hk hy
   rw [he] at this; cases this
   exact (ho hq).2.1
  ·have := Zk hk hz
   rw [he] at this; cases this
   exact (ho hq).2.2.1
 unfold C.lift at h
 split at h <;> simp only [C.cons] at hk
 case h_1 =>
  have := Zk hk h
  rw [he] at this; cases this
  exact ho hq
 case h_2 g x y =>
  obtain ⟨ec, ex, ey, rfl, hc, hx, hy⟩ := Xem h
  rw [List.mem_append, List.mem_append] at hk
  rcases hk with (hk | hk) | hk
  ·have := Zk hk hc
   rw [he] at this; cases this
   exact (ho hq).1
  ·have := Zk hk hx
   rw [he] at this; cases this
   rw [Yl, Bool.and_eq_true] at hq
   have hv := Zc hI hq.1 hc
   exact (ho hq.1).2.2.1 (by rw [hv]; exact hq.2)
  ·have := Zk hk hy
   rw [he] at this; cases this
   rw [Yl, Bool.and_eq_true] at hq
   have hv := Zc hI hq.1 hc
   exact (ho hq.1).2.2.2 (by rw [hv]; exact hq.2)
 all_goals first
  | (cases h; done)
  | exact l1 h hk
  | exact l2 h hk
  | exact l3 h hk
  | (cases hk; done)
theorem I.cov (hI : Inv T σ sl sl0 ob) {fs : List Nat} {i : I} {e : E} (h : i.lift fs σ p = some e) {k : Nat} {q : Vb} {ek : E} (hk : k ∈ i.cons σ p) (he : ent σ k = some (q, ek)) (hq : Xl sl q = true) (ho : Xl sl p = true → e.ok T sl0 ob) : ek.ok T sl0 ob := by
 cases i <;> simp only [I.lift] at h <;> simp only [I.cons] at hk
 case c x => exact C.cov hI h hk he hq ho
 case pcall f args =>
  split at h
  ·split at h
   ·rename_i e' ha
    cases h
    obtain ⟨rfl, h2⟩ := Xlj (T := T) (sl0 := sl0) (ob := ob) ha hk he
    exact h2 (ho hq).1
   ·cases h
  ·cases h
 all_goals cases h
theorem I.gcov {fs : List Nat} {i : I} {e : E} (h : i.lift fs σ p = some e) {k : Nat} {q : Vb} {ek : E} (hk : k ∈ i.gcons σ p) (he : ent σ k = some (q, ek)) (hq : Xl sl q = true) (ho : Xl sl p = true → e.ok T sl0 ob) : Xan (ek.val T sl0 ob) := by
 unfold I.gcons at hk
 split at hk
 ·rename_i g x y
  simp only [I.lift, C.lift] at h
  obtain ⟨ec, ex, ey, rfl, hc, hx, hy⟩ := Xem h
  have := Zk hk hc
  rw [he] at this; cases this
  exact (ho hq).2.1
 ·cases hk
theorem I.lift_sound (hT : TOk P T) (hI : Inv T σ sl sl0 ob) (hp : Xl sl p = true) {fs : List Nat} {i : I} {e : E} (h : i.lift fs σ p = some e) (ho : e.ok T sl0 ob) {KO Pn : V → Objs → Prop} (hK : KO (e.val T sl0 ob) ob) : i.wp P sl ob KO Pn := by
 cases i <;> simp only [I.lift] at h
 case c x =>
  obtain ⟨h1, h2⟩ := C.lift_sound hI hp h
  simp only [I.wp]
  exact C.wp_of (h2 ho) (by rw [← h1]; exact hK)
 case pcall f args =>
  split at h
  ·split at h
   ·rename_i e' ha
    cases h
    have hv := Xe7 hI hp ha
    simp only [E.ok, E.val, hv] at ho hK
    simp only [I.wp]
    cases hf : U2 T f with
    | none => rw [hf] at ho; exact ho.2.elim
    | some F => rw [hf] at ho hK; exact hT f F hf _ ho.2 _ _ hK
   ·cases h
  ·cases h
 all_goals cases h

theorem Inv.congr {sl' : Xb} (hI : Inv T σ sl sl0 ob) (h : ∀ k, look sl' k = look sl k) : Inv T σ sl' sl0 ob := by
 intro k p e he
 have : Xl sl' p = Xl sl p := by simp only [Xl, h]
 rw [this, h]
 exact hI k p e he

def W1 (d : Nat) (p : Vb) : Bool := p.all fun g => g.1 != d
def Xh0 (σ : Sg) (d : Nat) : Bool := σ.all fun x => match x.2 with
 | some (p, _) => W1 d p
 | none => true
theorem Wl {d : Nat} {v : V} (h : W1 d p = true) : Xl ((d, v) :: sl) p = Xl sl p := by
 induction p with
 | nil => rfl
 | cons g r ih =>
  simp only [W1, List.all_cons, Bool.and_eq_true] at h
  simp only [Xl, List.all_cons] at ih ⊢
  have : look ((d, v) :: sl) g.1 = look sl g.1 := by
   have := h.1; simp at this
   have h' : ¬ d = g.1 := fun e => this e.symm
   simp [look, h']
  rw [this, ih h.2]
theorem Xcl : ∀ {σ : Sg} {d k : Nat} {p : Vb} {e : E}, Xh0 σ d = true → Zj σ k = some (some (p, e)) → W1 d p = true
 | [], _, _, _, _, _, h => by simp [Zj] at h
 | (j, x) :: r, d, k, p, e, hg, h => by
  simp only [Xh0, List.all_cons, Bool.and_eq_true] at hg
  simp only [Zj] at h
  split at h
  ·cases h; exact hg.1
  ·exact Xcl (σ := r) hg.2 h
theorem Uu {d k : Nat} {q : Vb} {e : E} (hg : Xh0 σ d = true) (h : ent σ k = some (q, e)) : W1 d q = true := by
 unfold ent at h
 split at h
 ·cases h; rfl
 ·rename_i x hx; subst h; exact Xcl hg hx

theorem Y6 {k : Nat} {x : Option (Vb × E)} : ent ((k, x) :: σ) k = x := by simp [ent, Zj]
theorem Yu {j k : Nat} {x : Option (Vb × E)} (h : k ≠ j) : ent ((k, x) :: σ) j = ent σ j := by simp [ent, Zj, h]

end
end Go.Ab
/- Regions folded into expressions: the fold itself, and that it Xf2 what is shown. Over any program; no condition. -/
namespace Go.Ab
open Go

inductive It2 where
 | chk (p : List (E × Bool)) (e : E)
 | lt (k : Nat) (p : List (E × Bool)) (e : E)
 | op (d : Option Nat) (i : I)
 | gop (p : List (E × Bool)) (d : Option Nat) (i : I)

def Xey (b : Bool) (v : V) : V := if b then v else .undef

def Wr (P : Prg) (T : Tab) (K : Xb → Objs → Prop) (Pn : V → Xb → Objs → Prop) : List It2 → Xb → Objs → Prop
 | [], sl, ob => K sl ob
 | .chk p e :: r, sl, ob => (Y2 T sl ob p = true → e.ok T sl ob) ∧ Wr P T K Pn r sl ob
 | .lt k p e :: r, sl, ob => (Y2 T sl ob p = true → e.ok T sl ob) ∧ Wr P T K Pn r ((k, Xey (Y2 T sl ob p) (e.val T sl ob)) :: sl) ob
 | .op d i :: r, sl, ob => i.wp P sl ob (fun v ob' => Wr P T K Pn r (put sl d v) ob') (fun v ob' => Pn v sl ob')
 | .gop p d i :: r, sl, ob => (Y2 T sl ob p = true → i.wp P sl ob (fun v ob' => Wr P T K Pn r (put sl d v) ob') (fun v ob' => Pn v sl ob')) ∧
   (Y2 T sl ob p = false → Wr P T K Pn r (put sl d .undef) ob)

def Vc (T : Tab) (sl : Xb) (ob : Objs) : List (Nat × E) → Xb
 | [] => []
 | (k, e) :: r => (k, e.val T sl ob) :: Vc T sl ob r
def Z0 (T : Tab) (sl : Xb) (ob : Objs) : List (Nat × E) → Prop
 | [] => True
 | (_, e) :: r => e.ok T sl ob ∧ Z0 T sl ob r


def A.slots : A → List Nat
 | .t k => [k]
 | _ => []
def Z9 : List A → List Nat
 | [] => []
 | x :: r => x.slots ++ Z9 r
def Xc3 : Option A → List Nat
 | some x => x.slots
 | none => []
def C.slots : C → List Nat
 | .mv x | .not x | .neg x | .cpl x | .isnil _ x | .pnil _ x | .fnil _ x | .usd x | .cvi _ x | .cvs x | .fldA _ _ x | .fld _ _ _ _ x | .ld _ _ x | .nilc x | .lenS x | .lenL x | .ext x _ | .mki _ x | .tas _ _ x => x.slots
 | .bin _ x y | .mx x y | .beq _ x y | .peq _ x y | .idx x y | .idxA _ x y | .idxP _ _ x y | .eqD _ _ x y | .aix _ _ _ x y => x.slots ++ y.slots
 | .pick x y z => x.slots ++ (y.slots ++ z.slots)
 | .slcS x l h | .slcL _ x l h => x.slots ++ (Xc3 l ++ Xc3 h)
 | .lenA _ => []
 | .bld _ ps => Z9 (ps.map (·.2))
 | .mkf _ a b => Z9 a ++ Z9 b
def I.slots : I → List Nat
 | .c x => x.slots
 | .box _ x => x.slots
 | .alloc _ _ => []
 | .bls _ _ ps => Z9 (ps.map (·.2))
 | .blo _ _ _ ps => Z9 (ps.map (·.2))
 | .st _ x y => x.slots ++ y.slots
 | .app _ _ _ x y => x.slots ++ y.slots
 | .appS _ _ x y => x.slots ++ y.slots
 | .call _ l => Z9 l
 | .pcall _ l => Z9 l
 | .callv x l => x.slots ++ Z9 l
 | .panic x => x.slots
 | .b2s x => x.slots
 | .s2b x => x.slots
 | .nilo _ _ x => x.slots
 | .mvf x => x.slots
 | .ldf _ _ x => x.slots
 | .mvg _ _ y x _ => y.slots ++ x.slots
 | .mvn y x _ => y.slots ++ x.slots
 | .cvb x => x.slots
 | .ustr _ x y => x.slots ++ y.slots
 | .mkm r => Xc3 r
 | .lkp _ _ _ m k => m.slots ++ k.slots
 | .mset _ m k v => m.slots ++ (k.slots ++ v.slots)
 | .gld _ _ _ _ => []
 | .slg _ _ x => x.slots
 | .blv _ _ _ ps => Z9 (ps.map (·.2))
 | .apv _ _ _ x y => x.slots ++ y.slots
 | .gv x => x.slots
 | .ldg _ _ x => x.slots
 | .slb _ _ x lo hi => x.slots ++ (Xc3 lo ++ Xc3 hi)
 | .cpy _ x y => x.slots ++ y.slots
 | .clr _ _ x => x.slots
 | .gix _ _ _ _ i => i.slots

section
variable {P : Prg} {sl sl' : Xb} {ob : Objs}
theorem A.ev_eq {x : A} (h : ∀ k ∈ x.slots, look sl k = look sl' k) : x.ev sl = x.ev sl' := by
 cases x <;> simp_all [A.ev, A.slots]
theorem Xch : ∀ {l : List A}, (∀ k ∈ Z9 l, look sl k = look sl' k) → l.map (A.ev sl) = l.map (A.ev sl')
 | [], _ => rfl
 | x :: r, h => by
  simp only [Z9, List.mem_append] at h
  simp only [List.map_cons, A.ev_eq (fun k hk => h k (.inl hk)), Xch (fun k hk => h k (.inr hk))]
theorem Xci {l : Option A} (h : ∀ k ∈ Xc3 l, look sl k = look sl' k) : l.map (A.ev sl) = l.map (A.ev sl') := by
 cases l with
 | none => rfl
 | some x => simp only [Option.map_some, A.ev_eq h]
theorem Xfk : ∀ {l : List (Nat × A)}, (∀ k ∈ Z9 (l.map (·.2)), look sl k = look sl' k) → (l.map fun x => (x.1, A.ev sl x.2)) = l.map fun x => (x.1, A.ev sl' x.2)
 | [], _ => rfl
 | x :: r, h => by
  simp only [List.map_cons, Z9, List.mem_append] at h
  simp only [List.map_cons, A.ev_eq (fun k hk => h k (.inl hk)), Xfk (fun k hk => h k (.inr hk))]
theorem C.wp_eq {K : V → Prop} {c : C} (h : ∀ k ∈ c.slots, look sl k = look sl' k) : c.wp sl ob K = c.wp sl' ob K := by
 cases c <;> simp only [C.slots, List.mem_append] at h <;> simp only [C.wp]
 case bld => rw [Xfk h]
 case mkf => rw [Xch (fun k hk => h k (.inl hk)), Xch (fun k hk => h k (.inr hk))]
 case pick => rw [A.ev_eq (fun k hk => h k (.inl hk)), A.ev_eq (fun k hk => h k (.inr (.inl hk))), A.ev_eq (fun k hk => h k (.inr (.inr hk)))]
 case slcS => rw [A.ev_eq (fun k hk => h k (.inl hk)), Xci (fun k hk => h k (.inr (.inl hk))), Xci (fun k hk => h k (.inr (.inr hk)))]
 case slcL => rw [A.ev_eq (fun k hk => h k (.inl hk)), Xci (fun k hk => h k (.inr (.inl hk))), Xci (fun k hk => h k (.inr (.inr hk)))]
 all_goals first
  | rw [A.ev_eq h]
  | rw [A.ev_eq (fun k hk => h k (.inl hk)), A.ev_eq (fun k hk => h k (.inr hk))]
theorem I.wp_eq {K Pn : V → Objs → Prop} {i : I} (h : ∀ k ∈ i.slots, look sl k = look sl' k) : i.wp P sl ob K Pn = i.wp P sl' ob K Pn := by
 cases i <;> simp only [I.slots, List.mem_append] at h <;> simp only [I.wp]
 case c => rw [C.wp_eq h]
 case bls => rw [Xfk h]
 case blo => rw [Xfk h]
 case blv => rw [Xfk h]
 case call => rw [Xch h]
 case pcall => rw [Xch h]
 case callv => rw [A.ev_eq (fun k hk => h k (.inl hk)), Xch (fun k hk => h k (.inr hk))]
 case mset => rw [A.ev_eq (fun k hk => h k (.inl hk)), A.ev_eq (fun k hk => h k (.inr (.inl hk))), A.ev_eq (fun k hk => h k (.inr (.inr hk)))]
 case slb => rw [A.ev_eq (fun k hk => h k (.inl hk)), Xci (fun k hk => h k (.inr (.inl hk))), Xci (fun k hk => h k (.inr (.inr hk)))]
 case mkm r =>
  cases r with
  | none => rfl
  | some x => simp only [Xwx, A.ev_eq (x := x) h]
 all_goals first
  | rw [A.ev_eq h]
  | rw [A.ev_eq (fun k hk => h k (.inl hk)), A.ev_eq (fun k hk => h k (.inr hk))]
  | rfl

theorem Xga {K K' : V → Objs → Prop} {ob : Objs} {E sz : Nat} {p : List Nat} {y x : V} (hk : ∀ v b, K v b → K' v b) (h : Xhc ob E sz p y K x) : Xhc ob E sz p y K' x := by
 unfold Xhc at h; split at h
 ·simp only [Xhc]
  generalize lookO _ _ = o at h ⊢
  unfold Xbx at h; split at h
  ·simp only [Xbx]
   rcases h with h | h
   case inr => exact .inr ⟨h.1, hk _ _ h.2⟩
   refine .inl ⟨h.1, ?_⟩
   have h := h.2
   generalize V.set _ _ _ = o at h ⊢
   cases o with
   | none => exact h.elim
   | some t => exact hk _ _ h
  ·exact h.elim
 ·exact h.elim
theorem Xgc {K K' : V → Objs → Prop} {y x : V} (hk : ∀ v b, K v b → K' v b) : ∀ {l : List (Nat × Nat × List Nat)} {ob : Objs}, Xwz y K x l ob → Xwz y K' x l ob
 | [], _, h => hk _ _ h
 | _ :: _, _, h => Xga (fun _ _ h => Xgc hk h) h

theorem I.wp_mono {K K' Pn Pn' : V → Objs → Prop} (hk : ∀ v b, K v b → K' v b) (hp : ∀ v b, Pn v b → Pn' v b) {i : I} (h : i.wp P sl ob K Pn) : i.wp P sl ob K' Pn' := by
 have ho : ∀ o b, Xhd K Pn o b → Xhd K' Pn' o b := fun o b => by cases o with | ret v => exact hk v b | panic v => exact hp v b
 have bx : ∀ {E v}, Xm4 E ob K v → Xm4 E ob K' v := fun h => ⟨h.1, hk _ _ h.2⟩
 have dk : ∀ {KD KD' : List D → Prop}, (∀ l, KD l → KD' l) → ∀ o, dK KD o → dK KD' o := fun f o h => by cases o with | none => exact h.elim | some l => exact f l h
 have gv : ∀ (o : Option (D × Objs)), Xft K o → Xft K' o := fun o h => by
  cases o with
  | none => exact h.elim
  | some q => exact hk _ _ h
 have ap : ∀ {E sz B ys u}, Xbo E sz B ob ys K u → Xbo E sz B ob ys K' u := fun {E sz B ys u} h => by
  unfold Xbo at h; split at h
  ·simp only [Xbo]
   generalize lookO _ _ = o at h ⊢
   unfold Xbq at h; split at h
   ·obtain ⟨h1, h2, h3, h4, h5⟩ := h
    exact ⟨h1, h2, h3, h4, hk _ _ h5⟩
   ·exact h.elim
  ·exact ⟨h.1, hk _ _ h.2⟩
  ·exact h.elim
 have apv : ∀ {E sz B ys u}, Xn3 E sz B ob ys K u → Xn3 E sz B ob ys K' u := fun {E sz B ys u} h => by
  unfold Xn3 at h; split at h
  ·simp only [Xn3]
   generalize lookO _ _ = o at h ⊢
   unfold Xn4 at h; split at h
   ·obtain ⟨h1, h2, h3, h4, h5⟩ := h
    exact ⟨h1, h2, h3, h4, hk _ _ h5⟩
   ·obtain ⟨h1, h2, h3, h4, h5⟩ := h
    exact ⟨h1, h2, h3, h4, hk _ _ h5⟩
   ·exact h.elim
  ·exact ⟨h.1, hk _ _ h.2⟩
  ·exact h.elim
 have bw : ∀ {id p lo n z ys r o}, Xj3 ob id p lo n z ys r K o → Xj3 ob id p lo n z ys r K' o := fun {id p lo n z ys r o} h => by
  unfold Xj3 at h; split at h
  ·simp only [Xj3]
   generalize V.at _ _ = o at h ⊢
   unfold Xyu at h; split at h
   ·obtain ⟨h1, h2, h3, t, h4, h5⟩ := h
    exact ⟨h1, h2, h3, t, h4, hk _ _ h5⟩
   ·exact h.elim
  ·exact h.elim
 cases i <;> simp only [I.wp] at h ⊢
 case c x => exact C.wp_mono (fun v => hk v ob) x h
 case box => exact bx h
 case alloc => exact bx h
 case bls => exact Vf (fun _ => dk (fun _ => hk _ _) _) _ _ h
 case blo => exact Vf (fun _ => dk (fun _ h => hk _ _ h) _) _ _ h
 case st x y =>
  generalize A.ev sl x = v at h ⊢
  unfold stK at h; split at h
  ·simp only [stK]
   generalize lookO _ _ = o at h ⊢
   unfold Xrx at h; split at h
   ·simp only [Xrx]
    generalize V.at _ _ = o at h ⊢
    unfold Xry at h; split at h
    ·obtain ⟨h1, h2, h3, t, h4, h5⟩ := h
     exact ⟨h1, h2, h3, t, h4, hk _ _ h5⟩
    ·exact h.elim
   ·exact h.elim
  ·simp only [stK]
   generalize lookO _ _ = o at h ⊢
   unfold X7x at h; split at h
   ·simp only [X7x]
    generalize Wk _ _ _ = o at h ⊢
    unfold X8o at h; split at h
    ·refine ⟨h.1, ?_⟩
     have h := h.2
     generalize V.at _ _ = o at h ⊢
     unfold X7y at h; split at h
     ·obtain ⟨h1, h2, h3, t, h4, h5⟩ := h
      exact ⟨h1, h2, h3, t, h4, hk _ _ h5⟩
     ·exact h.elim
    ·exact h.elim
   ·exact h.elim
  ·exact h.elim
 case app x y =>
  generalize A.ev sl y = v at h ⊢
  unfold Xrv at h; split at h
  ·exact ⟨h.1, ap h.2⟩
  ·exact ap h
  ·exact h.elim
 case blv => exact Vf (fun _ => hk _ _) _ _ h
 case apv x y =>
  generalize A.ev sl y = v at h ⊢
  unfold X7s at h; split at h
  ·exact ⟨h.1, apv h.2⟩
  ·exact apv h
  ·rcases h with ⟨E, ys, h1, h2, h3, h4⟩ | ⟨E, ys, h1, h2, h4⟩
   ·exact .inl ⟨E, ys, h1, h2, h3, apv h4⟩
   ·exact .inr ⟨E, ys, h1, h2, apv h4⟩
  ·exact h.elim
 case gv x =>
  generalize V.gvF _ _ _ = v at h ⊢
  exact gv _ h
 case slb x lo hi =>
  generalize A.ev sl x = v at h ⊢
  unfold Xv1 at h; split at h
  ·simp only [Xv1]
   generalize Yr _ = o at h ⊢
   unfold Xeq at h; split at h
   ·exact ⟨h.1, h.2.1, Xam (fun _ _ => hk _ _) h.2.2⟩
   ·exact h.elim
  ·exact h.elim
 case cpy x y =>
  generalize A.ev sl x = v at h ⊢; generalize A.ev sl y = u at h ⊢
  unfold Xzg at h; split at h
  ·exact ⟨h.1, bw h.2⟩
  ·exact h.elim
 case clr x =>
  generalize A.ev sl x = v at h ⊢
  unfold Xze at h; split at h
  ·exact ⟨fun e => ⟨(h.1 e).1, hk _ _ (h.1 e).2⟩, fun e => ⟨(h.2 e).1, bw (h.2 e).2⟩⟩
  ·exact h.elim
 case gix x y =>
  refine ⟨h.1, ?_⟩
  have h := h.2
  generalize A.ev sl y = u at h ⊢
  unfold Xwi at h; split at h
  ·exact ⟨h.1, h.2.1, h.2.2.1, hk _ _ h.2.2.2⟩
  ·exact h.elim
 case ldg x =>
  generalize A.ev sl x = v at h ⊢
  unfold X3m at h; split at h
  ·simp only [X3m]
   generalize atO _ _ _ = o at h ⊢
   unfold Xph at h; split at h
   ·refine ⟨h.1, h.2.1, ?_⟩
    have h := h.2.2
    generalize V.gvF _ _ _ = o at h ⊢
    unfold Xpg at h; split at h
    ·refine ⟨h.1, ?_⟩
     have h := h.2
     generalize lookO _ _ = o at h ⊢
     unfold Xvc at h; split at h
     ·obtain ⟨t', h1, h2⟩ := h
      exact ⟨t', h1, hk _ _ h2⟩
     ·exact h.elim
    ·exact h.elim
   ·exact h.elim
  ·exact h.elim
 case appS x y =>
  generalize A.ev sl y = v at h ⊢
  unfold Xes at h; split at h
  ·exact ap h
  ·exact h.elim
 case mvf x =>
  generalize V.giv _ _ = v at h ⊢
  exact gv _ h
 case ldf x =>
  generalize A.ev sl x = v at h ⊢
  unfold Xvb at h; split at h
  ·simp only [Xvb]
   generalize atO _ _ _ = o at h ⊢
   unfold Xh6 at h; split at h
   ·exact ⟨h.1, h.2.1, gv _ h.2.2⟩
   ·exact h.elim
  ·exact h.elim
 case mvg => exact Xga hk h
 case mvn => exact Xgc hk h
 case cvb x =>
  generalize A.ev sl x = v at h ⊢
  unfold Xoj at h; split at h
  ·simp only [Xoj]
   generalize lookO _ _ = o at h ⊢
   unfold Xdj at h; split at h
   ·exact ⟨h.1, h.2.1, h.2.2.1, hk _ _ h.2.2.2⟩
   ·exact h.elim
  ·exact h.elim
 case ustr x y =>
  generalize A.ev sl x = v at h ⊢; generalize A.ev sl y = u at h ⊢
  unfold Q4 at h; split at h
  ·simp only [Q4]
   generalize lookO _ _ = o at h ⊢
   unfold Qd at h; split at h
   ·obtain ⟨h1, h2, h3, h4, h5, h6, s, h7, h8⟩ := h
    exact ⟨h1, h2, h3, h4, h5, h6, s, h7, hk _ _ h8⟩
   ·exact h.elim
  ·exact ⟨h.1, hk _ _ h.2⟩
  ·exact h.elim
 case call => exact h.mono ho
 case pcall => exact h.mono fun v => hk v ob
 case callv x l =>
  generalize A.ev sl x = v at h ⊢
  unfold Vg at h; split at h
  ·exact ⟨h.1, h.2.mono ho⟩
  ·exact ⟨h.1, h.2.mono ho⟩
  ·exact h.elim
 case panic x =>
  generalize A.ev sl x = v at h ⊢
  unfold U7 at h; split at h
  ·exact hp _ _ h
  ·exact hp _ _ h
  ·exact h.elim
 case b2s x =>
  generalize A.ev sl x = v at h ⊢
  unfold X3e at h; split at h
  ·obtain ⟨h1, s, h2, h3⟩ := h
   exact ⟨h1, s, h2, hk _ _ h3⟩
  ·exact hk _ _ h
  ·exact h.elim
 case s2b x =>
  generalize A.ev sl x = v at h ⊢
  unfold Xvx at h; split at h
  ·exact hk _ _ h
  ·exact h.elim
 case nilo x =>
  generalize A.ev sl x = v at h ⊢
  unfold Xej at h; split at h
  ·exact hk _ _ h
  ·exact h.elim
 case mkm r => exact ⟨h.1, hk _ _ h.2⟩
 case gld => exact ⟨h.1, h.2.1, h.2.2.1, hk _ _ h.2.2.2⟩
 case slg x =>
  generalize A.ev sl x = v at h ⊢
  unfold Xrd at h; split at h
  ·simp only [Xrd]
   generalize atO _ _ _ = o at h ⊢
   unfold Xer at h; split at h
   ·exact ⟨h.1, h.2.1, hk _ _ h.2.2⟩
   ·exact h.elim
  ·exact h.elim
 case lkp x y =>
  generalize A.ev sl x = v at h ⊢; generalize A.ev sl y = u at h ⊢
  unfold Xpl at h; split at h
  ·simp only [Xpl]
   generalize lookO _ _ = o at h ⊢
   unfold Xdw at h; split at h
   ·exact ⟨h.1, hk _ _ h.2⟩
   ·exact h.elim
  ·exact ⟨h.1, hk _ _ h.2⟩
  ·exact h.elim
 case mset x y z =>
  generalize A.ev sl x = v at h ⊢; generalize A.ev sl y = u at h ⊢
  unfold Xa1 at h; split at h
  ·simp only [Xa1]
   generalize lookO _ _ = o at h ⊢
   unfold U3 at h; split at h
   ·exact ⟨h.1, h.2.1, hk _ _ h.2.2⟩
   ·exact h.elim
  ·exact h.elim
end
end Go.Ab
/- Regions folded into expressions: the fold of a whole region, and that it Xf2 what is shown. Over any program; no condition. -/
namespace Go.Ab
open Go

def Xje (σ : Sg) : Vb → Vb → Option (List (E × Bool))
 | _, [] => some []
 | dn, (g, b) :: r => match ent σ g with
  | some (q, e) => if q.isPrefixOf dn then (match Xje σ (dn ++ [(g, b)]) r with | some l => some ((e, b) :: l) | none => none) else none
  | none => none
def Yca (σ : Sg) (f : E → E) (k : Nat) : Option It2 := match ent σ k with
 | some (p, e) => match Xje σ [] p with
  | some l => some (.chk l (f e))
  | none => none
 | none => none
def chks (σ : Sg) (f : E → E) : List Nat → Option (List It2)
 | [] => some []
 | k :: r => match Yca σ f k, chks σ f r with
  | some c, some l => some (c :: l)
  | _, _ => none
def bw (e : E) : E := .ite e (.a (.bool true)) (.a (.bool true))
def Xcc (σ : Sg) (k : Nat) : Sg := σ.filter fun x => x.1 != k
def noMen (σ : Sg) (k : Nat) : Bool := σ.all fun x => match x.2 with
 | some (_, e) => !e.men k
 | none => true
def X6f (σ : Sg) : Bool := σ.all fun x => match x.2 with
 | some (_, e) => !e.rd
 | none => true
def X42 (ns : List Nat) (σ : Sg) (k : Nat) (p : Vb) : Sg := if ns.contains k || p.isEmpty then Xcc σ k else (k, some (p, .a (.t k))) :: Xcc σ k
def Yeu (ns : List Nat) (σ : Sg) (k : Nat) : Option (It2 × Sg) := match Zj σ k with
 | some (some (p, e)) => match Xje σ [] p with
  | some l => if noMen (Xcc σ k) k then some (.lt k l e, X42 ns σ k p) else none
  | none => none
 | _ => none
def X57 (ns : List Nat) : List Nat → Sg → Option (List It2 × Sg)
 | [], σ => some ([], σ)
 | k :: r, σ => match Yeu ns σ k with
  | some (i, σ') => match X57 ns r σ' with
   | some (l, σ'') => some (i :: l, σ'')
   | none => none
  | none => none
def kill (lv : List Nat) : Sg → Sg
 | [] => []
 | (k, x) :: r => (if lv.contains k then (k, x) else (k, none)) :: kill lv r
def Xvg : List It → List Nat
 | [] => []
 | .op _ i :: r => i.slots ++ Xvg r
 | .gop g _ _ i :: r => g :: (i.slots ++ Xvg r)
def Ybq (σ : Sg) (s : List Nat) (d : Option Nat) : List Nat := (σ.filter fun x => match x.2 with
 | some (_, e) => s.contains x.1 || e.rd || (match d with | some k => x.1 != k && e.men k | none => false)
 | none => false).map (·.1)
def It.d : It → Option Nat
 | .op d _ => d
 | .gop _ _ d _ => d
def It.i : It → I
 | .op _ i => i
 | .gop _ _ _ i => i
def It.path (σ : Sg) : It → Option (Vb × List Nat)
 | .op _ _ => some ([], [])
 | .gop g b _ _ => match ent σ g with
  | some (q, _) => some (q ++ [(g, b)], [g])
  | none => none
def It.eff (l : List (E × Bool)) : It → It2
 | .op d i => .op d i
 | .gop _ _ d i => .gop l d i
def X9m (σ : Sg) : Option Nat → Sg
 | some k => Xcc σ k
 | none => σ
def Xzx (σ : Sg) (p : Vb) : Option Nat → Bool
 | some k => noMen (Xcc σ k) k && Xh0 (Xcc σ k) k && W1 k p
 | none => true
def Xf2 (σ : Sg) : List Nat → Option (List (Nat × E))
 | [] => some []
 | k :: r => match ent σ k, Xf2 σ r with
  | some ([], e), some l => some ((k, e) :: l)
  | _, _ => none
def X8c (e : E) (k : Nat) (l : List Nat) : List Nat := if e.isA then l else k :: l

def Qw (fs keep pk : List Nat) : List It → Sg → List Nat → List Nat → Option (List It2 × List (Nat × E))
 | [], σ, pe, pg => match chks σ id (pe.filter fun k => !keep.contains k), chks σ bw pg, Xf2 σ keep with
  | some c1, some c2, some kp => some (c1 ++ c2, kp)
  | _, _, _ => none
 | it :: r, σ, pe, pg => match it.path σ with
  | none => none
  | some (p, gs) => match it.d, it.i.lift fs σ p with
   | some k, some e => if Xh0 (Xcc σ k) k && W1 k p && !pe.contains k && !(gs ++ pg).contains k then
     Qw fs keep pk r ((k, some (p, e)) :: Xcc σ k) (X8c e k (pe.filter fun j => !(it.i.cons σ p).contains j)) ((gs ++ pg).filter fun j => !(it.i.gcons σ p).contains j)
    else none
   | d, _ => match chks σ id pe, chks σ bw (gs ++ pg) with
    | some c1, some c2 => match X57 (it.i.slots ++ (pk ++ keep)) (Ybq (kill (it.i.slots ++ (p.map (·.1) ++ (Xvg r ++ keep))) σ) it.i.slots d) (kill (it.i.slots ++ (p.map (·.1) ++ (Xvg r ++ keep))) σ) with
     | some (ms, σ2) => match Xje σ2 [] p with
      | some l => if (it.i.slots.all fun k => (Zj σ2 k).isNone) && Xzx σ2 p d && X6f σ2 && (pk.all fun k => (Zj σ2 k).isNone) then
        match Qw fs keep pk r (X9m σ2 d) [] [] with
        | some (t, kp) => some (c1 ++ (c2 ++ (ms ++ (it.eff l :: t))), kp)
        | none => none
       else none
      | none => none
     | none => none
    | _, _ => none

section
variable {P : Prg} {T : Tab} {σ : Sg} {sl sl0 : Xb} {ob : Objs} {p : Vb} {K : Xb → Objs → Prop} {Pn : V → Xb → Objs → Prop}

theorem W2 (hI : Inv T σ sl sl0 ob) : ∀ (r dn : Vb) (l : List (E × Bool)), Xje σ dn r = some l → Xl sl dn = true → Xl sl r = Y2 T sl0 ob l
 | [], dn, l, h, _ => by simp only [Xje] at h; cases h; rfl
 | (g, b) :: r, dn, l, h, hd => by
  simp only [Xje] at h
  split at h
  ·rename_i q e he
   split at h
   ·rename_i hq
    split at h
    ·rename_i l' hl
     cases h
     have hv := (hI g q e he).1 (Jd hq hd)
     simp only [Xl, Y2, List.all_cons, hv]
     cases hb : isB b (e.val T sl0 ob) with
     | false => rfl
     | true =>
      have := W2 hI r _ l' hl (by rw [Yl, hd, hv, hb]; rfl)
      simpa [Xl, Y2] using this
    ·cases h
   ·cases h
  ·cases h

theorem Yk (hI : Inv T σ sl sl0 ob) {f : E → E} : ∀ {ks : List Nat} {cs l : List It2}, chks σ f ks = some cs → Wr P T K Pn (cs ++ l) sl0 ob →
  (∀ k ∈ ks, ∀ p e, ent σ k = some (p, e) → Xl sl p = true → (f e).ok T sl0 ob) ∧ Wr P T K Pn l sl0 ob
 | [], cs, l, h, hr => by simp only [chks] at h; cases h; exact ⟨fun _ h => (by cases h), hr⟩
 | k :: r, cs, l, h, hr => by
  simp only [chks] at h
  split at h
  ·rename_i c l' hc hl
   cases h
   unfold Yca at hc
   split at hc
   ·rename_i p e he
    split at hc
    ·rename_i lp hp
     cases hc
     simp only [List.cons_append, Wr] at hr
     obtain ⟨h1, h2⟩ := Yk hI hl hr.2
     refine ⟨fun j hj q e' he' hq => ?_, h2⟩
     rcases List.mem_cons.mp hj with rfl | hj
     ·rw [he] at he'; cases he'
      exact hr.1 (by rw [← W2 hI _ _ _ hp rfl]; exact hq)
     ·exact h1 j hj q e' he' hq
    ·cases hc
   ·cases hc
  ·cases h

theorem Ji : ∀ {σ : Sg} {k : Nat}, Zj (Xcc σ k) k = none
 | [], _ => rfl
 | (j, x) :: r, k => by
  have ih := Ji (σ := r) (k := k)
  simp only [Xcc] at ih ⊢
  by_cases h : j = k
  ·subst h; simp [ih]
  ·simp [h, Zj, ih]
theorem Jj {k j : Nat} (h : k ≠ j) : ∀ {σ : Sg}, Zj (Xcc σ k) j = Zj σ j
 | [] => rfl
 | (i, x) :: r => by
  have ih := Jj h (σ := r)
  simp only [Xcc] at ih ⊢
  by_cases hi : i = k
  ·subst hi; simp [ih, Zj, h]
  ·simp [hi, Zj, ih]
theorem Xcf {k : Nat} : ent (Xcc σ k) k = some ([], .a (.t k)) := by simp [ent, Ji]
theorem Yy {k j : Nat} (h : k ≠ j) : ent (Xcc σ k) j = ent σ j := by simp [ent, Jj h]
theorem Xcw : ∀ {σ : Sg} {d k : Nat} {p : Vb} {e : E}, noMen σ d = true → Zj σ k = some (some (p, e)) → e.men d = false
 | [], _, _, _, _, _, h => by simp [Zj] at h
 | (j, x) :: r, d, k, p, e, hg, h => by
  simp only [noMen, List.all_cons, Bool.and_eq_true] at hg
  simp only [Zj] at h
  split at h
  ·cases h; simpa using hg.1
  ·exact Xcw (σ := r) hg.2 h
theorem Xge : ∀ {σ : Sg} {k : Nat} {p : Vb} {e : E}, X6f σ = true → Zj σ k = some (some (p, e)) → e.rd = false
 | [], _, _, _, _, h => by simp [Zj] at h
 | (j, x) :: r, k, p, e, hg, h => by
  simp only [X6f, List.all_cons, Bool.and_eq_true] at hg
  simp only [Zj] at h
  split at h
  ·cases h; simpa using hg.1
  ·exact Xge (σ := r) hg.2 h
theorem Xk1 {k : Nat} {e : E} (hg : X6f σ = true) (h : ent σ k = some (p, e)) : e.rd = false := by
 unfold ent at h
 split at h
 ·cases h; rfl
 ·rename_i x hx; subst h; exact Xge hg hx
theorem Xgd {d k : Nat} {e : E} (hg : noMen (Xcc σ d) d = true) (hd : d ≠ k) (h : ent σ k = some (p, e)) : e.men d = false := by
 rw [← Yy hd] at h
 unfold ent at h
 split at h
 ·cases h; simp [E.men, A.men]; exact fun e => hd e.symm
 ·rename_i x hx; subst h; exact Xcw hg hx

theorem Xcu {ns : List Nat} : ∀ {ks : List Nat} {σ σ' : Sg} {sl0 : Xb} {ms l : List It2}, Inv T σ sl sl0 ob → X57 ns ks σ = some (ms, σ') → Wr P T K Pn (ms ++ l) sl0 ob → ∃ sl0', Inv T σ' sl sl0' ob ∧ Wr P T K Pn l sl0' ob
 | [], σ, σ', sl0, ms, l, hI, h, hr => by simp only [X57] at h; cases h; exact ⟨sl0, hI, hr⟩
 | k :: r, σ, σ', sl0, ms, l, hI, h, hr => by
  simp only [X57] at h
  split at h
  ·rename_i i σ1 h1
   split at h
   ·rename_i l' σ2 h2
    cases h
    unfold Yeu at h1
    split at h1
    ·rename_i p e he
     split at h1
     ·rename_i lp hp
      split at h1
      ·rename_i hm
       cases h1
       simp only [List.cons_append, Wr] at hr
       refine Xcu ?_ h2 hr.2
       have hk := hI k p e (by simp [ent, he])
       have hh := W2 hI _ _ _ hp rfl
       have hdel : ∀ j q e', ent (Xcc σ k) j = some (q, e') → (Xl sl q = true → look sl j = e'.val T ((k, Xey (Y2 T sl0 ob lp) (e.val T sl0 ob)) :: sl0) ob) ∧ (Xl sl q = false → look sl j = .undef) := by
        intro j q e' he'
        by_cases hj : k = j
        ·subst hj
         rw [Xcf] at he'; cases he'
         simp only [Xl, List.all_nil, E.val, A.ev, look, if_true]
         refine ⟨fun _ => ?_, fun h => (by cases h)⟩
         rw [← hh]
         cases hs : Xl sl p with
         | true => rw [hk.1 hs]; rfl
         | false => rw [hk.2 hs]; rfl
        ·rw [Yy hj] at he'
         rw [E.val_sl (Xgd hm hj he')]
         exact hI j q e' he'
       unfold X42
       split
       ·exact hdel
       ·intro j q e' he'
        by_cases hj : k = j
        ·subst hj
         rw [Y6] at he'; cases he'
         simp only [E.val, A.ev, look, if_true]
         rw [← hh]
         exact ⟨fun hs => by rw [hk.1 hs, hs]; rfl, hk.2⟩
        ·rw [Yu hj] at he'
         exact hdel j q e' he'
      ·cases h1
     ·cases h1
    ·cases h1
   ·cases h
  ·cases h

theorem Xkq {lv : List Nat} : ∀ {σ : Sg} {k : Nat} {e : E}, ent (kill lv σ) k = some (p, e) → ent σ k = some (p, e)
 | [], _, _, h => h
 | (j, x) :: r, k, e, h => by
  by_cases hj : j = k
  ·subst hj
   rw [Y6]
   simp only [kill] at h
   split at h
   ·rwa [Y6] at h
   ·rw [Y6] at h; cases h
  ·rw [Yu hj]
   simp only [kill] at h
   refine Xkq (lv := lv) (σ := r) ?_
   split at h
   ·rwa [Yu hj] at h
   ·rwa [Yu hj] at h
theorem Inv.kill {lv : List Nat} (hI : Inv T σ sl sl0 ob) : Inv T (kill lv σ) sl sl0 ob := fun k p e h => hI k p e (Xkq h)

theorem Inv.fold' (hI : Inv T σ sl sl0 ob) {k : Nat} {e : E} (hg : Xh0 (Xcc σ k) k = true) (hp : W1 k p = true) {v : V} (h1 : Xl sl p = true → v = e.val T sl0 ob) (h2 : Xl sl p = false → v = .undef) :
  Inv T ((k, some (p, e)) :: Xcc σ k) ((k, v) :: sl) sl0 ob := by
 intro j q e' he
 by_cases hj : k = j
 ·subst hj
  rw [Y6] at he; cases he
  rw [Wl hp]
  simp only [look, if_true]
  exact ⟨h1, h2⟩
 ·rw [Yu hj] at he
  rw [Wl (Uu hg he)]
  rw [Yy hj] at he
  simp only [look, hj, if_false]
  exact hI j q e' he

theorem Inv.eff (hI : Inv T σ sl sl0 ob) {d : Option Nat} (hf : Xzx σ p d = true) (hr : X6f σ = true) {v : V} {ob' : Objs} : Inv T (X9m σ d) (put sl d v) (put sl0 d v) ob' := by
 cases d with
 | none =>
  intro j q e he
  rw [E.val_ob (ob' := ob) (Xk1 hr he)]
  exact hI j q e he
 | some k =>
  simp only [Xzx, Bool.and_eq_true] at hf
  intro j q e he
  simp only [put, X9m] at he ⊢
  by_cases hj : k = j
  ·subst hj
   rw [Xcf] at he; cases he
   simp [Xl, E.val, A.ev, look]
  ·have he' := he
   rw [Wl (Uu hf.1.2 he')]
   rw [Yy hj] at he
   rw [E.val_sl (Xgd hf.1.1 hj he), E.val_ob (ob' := ob) (Xk1 hr he)]
   simp only [look, hj, if_false]
   exact hI j q e he
theorem Ui (hI : Inv T σ sl sl0 ob) : ∀ {keep : List Nat} {kp : List (Nat × E)}, Xf2 σ keep = some kp → Vc T sl0 ob kp = Xd sl keep ∧ (Z0 T sl0 ob kp → ∀ k ∈ keep, ∀ p e, ent σ k = some (p, e) → e.ok T sl0 ob)
 | [], kp, h => by simp only [Xf2] at h; cases h; exact ⟨rfl, fun _ _ h => (by cases h)⟩
 | k :: r, kp, h => by
  simp only [Xf2] at h
  split at h
  ·rename_i e l he hl
   cases h
   obtain ⟨h1, h2⟩ := Ui hI hl
   refine ⟨by simp only [Vc, Xd, h1, (hI k [] e he).1 rfl], fun ho j hj p e' he' => ?_⟩
   rcases List.mem_cons.mp hj with rfl | hj
   ·rw [he] at he'; cases he'; exact ho.1
   ·exact h2 ho.2 j hj p e' he'
  ·cases h

def Xnx (T : Tab) (σ : Sg) (pe pg : List Nat) (sl sl0 : Xb) (ob : Objs) : Prop :=
 (∀ k ∈ pe, ∀ p e, ent σ k = some (p, e) → Xl sl p = true → e.ok T sl0 ob) ∧
 (∀ k ∈ pg, ∀ p e, ent σ k = some (p, e) → Xl sl p = true → Xan (e.val T sl0 ob))

theorem Xgn {fs : List Nat} {i : I} {k : Nat} {e : E} {pe pg : List Nat} {v : V} (hI : Inv T σ sl sl0 ob) (he : i.lift fs σ p = some e) (c1 : Xh0 (Xcc σ k) k = true) (c2 : W1 k p = true) (c3 : k ∉ pe) (c4 : k ∉ pg)
  (h : Xnx T ((k, some (p, e)) :: Xcc σ k) (X8c e k (pe.filter fun j => !(i.cons σ p).contains j)) (pg.filter fun j => !(i.gcons σ p).contains j) ((k, v) :: sl) sl0 ob) :
  Xnx T σ pe pg sl sl0 ob ∧ (Xl sl p = true → e.ok T sl0 ob) := by
 obtain ⟨a1, a2⟩ := h
 have hok : Xl sl p = true → e.ok T sl0 ob := fun hh => by
  cases hA : e.isA with
  | true => cases e <;> simp [E.isA] at hA; trivial
  | false => exact a1 k (by simp [X8c, hA]) p e Y6 (by rw [Wl c2]; exact hh)
 refine ⟨⟨fun j hj q e' he' hq => ?_, fun j hj q e' he' hq => ?_⟩, hok⟩
 ·by_cases hm : j ∈ i.cons σ p
  ·exact I.cov hI he hm he' hq hok
  ·have hkj : k ≠ j := fun e => c3 (e ▸ hj)
   refine a1 j ?_ q e' (by rw [Yu hkj, Yy hkj]; exact he') ?_
   ·simp only [X8c]; split <;> simp [hj, hm]
   ·rw [Wl]; exact hq
    exact Uu c1 (by rw [Yy hkj]; exact he')
 ·by_cases hm : j ∈ i.gcons σ p
  ·exact I.gcov he hm he' hq hok
  ·have hkj : k ≠ j := fun e => c4 (e ▸ hj)
   refine a2 j ?_ q e' (by rw [Yu hkj, Yy hkj]; exact he') ?_
   ·simp only [List.mem_filter]; exact ⟨hj, by simp [hm]⟩
   ·rw [Wl]; exact hq
    exact Uu c1 (by rw [Yy hkj]; exact he')

theorem Xqt {fs keep pk : List Nat} : ∀ (its : List It) {σ : Sg} {pe pg : List Nat} {sl sl0 : Xb} {ob : Objs} {l : List It2} {kp : List (Nat × E)}, Inv T σ sl sl0 ob → Qw fs keep pk its σ pe pg = some (l, kp) →
  Wr P T (fun sl ob => Z0 T sl ob kp ∧ K (Vc T sl ob kp) ob) Pn l sl0 ob → Xnx T σ pe pg sl sl0 ob
 | [], σ, pe, pg, sl, sl0, ob, l, kp, hI, h, hr => by
  simp only [Qw] at h
  split at h
  ·rename_i c1 c2 kp' h1 h2 h3
   cases h
   obtain ⟨a1, hr⟩ := Yk hI h1 hr
   obtain ⟨a2, hr⟩ := Yk hI (l := []) h2 (by simpa using hr)
   simp only [Wr] at hr
   obtain ⟨_, a3⟩ := Ui hI h3
   refine ⟨fun k hk p e he hp => ?_, fun k hk p e he hp => (a2 k hk p e he hp).2.1⟩
   by_cases hm : k ∈ keep
   ·exact a3 hr.1 k hm p e he
   ·exact a1 k (by simp [hk, hm]) p e he hp
  ·cases h
 | it :: r, σ, pe, pg, sl, sl0, ob, l, kp, hI, h, hr => by
  simp only [Qw] at h
  split at h
  ·cases h
  ·rename_i p gs hp
   split at h
   ·rename_i k e hd he
    split at h
    ·rename_i hc
     simp only [Bool.and_eq_true, Bool.not_eq_true', List.contains_eq_mem, decide_eq_false_iff_not] at hc
     obtain ⟨⟨⟨c1, c2⟩, c3⟩, c4⟩ := hc
     have hI' := hI.fold' (e := e) c1 c2 (v := Xey (Xl sl p) (e.val T sl0 ob)) (fun h => by rw [h]; rfl) (fun h => by rw [h]; rfl)
     obtain ⟨a, _⟩ := Xgn hI he c1 c2 c3 c4 (Xqt r hI' h hr)
     exact ⟨a.1, fun j hj => a.2 j (List.mem_append.mpr (.inr hj))⟩
    ·cases h
   ·split at h
    ·rename_i c1 c2 h1 h2
     split at h
     ·split at h
      ·split at h
       ·split at h
        ·cases h
         obtain ⟨a1, hr⟩ := Yk hI h1 hr
         obtain ⟨a2, hr⟩ := Yk hI h2 hr
         exact ⟨a1, fun k hk p e he hp => (a2 k (List.mem_append.mpr (.inr hk)) p e he hp).2.1⟩
        ·cases h
       ·cases h
      ·cases h
     ·cases h
    ·cases h
end
end Go.Ab
/- Statements Xhe folded regions. Over any program; no condition. -/
namespace Go.Ab
open Go

theorem Xkn {sl sl' : Xb} : ∀ {ks : List Nat}, (∀ k ∈ ks, look sl k = look sl' k) → Xd sl ks = Xd sl' ks
 | [], _ => rfl
 | k :: r, h => by simp only [Xd]; rw [h k (by simp), Xkn (fun j hj => h j (by simp [hj]))]

theorem Yh {P : Prg} {T : Tab} (hT : TOk P T) {fs keep pk : List Nat} {K K' : Xb → Objs → Prop} {Pn Pn' : V → Xb → Objs → Prop} (hK : ∀ s o, K s o → K' s o) (hP : ∀ v s o, Pn v s o → Pn' v s o) :
  ∀ (its : List It) {σ : Sg} {pe pg : List Nat} {sl sl0 : Xb} {ob : Objs} {l : List It2} {kp : List (Nat × E)}, Inv T σ sl sl0 ob → Qw fs keep pk its σ pe pg = some (l, kp) →
  Wr P T (fun sl ob => Z0 T sl ob kp ∧ K (Vc T sl ob kp) ob) (fun v sl ob => Pn v (Xd sl pk) ob) l sl0 ob → rwp P (fun sl ob => K' (Xd sl keep) ob) (fun v sl ob => Pn' v (Xd sl pk) ob) its sl ob
 | [], σ, pe, pg, sl, sl0, ob, l, kp, hI, h, hr => by
  simp only [Qw] at h
  split at h
  ·rename_i c1 c2 kp' h1 h2 h3
   cases h
   obtain ⟨_, hr⟩ := Yk hI h1 hr
   obtain ⟨_, hr⟩ := Yk hI (l := []) h2 (by simpa using hr)
   simp only [Wr] at hr
   simp only [rwp]
   rw [← (Ui hI h3).1]
   exact hK _ _ hr.2
  ·cases h
 | it :: r, σ, pe, pg, sl, sl0, ob, l, kp, hI, h, hr => by
  simp only [Qw] at h
  split at h
  ·cases h
  ·rename_i p gs hp
   split at h
   ·rename_i k e hd he
    split at h
    ·rename_i hc
     simp only [Bool.and_eq_true, Bool.not_eq_true', List.contains_eq_mem, decide_eq_false_iff_not] at hc
     obtain ⟨⟨⟨c1, c2⟩, c3⟩, c4⟩ := hc
     have go : ∀ v, (Xl sl p = true → v = e.val T sl0 ob) → (Xl sl p = false → v = .undef) → rwp P (fun sl ob => K' (Xd sl keep) ob) (fun v sl ob => Pn' v (Xd sl pk) ob) r ((k, v) :: sl) ob :=
      fun v h1 h2 => Yh hT hK hP r (hI.fold' (e := e) c1 c2 h1 h2) h hr
     have hI' := hI.fold' (e := e) c1 c2 (v := Xey (Xl sl p) (e.val T sl0 ob)) (fun h => by rw [h]; rfl) (fun h => by rw [h]; rfl)
     obtain ⟨a, hok⟩ := Xgn hI he c1 c2 c3 c4 (Xqt r hI' h hr)
     cases it with
     | op d i =>
      simp only [It.d] at hd; subst hd
      simp only [It.path] at hp; cases hp
      simp only [rwp]
      exact I.lift_sound hT hI rfl he (hok rfl) (go _ (fun _ => rfl) (fun h => by cases h))
     | gop g b d i =>
      simp only [It.d] at hd; subst hd
      simp only [It.path] at hp
      split at hp
      ·rename_i q eg hg
       cases hp
       simp only [rwp]
       cases hq : Xl sl q with
       | false =>
        rw [(hI g q eg hg).2 hq]
        simp only [gdK]
        exact go _ (fun h => by rw [Yl, hq] at h; cases h) (fun _ => rfl)
       | true =>
        have hv := (hI g q eg hg).1 hq
        have hb := a.2 g (by simp) q eg hg hq
        have hcg : ∀ j, look ((g, look sl g) :: sl) j = look sl j := fun j => by
         simp only [look]; split
         ·rename_i e; rw [e]
         ·rfl
        have main : ∀ t, look sl g = .d (.bool t) → gdK g b sl (fun sl => I.wp P sl ob (fun v ob' => rwp P (fun sl ob => K' (Xd sl keep) ob) (fun v sl ob => Pn' v (Xd sl pk) ob) r (put sl (some k) v) ob') (fun v ob' => Pn' v (Xd sl pk) ob') i) (fun sl => rwp P (fun sl ob => K' (Xd sl keep) ob) (fun v sl ob => Pn' v (Xd sl pk) ob) r (put sl (some k) .undef) ob) (look sl g) := by
         intro t ht
         rw [ht]
         simp only [gdK]
         have hh : ∀ u, t = u → Inv T σ ((g, .d (.bool u)) :: sl) sl0 ob := fun u e => by
          subst e; rw [← ht]; exact hI.congr hcg
         have hs : ∀ u, t = u → ∀ p, Xl ((g, .d (.bool u)) :: sl) p = Xl sl p := fun u e p => by
          subst e; rw [← ht]; simp only [Xl, hcg]
         refine ⟨fun e1 => ?_, fun e1 => ?_⟩
         ·have hp1 : Xl sl (q ++ [(g, b)]) = true := by rw [Yl, hq, ht, e1]; simp [isB]
          refine I.lift_sound hT (hh _ e1) (by rw [hs _ e1]; exact hp1) he (hok hp1) ?_
          refine Yh hT hK hP r ((hh _ e1).fold' (e := e) c1 c2 (fun _ => rfl) (fun h => ?_)) h hr
          rw [hs _ e1, hp1] at h; cases h
         ·have hp1 : Xl sl (q ++ [(g, b)]) = false := by rw [Yl, hq, ht, e1]; cases b <;> simp [isB]
          refine Yh hT hK hP r ((hh _ e1).fold' (e := e) c1 c2 (fun h => ?_) (fun _ => rfl)) h hr
          rw [hs _ e1, hp1] at h; cases h
        rcases Xde hb with hb | hb
        ·exact main true (by rw [hv, hb])
        ·exact main false (by rw [hv, hb])
      ·cases hp
    ·cases h
   ·rename_i d x hd hx
    split at h
    ·rename_i c1 c2 h1 h2
     split at h
     ·rename_i ms σ2 hm
      split at h
      ·rename_i lp hl
       split at h
       ·rename_i hc
        simp only [Bool.and_eq_true, List.all_eq_true, Option.isNone_iff_eq_none] at hc
        obtain ⟨⟨⟨d1, d2⟩, d3⟩, d4⟩ := hc
        split at h
        ·rename_i t kp' ht
         cases h
         obtain ⟨_, hr⟩ := Yk hI h1 hr
         obtain ⟨a2, hr⟩ := Yk hI h2 hr
         obtain ⟨sl1, hI1, hr⟩ := Xcu hI.kill hm hr
         have hlook : ∀ {s}, Inv T σ2 s sl1 ob → ∀ k, Zj σ2 k = none → look s k = look sl1 k := fun hI k hk => (hI k [] (.a (.t k)) (by simp [ent, hk])).1 rfl
         have hkeep : ∀ {s}, Inv T σ2 s sl1 ob → Xd s pk = Xd sl1 pk := fun {s} hI => by
          exact Xkn fun k hk => hlook hI k (d4 k hk)
         have step : ∀ {s}, Inv T σ2 s sl1 ob → it.i.wp P sl1 ob (fun v ob' => Wr P T (fun sl ob => Z0 T sl ob kp ∧ K (Vc T sl ob kp) ob) (fun v sl ob => Pn v (Xd sl pk) ob) t (put sl1 it.d v) ob') (fun v ob' => Pn v (Xd sl1 pk) ob') →
           it.i.wp P s ob (fun v ob' => rwp P (fun sl ob => K' (Xd sl keep) ob) (fun v sl ob => Pn' v (Xd sl pk) ob) r (put s it.d v) ob') (fun v ob' => Pn' v (Xd s pk) ob') := fun {s} hI h => by
          rw [I.wp_eq (sl' := sl1) (fun k hk => hlook hI k (d1 k hk))]
          refine I.wp_mono (fun v b hv => ?_) (fun v b hv => ?_) h
          ·exact Yh hT hK hP r (hI.eff d2 d3) ht hv
          ·rw [hkeep hI]; exact hP _ _ _ hv
         cases it with
         | op d' i =>
          simp only [It.eff, Wr] at hr
          simp only [rwp]
          exact step hI1 hr
         | gop g b d' i =>
          simp only [It.eff, Wr] at hr
          simp only [It.path] at hp
          split at hp
          ·rename_i q eg hg
           cases hp
           have hh := W2 hI1 _ _ _ hl rfl
           have none' : ∀ {s}, Inv T σ2 s sl1 ob → Xl sl (q ++ [(g, b)]) = false → rwp P (fun sl ob => K' (Xd sl keep) ob) (fun v sl ob => Pn' v (Xd sl pk) ob) r (put s d' .undef) ob := fun {s} hI hf =>
            Yh hT hK hP r (hI.eff d2 d3) ht (hr.2 (by rw [← hh]; exact hf))
           simp only [rwp]
           cases hq : Xl sl q with
           | false =>
            rw [(hI g q eg hg).2 hq]
            simp only [gdK]
            exact none' hI1 (by rw [Yl, hq]; rfl)
           | true =>
            have hv := (hI g q eg hg).1 hq
            have hb := (a2 g (by simp) q eg hg hq).2.1
            have hcg : ∀ j, look ((g, look sl g) :: sl) j = look sl j := fun j => by
             simp only [look]; split
             ·rename_i e; rw [e]
             ·rfl
            have main : ∀ u, look sl g = .d (.bool u) → gdK g b sl (fun sl => I.wp P sl ob (fun v ob' => rwp P (fun sl ob => K' (Xd sl keep) ob) (fun v sl ob => Pn' v (Xd sl pk) ob) r (put sl d' v) ob') (fun v ob' => Pn' v (Xd sl pk) ob') i) (fun sl => rwp P (fun sl ob => K' (Xd sl keep) ob) (fun v sl ob => Pn' v (Xd sl pk) ob) r (put sl d' .undef) ob) (look sl g) := by
             intro u hu
             rw [hu]
             simp only [gdK]
             have hh2 : ∀ w, u = w → Inv T σ2 ((g, .d (.bool w)) :: sl) sl1 ob := fun w e => by
              subst e; rw [← hu]; exact hI1.congr hcg
             refine ⟨fun e1 => ?_, fun e1 => ?_⟩
             ·exact step (hh2 _ e1) (hr.1 (by rw [← hh, Yl, hq, hu, e1]; simp [isB]))
             ·exact none' (hh2 _ e1) (by rw [Yl, hq, hu, e1]; cases b <;> simp [isB])
            rcases Xde hb with hb | hb
            ·exact main true (by rw [hv, hb])
            ·exact main false (by rw [hv, hb])
          ·cases hp
        ·cases h
       ·cases h
      ·cases h
     ·cases h
    ·cases h

theorem Xkj {P : Prg} {n n' : Xb → Objs → Prop} {Pn Pn' : V → Xb → Objs → Prop} (hn : ∀ sl ob, n sl ob → n' sl ob) (hp : ∀ v sl ob, Pn v sl ob → Pn' v sl ob) : ∀ (x : It) (sl : Xb) (ob : Objs), itK P n Pn x sl ob → itK P n' Pn' x sl ob
 | .op d i, sl, ob, h => by
  simp only [itK] at h ⊢
  exact I.wp_mono (fun _ _ h => hn _ _ h) (fun _ _ h => hp _ _ _ h) h
 | .gop s want d i, sl, ob, h => by
  simp only [itK] at h ⊢
  generalize look sl s = v at h ⊢
  unfold gdK at h; split at h
  ·exact ⟨fun e => I.wp_mono (fun _ _ h => hn _ _ h) (fun _ _ h => hp _ _ _ h) (h.1 e), fun e => hn _ _ (h.2 e)⟩
  ·exact hn _ _ h
  ·exact h.elim
mutual
theorem Xel {P : Prg} {K K' : Xb → Objs → Prop} {Pn Pn' : V → Xb → Objs → Prop} (hk : ∀ sl ob, K sl ob → K' sl ob) (hp : ∀ v sl ob, Pn v sl ob → Pn' v sl ob) : ∀ (t : Ot) (sl : Xb) (ob : Objs), owp P K Pn t sl ob → owp P K' Pn' t sl ob
 | .done, sl, ob, h => by simp only [owp] at h ⊢; exact hk _ _ h
 | .one _ x r, sl, ob, h => by simp only [owp] at h ⊢; exact Xkj (fun sl ob h => Xel hk hp r sl ob h) hp x sl ob h
 | .br l, sl, ob, h => by simp only [owp] at h ⊢; exact Xgh hk hp l sl ob h
theorem Xgh {P : Prg} {K K' : Xb → Objs → Prop} {Pn Pn' : V → Xb → Objs → Prop} (hk : ∀ sl ob, K sl ob → K' sl ob) (hp : ∀ v sl ob, Pn v sl ob → Pn' v sl ob) : ∀ (t : Ots) (sl : Xb) (ob : Objs), Xe4 P K Pn t sl ob → Xe4 P K' Pn' t sl ob
 | .nil, sl, ob, h => by simp only [Xe4]
 | .cons _ x r l, sl, ob, h => by
  simp only [Xe4] at h ⊢
  exact ⟨Xkj (fun sl ob h => Xel hk hp r sl ob h) hp x sl ob h.1, Xgh hk hp l sl ob h.2⟩
end

inductive S2 where
 | rg (l : List It2) (keep : List (Nat × E)) (pk : List Nat)
 | rgT (t : Ot) (keep pk : List Nat)
 | seq (a b : S2)
 | skip
 | cond (c : A) (a b : S2)
 | block (n : Nat) (a : S2)
 | loop (keep : List Nat) (a : S2)
 | exit (n : Nat)
 | ret

def Yo (P : Prg) (T : Tab) : S2 → Z5 → Xb → Objs → Prop
 | .rg l keep pk, Q, sl, ob => Wr P T (fun sl ob => Z0 T sl ob keep ∧ Q .normal (Vc T sl ob keep) ob) (fun v sl ob => Q (.panic v) (Xd sl pk) ob) l sl ob
 | .rgT t keep pk, Q, sl, ob => owp P (fun sl ob => Q .normal (Xd sl keep) ob) (fun v sl ob => Q (.panic v) (Xd sl pk) ob) t sl ob
 | .seq a b, Q, sl, ob => Yo P T a (Zt (Yo P T b Q) Q) sl ob
 | .skip, Q, sl, ob => Q .normal sl ob
 | .cond c a b, Q, sl, ob => Qk (Yo P T a Q sl ob) (Yo P T b Q sl ob) (c.ev sl)
 | .block n a, Q, sl, ob => Yo P T a (Y5 n Q) sl ob
 | .loop keep a, Q, sl, ob => ALoop keep (Yo P T a) Q sl ob
 | .exit n, Q, sl, ob => Q (.exit n) sl ob
 | .ret, Q, sl, ob => Q .ret sl ob

def S.lift (fs : List Nat) : S → Option S2
 | .rg _ l keep pk => match Qw fs keep pk l [] [] [] with
  | some (l, kp) => some (.rg l kp pk)
  | none => none
 | .rgT _ t keep pk => some (.rgT t keep pk)
 | .seq a b => match a.lift fs, b.lift fs with
  | some a, some b => some (.seq a b)
  | _, _ => none
 | .skip => some .skip
 | .cond c a b => match a.lift fs, b.lift fs with
  | some a, some b => some (.cond c a b)
  | _, _ => none
 | .block n a => match a.lift fs with
  | some a => some (.block n a)
  | none => none
 | .loop keep a => match a.lift fs with
  | some a => some (.loop keep a)
  | none => none
 | .exit n => some (.exit n)
 | .ret => some .ret

theorem S.lift_sound {P : Prg} {T : Tab} (hT : TOk P T) {fs : List Nat} : ∀ (s : S) {s2 : S2} {Q Q' : Z5} {sl : Xb} {ob : Objs}, s.lift fs = some s2 → (∀ e sl ob, Q e sl ob → Q' e sl ob) → Yo P T s2 Q sl ob → cwp P s Q' sl ob
 | .rg o l keep pk, s2, Q, Q', sl, ob, h, hQ, hc => by
  simp only [S.lift] at h
  split at h
  ·rename_i l' kp hl
   cases h
   simp only [Yo] at hc
   simp only [cwp]
   exact Yh hT (K := fun sl ob => Q .normal sl ob) (Pn := fun v sl ob => Q (.panic v) sl ob) (fun _ _ h => hQ _ _ _ h) (fun _ _ _ h => hQ _ _ _ h) l
    (fun k p e h => by simp [ent, Zj] at h; obtain ⟨rfl, rfl⟩ := h; exact ⟨fun _ => rfl, fun h => by cases h⟩) hl hc
  ·cases h
 | .rgT n t keep pk, s2, Q, Q', sl, ob, h, hQ, hc => by
  simp only [S.lift] at h
  cases h
  simp only [Yo] at hc
  simp only [cwp]
  exact Xel (fun _ _ h => hQ _ _ _ h) (fun _ _ _ h => hQ _ _ _ h) t sl ob hc
 | .seq a b, s2, Q, Q', sl, ob, h, hQ, hc => by
  simp only [S.lift] at h
  split at h
  ·rename_i a' b' ha hb
   cases h
   simp only [Yo] at hc
   simp only [cwp]
   refine S.lift_sound hT a ha (fun e sl ob h => ?_) hc
   cases e with
   | normal => exact S.lift_sound hT b hb hQ h
   | _ => exact hQ _ _ _ h
  ·cases h
 | .skip, s2, Q, Q', sl, ob, h, hQ, hc => by simp only [S.lift] at h; cases h; exact hQ _ _ _ hc
 | .cond c a b, s2, Q, Q', sl, ob, h, hQ, hc => by
  simp only [S.lift] at h
  split at h
  ·rename_i a' b' ha hb
   cases h
   simp only [Yo] at hc
   simp only [cwp]
   generalize c.ev sl = v at hc ⊢
   unfold Qk at hc; split at hc
   ·exact ⟨fun e => S.lift_sound hT a ha hQ (hc.1 e), fun e => S.lift_sound hT b hb hQ (hc.2 e)⟩
   ·exact hc.elim
  ·cases h
 | .block n a, s2, Q, Q', sl, ob, h, hQ, hc => by
  simp only [S.lift] at h
  split at h
  ·rename_i a' ha
   cases h
   simp only [Yo] at hc
   simp only [cwp]
   refine S.lift_sound hT a ha (fun e sl ob h => ?_) hc
   cases e with
   | exit m =>
    simp only [Y5] at h ⊢
    split
    ·rename_i e; rw [if_pos e] at h; exact hQ _ _ _ h
    ·rename_i e; rw [if_neg e] at h; exact hQ _ _ _ h
   | _ => exact hQ _ _ _ h
  ·cases h
 | .loop keep a, s2, Q, Q', sl, ob, h, hQ, hc => by
  simp only [S.lift] at h
  split at h
  ·rename_i a' ha
   cases h
   simp only [Yo] at hc
   simp only [cwp]
   obtain ⟨ι, S, O, I, μ, i0, h1, h2, h3, h4⟩ := hc.run
   refine ⟨⟨ι, S, O, I, μ, i0, h1, h2, h3, fun i hi => S.lift_sound hT a ha (fun e sl ob h => ?_) (h4 i hi)⟩⟩
   cases e with
   | normal => exact h
   | _ => exact hQ _ _ _ h
  ·cases h
 | .exit n, s2, Q, Q', sl, ob, h, hQ, hc => by simp only [S.lift] at h; cases h; exact hQ _ _ _ hc
 | .ret, s2, Q, Q', sl, ob, h, hQ, hc => by simp only [S.lift] at h; cases h; exact hQ _ _ _ hc
end Go.Ab
/- The equations by which folded statements are walked. Over any program; no condition. -/
namespace Go.Ab
open Go

theorem pcall_lift {P : Prg} {p : Program} (hP : P.p = p) (hm : p.follows .mixedOrders = true) {f : Nat} {s : S} {rs : List RV} {ds : List D} {ob0 : Objs} {K : V → Prop} {fs : List Nat} {s2 : S2} {T : Tab} (hc : Xx p f ds.length s rs = true) (hl : s.lift fs = some s2) (hT : TOk P T)
  (h : Yo P T s2 (Xa9 rs K) (Qe 0 (ds.map .d)) []) : PCall P f (ds.map .d) ob0 K :=
 Xvr hP hm hc (S.lift_sound hT s hl (fun _ _ _ h => h) h)

theorem acall_lift {P : Prg} {p : Program} (hP : P.p = p) (hm : p.follows .mixedOrders = true) {f : Nat} {s : S} {rs : List RV} {vs : List V} {ob : Objs} {K : Out → Objs → Prop} {fs : List Nat} {s2 : S2} {T : Tab} (hc : Xx p f vs.length s rs = true) (hl : s.lift fs = some s2) (hT : TOk P T)
  (h : (∀ kp, V.mens (young (fresh ob) kp) vs = false) → (∀ kp, noMenO (young (fresh ob) kp) ob = true) → Yo P T s2 (Zy (fresh ob) rs K) (Qe 0 vs) ob) : ACall P f vs ob K :=
 ACall.of_wf fun h1 h2 => by subst hP; exact Xb5 hm hc (S.lift_sound hT s hl (fun _ _ _ h => h) (h h1 h2))

def PFn (P : Prg) (f : Nat) (F : Fn) : Prop := ∀ vs, F.pre vs → ∀ (ob : Objs) (K : V → Prop), K (F.val vs) → PCall P f vs ob K
theorem TOk.nil {P : Prg} : TOk P [] := fun f F h => by simp [U2] at h
theorem TOk.cons {P : Prg} {T : Tab} {f : Nat} {F : Fn} (h : PFn P f F) (hT : TOk P T) : TOk P ((f, F) :: T) := fun g G hg => by
 simp only [U2] at hg
 split at hg
 ·rename_i e; subst e; cases hg; exact h
 ·exact hT g G hg

def X8m (v : V) : Prop := Xql (fun w => w = X2w v) v
def X8g (v : V) : Prop := Xse (fun w => w = Xzf v) v
def mxS (u v : V) : Prop := mxK (fun w => w = mxV u v) u v
def Xm3 (o : BinOp) (u v : V) : Prop := Xj2 o (fun w => w = Xyr o u v) u v
def Xcm (e : Bool) (v : V) : Prop := Wm e (fun w => w = Uz e v) v
def X3r (ob : Objs) (v : V) : Prop := Xmz ob (fun w => w = X29 v) v
def X8h (k : IntKind) (v : V) : Prop := Xok k (fun w => w = Xzh k v) v
def idxS (u v : V) : Prop := Xsh (fun w => w = X4u u v) u v
def Xbu (ob : Objs) (z : Nat) (u v : V) : Prop := Qs ob z (fun w => w = Xbv z u v) u v
def Xh4 (ob : Objs) (n z : Nat) (u v : V) : Prop := Jr ob n z (fun w => w = Xdt u v) u v
def Xl4 (ob : Objs) (f fo : Nat) (v : V) : Prop := Qp ob f fo (fun w => w = Xhy f fo v) v
def ldS (ob : Objs) (n : Nat) (ag : Bool) (v : V) : Prop := ldK ob n ag (fun w => w = ldV ob v) v
def Xmf (v : V) : Prop := Js (fun w => w = v) v
def Xvd (v : V) : Prop := Xay (fun w => w = Xh7 v) v
def Xdv (ob : Objs) (v : V) : Prop := U1 ob (fun w => w = Xbw v) v
def Jv (l h : Option V) (v : V) : Prop := Xb2 l h (fun w => w = Qc l h v) v
def Xv2 (z : Nat) (l h : Option V) (v : V) : Prop := Xb1 z l h (fun w => w = Xmj l h v) v
def X8j (i : Nat) (v : V) : Prop := Xsg i (fun w => w = X3h i v) v
def X8p (t : Nat) (z : D) (v : V) : Prop := Xv7 t z (fun w => w = Xx1 t z v) v

section
variable (P : Prg) (T : Tab) (sl : Xb) (ob : Objs) (x y z : E) (a : A) (u v w : V) (k j n m : Nat) (b c : Bool) (kd kd' : IntKind) (i i' : Int) (s s' : List UInt8) (xs : List D) (vs : List V) (d : D) (o : BinOp) (p : List Nat)
-- what expressions yield
@[simp] theorem v_a : E.val T sl ob (.a a) = a.ev sl := by simp only [E.val]
@[simp] theorem v_ite : E.val T sl ob (.ite x y z) = Xa8 (x.val T sl ob) (y.val T sl ob) (z.val T sl ob) := by simp only [E.val]
@[simp] theorem v_call : E.val T sl ob (.call k x) = Xs7 (U2 T k) (x.val T sl ob) := by simp only [E.val]
@[simp] theorem v_nil : E.val T sl ob .nil = .tup [] := by simp only [E.val]
@[simp] theorem v_cons : E.val T sl ob (.cons x y) = Xoi (x.val T sl ob) (y.val T sl ob) := by simp only [E.val]
@[simp] theorem v_not : E.val T sl ob (.u (.not (.t 0)) x) = X2w (x.val T sl ob) := by simp [E.val, C.val]
@[simp] theorem v_cpl : E.val T sl ob (.u (.cpl (.t 0)) x) = Xzf (x.val T sl ob) := by simp [E.val, C.val]
@[simp] theorem v_mx : E.val T sl ob (.b (.mx (.t 0) (.t 1)) x y) = mxV (x.val T sl ob) (y.val T sl ob) := by simp [E.val, C.val]
@[simp] theorem v_bin : E.val T sl ob (.b (.bin o (.t 0) (.t 1)) x y) = Xyr o (x.val T sl ob) (y.val T sl ob) := by simp [E.val, C.val]
@[simp] theorem v_isnil : E.val T sl ob (.u (.isnil b (.t 0)) x) = Uz b (x.val T sl ob) := by simp [E.val, C.val]
@[simp] theorem v_usd : E.val T sl ob (.u (.usd (.t 0)) x) = X29 (x.val T sl ob) := by simp [E.val, C.val]
@[simp] theorem v_cvi : E.val T sl ob (.u (.cvi kd (.t 0)) x) = Xzh kd (x.val T sl ob) := by simp [E.val, C.val]
@[simp] theorem v_idx : E.val T sl ob (.b (.idx (.t 0) (.t 1)) x y) = X4u (x.val T sl ob) (y.val T sl ob) := by simp [E.val, C.val]
@[simp] theorem v_idxA : E.val T sl ob (.b (.idxA n (.t 0) (.t 1)) x y) = Xbv n (x.val T sl ob) (y.val T sl ob) := by simp [E.val, C.val]
@[simp] theorem v_idxP : E.val T sl ob (.b (.idxP k n (.t 0) (.t 1)) x y) = Xdt (x.val T sl ob) (y.val T sl ob) := by simp [E.val, C.val]
@[simp] theorem v_fldA : E.val T sl ob (.u (.fldA k n (.t 0)) x) = Xhy k n (x.val T sl ob) := by simp [E.val, C.val]
@[simp] theorem v_ld : E.val T sl ob (.u (.ld n b (.t 0)) x) = ldV ob (x.val T sl ob) := by simp [E.val, C.val]
@[simp] theorem v_nilc : E.val T sl ob (.u (.nilc (.t 0)) x) = x.val T sl ob := by simp [E.val, C.val]
@[simp] theorem v_lenS : E.val T sl ob (.u (.lenS (.t 0)) x) = Xh7 (x.val T sl ob) := by simp [E.val, C.val]
@[simp] theorem v_lenL : E.val T sl ob (.u (.lenL (.t 0)) x) = Xbw (x.val T sl ob) := by simp [E.val, C.val]
@[simp] theorem v_slcS1 : E.val T sl ob (.b (.slcS (.t 0) (some (.t 1)) none) x y) = Qc (some (y.val T sl ob)) none (x.val T sl ob) := by simp [E.val, C.val]
@[simp] theorem v_slcS2 : E.val T sl ob (.b (.slcS (.t 0) none (some (.t 1))) x y) = Qc none (some (y.val T sl ob)) (x.val T sl ob) := by simp [E.val, C.val]
@[simp] theorem v_slcS3 : E.val T sl ob (.t (.slcS (.t 0) (some (.t 1)) (some (.t 2))) x y z) = Qc (some (y.val T sl ob)) (some (z.val T sl ob)) (x.val T sl ob) := by simp [E.val, C.val]
@[simp] theorem v_slcL1 : E.val T sl ob (.b (.slcL n (.t 0) (some (.t 1)) none) x y) = Xmj (some (y.val T sl ob)) none (x.val T sl ob) := by simp [E.val, C.val]
@[simp] theorem v_ext : E.val T sl ob (.u (.ext (.t 0) n) x) = X3h n (x.val T sl ob) := by simp [E.val, C.val]
@[simp] theorem v_mki : E.val T sl ob (.u (.mki n (.t 0)) x) = Xvk n (x.val T sl ob) := by simp [E.val, C.val]
@[simp] theorem v_tas : E.val T sl ob (.u (.tas n d (.t 0)) x) = Xx1 n d (x.val T sl ob) := by simp [E.val, C.val]
-- when expressions are safe
@[simp] theorem o_a : E.ok T sl ob (.a a) = True := by simp only [E.ok]
@[simp] theorem o_ite : E.ok T sl ob (.ite x y z) = (x.ok T sl ob ∧ Xan (x.val T sl ob) ∧ (isB true (x.val T sl ob) = true → y.ok T sl ob) ∧ (isB false (x.val T sl ob) = true → z.ok T sl ob)) := by simp only [E.ok]
@[simp] theorem o_call : E.ok T sl ob (.call k x) = (x.ok T sl ob ∧ Xs6 (U2 T k) (x.val T sl ob)) := by simp only [E.ok]
@[simp] theorem o_nil : E.ok T sl ob .nil = True := by simp only [E.ok]
@[simp] theorem o_cons : E.ok T sl ob (.cons x y) = (x.ok T sl ob ∧ y.ok T sl ob) := by simp only [E.ok]
@[simp] theorem o_not : E.ok T sl ob (.u (.not (.t 0)) x) = (x.ok T sl ob ∧ X8m (x.val T sl ob)) := by simp [E.ok, C.ok, C.val, X8m]
@[simp] theorem o_cpl : E.ok T sl ob (.u (.cpl (.t 0)) x) = (x.ok T sl ob ∧ X8g (x.val T sl ob)) := by simp [E.ok, C.ok, C.val, X8g]
@[simp] theorem o_mx : E.ok T sl ob (.b (.mx (.t 0) (.t 1)) x y) = (x.ok T sl ob ∧ y.ok T sl ob ∧ mxS (x.val T sl ob) (y.val T sl ob)) := by simp [E.ok, C.ok, C.val, mxS]
@[simp] theorem o_bin : E.ok T sl ob (.b (.bin o (.t 0) (.t 1)) x y) = (x.ok T sl ob ∧ y.ok T sl ob ∧ Xm3 o (x.val T sl ob) (y.val T sl ob)) := by simp [E.ok, C.ok, C.val, Xm3]
@[simp] theorem o_usd : E.ok T sl ob (.u (.usd (.t 0)) x) = (x.ok T sl ob ∧ X3r ob (x.val T sl ob)) := by simp [E.ok, C.ok, C.val, X3r]
@[simp] theorem o_isnil : E.ok T sl ob (.u (.isnil b (.t 0)) x) = (x.ok T sl ob ∧ Xcm b (x.val T sl ob)) := by simp [E.ok, C.ok, C.val, Xcm]
@[simp] theorem o_cvi : E.ok T sl ob (.u (.cvi kd (.t 0)) x) = (x.ok T sl ob ∧ X8h kd (x.val T sl ob)) := by simp [E.ok, C.ok, C.val, X8h]
@[simp] theorem o_idx : E.ok T sl ob (.b (.idx (.t 0) (.t 1)) x y) = (x.ok T sl ob ∧ y.ok T sl ob ∧ idxS (x.val T sl ob) (y.val T sl ob)) := by simp [E.ok, C.ok, C.val, idxS]
@[simp] theorem o_idxA : E.ok T sl ob (.b (.idxA n (.t 0) (.t 1)) x y) = (x.ok T sl ob ∧ y.ok T sl ob ∧ Xbu ob n (x.val T sl ob) (y.val T sl ob)) := by simp [E.ok, C.ok, C.val, Xbu]
@[simp] theorem o_idxP : E.ok T sl ob (.b (.idxP k n (.t 0) (.t 1)) x y) = (x.ok T sl ob ∧ y.ok T sl ob ∧ Xh4 ob k n (x.val T sl ob) (y.val T sl ob)) := by simp [E.ok, C.ok, C.val, Xh4]
@[simp] theorem o_fldA : E.ok T sl ob (.u (.fldA k n (.t 0)) x) = (x.ok T sl ob ∧ Xl4 ob k n (x.val T sl ob)) := by simp [E.ok, C.ok, C.val, Xl4]
@[simp] theorem o_ld : E.ok T sl ob (.u (.ld n b (.t 0)) x) = (x.ok T sl ob ∧ ldS ob n b (x.val T sl ob)) := by simp [E.ok, C.ok, C.val, ldS]
@[simp] theorem o_nilc : E.ok T sl ob (.u (.nilc (.t 0)) x) = (x.ok T sl ob ∧ Xmf (x.val T sl ob)) := by simp [E.ok, C.ok, C.val, Xmf]
@[simp] theorem o_lenS : E.ok T sl ob (.u (.lenS (.t 0)) x) = (x.ok T sl ob ∧ Xvd (x.val T sl ob)) := by simp [E.ok, C.ok, C.val, Xvd]
@[simp] theorem o_lenL : E.ok T sl ob (.u (.lenL (.t 0)) x) = (x.ok T sl ob ∧ Xdv ob (x.val T sl ob)) := by simp [E.ok, C.ok, C.val, Xdv]
@[simp] theorem o_slcS1 : E.ok T sl ob (.b (.slcS (.t 0) (some (.t 1)) none) x y) = (x.ok T sl ob ∧ y.ok T sl ob ∧ Jv (some (y.val T sl ob)) none (x.val T sl ob)) := by simp [E.ok, C.ok, C.val, Jv]
@[simp] theorem o_slcS2 : E.ok T sl ob (.b (.slcS (.t 0) none (some (.t 1))) x y) = (x.ok T sl ob ∧ y.ok T sl ob ∧ Jv none (some (y.val T sl ob)) (x.val T sl ob)) := by simp [E.ok, C.ok, C.val, Jv]
@[simp] theorem o_slcS3 : E.ok T sl ob (.t (.slcS (.t 0) (some (.t 1)) (some (.t 2))) x y z) = (x.ok T sl ob ∧ y.ok T sl ob ∧ z.ok T sl ob ∧ Jv (some (y.val T sl ob)) (some (z.val T sl ob)) (x.val T sl ob)) := by simp [E.ok, C.ok, C.val, Jv]
@[simp] theorem o_slcL1 : E.ok T sl ob (.b (.slcL n (.t 0) (some (.t 1)) none) x y) = (x.ok T sl ob ∧ y.ok T sl ob ∧ Xv2 n (some (y.val T sl ob)) none (x.val T sl ob)) := by simp [E.ok, C.ok, C.val, Xv2]
@[simp] theorem o_ext : E.ok T sl ob (.u (.ext (.t 0) n) x) = (x.ok T sl ob ∧ X8j n (x.val T sl ob)) := by simp [E.ok, C.ok, C.val, X8j]
@[simp] theorem o_mki : E.ok T sl ob (.u (.mki n (.t 0)) x) = x.ok T sl ob := by simp [E.ok, C.ok, C.val]
@[simp] theorem o_tas : E.ok T sl ob (.u (.tas n d (.t 0)) x) = (x.ok T sl ob ∧ X8p n d (x.val T sl ob)) := by simp [E.ok, C.ok, C.val, X8p]
-- values
@[simp] theorem pickV_b (b1 b2 : Bool) : Xa8 (.d (.bool b)) (.d (.bool b1)) (.d (.bool b2)) = .d (.bool (if b then b1 else b2)) := by simp only [Xa8]
attribute [simp] Xqw Xqu
@[simp] theorem notV_b : X2w (.d (.bool b)) = .d (.bool (!b)) := by simp only [X2w]
@[simp] theorem notS_b : X8m (.d (.bool b)) = True := by simp [X8m]
@[simp] theorem cplV_i : Xzf (.d (.int kd i)) = .d (.int kd (Yn .xor kd (if kd.signed then -1 else kd.max) i)) := by simp only [Xzf]
@[simp] theorem cplS_i : X8g (.d (.int kd i)) = True := by simp [X8g, Xse]
@[simp] theorem mxV_i : mxV (.d (.int kd i)) (.d (.int kd' i')) = .d (.int kd (if i' > i then i' else i)) := by simp only [mxV]
@[simp] theorem mxS_i : mxS (.d (.int kd i)) (.d (.int kd' i')) = True := by simp [mxS, mxK, mxV]
@[simp] theorem binV_i : Xyr o (.d (.int kd i)) (.d (.int kd' i')) = Wq o kd i i' := by simp only [Xyr]
@[simp] theorem binV_s : Xyr o (.d (.str s)) (.d (.str s')) = Xx0 o s s' := by simp only [Xyr]
@[simp] theorem intV_add : Wq .add kd i i' = .d (.int kd (kd.wrap (i + i'))) := by simp only [Wq]
@[simp] theorem intV_sub : Wq .sub kd i i' = .d (.int kd (kd.wrap (i - i'))) := by simp only [Wq]
@[simp] theorem intV_mul : Wq .mul kd i i' = .d (.int kd (kd.wrap (i * i'))) := by simp only [Wq]
@[simp] theorem intV_quo : Wq .quo kd i i' = .d (.int kd (kd.wrap (i.tdiv i'))) := by simp only [Wq]
@[simp] theorem intV_rem : Wq .rem kd i i' = .d (.int kd (i.tmod i')) := by simp only [Wq]
@[simp] theorem intV_and : Wq .and kd i i' = .d (.int kd (Yn .and kd i i')) := by simp only [Wq]
@[simp] theorem intV_or : Wq .or kd i i' = .d (.int kd (Yn .or kd i i')) := by simp only [Wq]
@[simp] theorem intV_xor : Wq .xor kd i i' = .d (.int kd (Yn .xor kd i i')) := by simp only [Wq]
@[simp] theorem intV_shl : Wq .shl kd i i' = .d (.int kd (kd.wrap (i * 2 ^ (min i'.toNat kd.bits)))) := by simp only [Wq]
@[simp] theorem intV_shr : Wq .shr kd i i' = .d (.int kd (i.fdiv (2 ^ (min i'.toNat kd.bits)))) := by simp only [Wq]
@[simp] theorem intV_eql : Wq .eql kd i i' = .d (.bool (i == i')) := by simp only [Wq]
@[simp] theorem intV_neq : Wq .neq kd i i' = .d (.bool (i != i')) := by simp only [Wq]
@[simp] theorem intV_lss : Wq .lss kd i i' = .d (.bool (decide (i < i'))) := by simp only [Wq]
@[simp] theorem intV_leq : Wq .leq kd i i' = .d (.bool (decide (i ≤ i'))) := by simp only [Wq]
@[simp] theorem intV_gtr : Wq .gtr kd i i' = .d (.bool (decide (i' < i))) := by simp only [Wq]
@[simp] theorem intV_geq : Wq .geq kd i i' = .d (.bool (decide (i' ≤ i))) := by simp only [Wq]
@[simp] theorem strV_eql : Xx0 .eql s s' = .d (.bool (s == s')) := by simp only [Xx0]
@[simp] theorem strV_neq : Xx0 .neq s s' = .d (.bool (s != s')) := by simp only [Xx0]
def X9o (o : BinOp) (i : Int) : Prop := match o with
 | .quo | .rem => i ≠ 0
 | .shl | .shr => 0 ≤ i
 | _ => True
@[simp] theorem binS_i : Xm3 o (.d (.int kd i)) (.d (.int kd i')) = X9o o i' := by cases o <;> simp [Xm3, X9o, Xki, Wq]
@[simp] theorem binS_shl : Xm3 .shl (.d (.int kd i)) (.d (.int kd' i')) = (0 ≤ i') := by simp [Xm3]
@[simp] theorem binS_shr : Xm3 .shr (.d (.int kd i)) (.d (.int kd' i')) = (0 ≤ i') := by simp [Xm3]
attribute [simp] X9o
@[simp] theorem binS_eql : Xm3 .eql (.d (.str s)) (.d (.str s')) = True := by simp [Xm3]
@[simp] theorem binS_neq : Xm3 .neq (.d (.str s)) (.d (.str s')) = True := by simp [Xm3]
@[simp] theorem isnilV_n : Uz b (.d .nili) = .d (.bool b) := by simp only [Uz]
@[simp] theorem isnilS_n : Xcm b (.d .nili) = True := by simp [Xcm]
@[simp] theorem isnilV_di : Uz b (.d (.iface k d)) = .d (.bool (!b)) := by simp only [Uz]
@[simp] theorem isnilS_di : Xcm b (.d (.iface k d)) = True := by simp [Xcm]
@[simp] theorem usdV_s : X29 (.sl k n) = .sd k n := by simp only [X29]
@[simp] theorem usdV_n : X29 (.d .nils) = .d .nilp := by simp only [X29]
@[simp] theorem usdS_s : X3r ob (.sl k n) = ∃ E sz xs, lookO ob k = some (.arr E sz xs) ∧ sz ≠ 0 ∧ n = xs.length ∧ xs ≠ [] := by simp [X3r]
@[simp] theorem usdS_n : X3r ob (.d .nils) = True := by simp [X3r]
@[simp] theorem cviV_i : Xzh kd (.d (.int kd' i)) = .d (.int kd (kd.wrap i)) := by simp only [Xzh]
@[simp] theorem cviS_i : X8h kd (.d (.int kd' i)) = True := by simp [X8h]
@[simp] theorem idxV_s : X4u (.d (.str s)) (.d (.int kd i)) = .d (.int .u8 (s.getD i.toNat 0).toNat) := by simp only [X4u]
@[simp] theorem idxS_s : idxS (.d (.str s)) (.d (.int kd i)) = (0 ≤ i ∧ i < s.length) := by simp [idxS]
@[simp] theorem idxAV_l : Xbv m (.d (.list n xs)) (.d (.int kd i)) = .d (.ref (xs.getD i.toNat default)) := by simp only [Xbv]
@[simp] theorem idxAS_l : Xbu ob n (.d (.list n xs)) (.d (.int kd i)) = (0 ≤ i ∧ i < xs.length) := by simp [Xbu]
@[simp] theorem idxPV_p : Xdt (.ptr j p) (.d (.int kd i)) = .ptr j (p ++ [i.toNat]) := by simp only [Xdt]
@[simp] theorem idxPV_c : Xdt (.d (.ref (.agg xs))) (.d (.int kd i)) = .d (.ref (xs.getD i.toNat default)) := by simp only [Xdt]
@[simp] theorem idxPS_p : Xh4 ob k n (.ptr j p) (.d (.int kd i)) = ((0 ≤ i ∧ i < k) ∧ ∃ ks, Yr (atO ob j p) = some ks ∧ ks.length = k ∧ ∀ k ∈ ks, k.size = n) := by simp [Xh4]
@[simp] theorem Xz2 : Xh4 ob k n (.d (.ref (.agg xs))) (.d (.int kd i)) = ((0 ≤ i ∧ i < k) ∧ xs.length = k ∧ ∀ x ∈ xs, x.sz = n) := by simp [Xh4]
@[simp] theorem fldAV_p : Xhy k n (.ptr j p) = .ptr j (p ++ [k]) := by simp only [Xhy]
@[simp] theorem fldAV_c : Xhy k n (.d (.ref (.agg xs))) = .d (.ref (xs.getD k default)) := by simp only [Xhy]
def Xkf (f fo : Nat) : Option (List V) → Prop
 | some ks => f < ks.length ∧ Sh.sizes ((ks.take f).map V.shape) = fo
 | none => False
@[simp] theorem fldASo_s : Xkf k n (some vs) = (k < vs.length ∧ Sh.sizes ((vs.take k).map V.shape) = n) := by simp only [Xkf]
@[simp] theorem fldAS_p : Xl4 ob k n (.ptr j p) = Xkf k n (Yr (atO ob j p)) := by
 simp only [Xl4, Qp, Xkf]; cases Yr (atO ob j p) <;> simp [Ja]
@[simp] theorem fldAS_c : Xl4 ob k n (.d (.ref (.agg xs))) = (k < xs.length ∧ D.szs (xs.take k) = n) := by simp [Xl4]
@[simp] theorem ldVo_s : Xws (some v) = v := by simp only [Xws]
@[simp] theorem ldV_p : ldV ob (.ptr j p) = Xws (atO ob j p) := by simp only [ldV]
@[simp] theorem ldV_c : ldV ob (.d (.ref d)) = .d d := by simp only [ldV]
def X3l (n : Nat) (b : Bool) : Option V → Prop
 | some v => v.size = n ∧ v.isAgg = b
 | none => False
@[simp] theorem ldSo_s : X3l n b (some v) = (v.size = n ∧ v.isAgg = b) := by simp only [X3l]
@[simp] theorem ldS_p : ldS ob n b (.ptr j p) = X3l n b (atO ob j p) := by
 simp only [ldS, ldK, ldV]; cases atO ob j p <;> simp [Xf4, X3l, Xws]
@[simp] theorem ldS_c : ldS ob n b (.d (.ref d)) = (d.sz = n ∧ (V.d d).isAgg = b) := by simp [ldS]
@[simp] theorem nilcS_p : Xmf (.ptr j p) = True := by simp [Xmf]
@[simp] theorem nilcS_c : Xmf (.d (.ref d)) = True := by simp [Xmf]
@[simp] theorem lenSV_s : Xh7 (.d (.str s)) = .d (.int .i64 s.length) := by simp only [Xh7]
@[simp] theorem lenSS_s : Xvd (.d (.str s)) = True := by simp [Xvd]
@[simp] theorem lenLV_l : Xbw (.d (.list n xs)) = .d (.int .i64 xs.length) := by simp only [Xbw]
@[simp] theorem lenLV_n : Xbw (.d .nils) = .d (.int .i64 0) := by simp only [Xbw]
@[simp] theorem lenLV_o : Xbw (.sl j n) = .d (.int .i64 n) := by simp only [Xbw]
@[simp] theorem lenLS_l : Xdv ob (.d (.list n xs)) = True := by simp [Xdv]
@[simp] theorem lenLS_n : Xdv ob (.d .nils) = True := by simp [Xdv]
@[simp] theorem lenLS_o : Xdv ob (.sl j n) = ((∃ E z xs, lookO ob j = some (.arr E z xs) ∧ n = xs.length) ∨ ∃ E z xs, lookO ob j = some (.vec E z xs) ∧ n = xs.length) := by simp [Xdv]
@[simp] theorem slcSV_sn : Qc (some (.d (.int kd i))) none (.d (.str s)) = .d (.str (s.drop i.toNat)) := by simp [Qc, Xsd]
@[simp] theorem slcSV_ns : Qc none (some (.d (.int kd i))) (.d (.str s)) = .d (.str (s.take i.toNat)) := by simp [Qc, Xsd]
@[simp] theorem slcSV_ss : Qc (some (.d (.int kd i))) (some (.d (.int kd' i'))) (.d (.str s)) = .d (.str ((s.take i'.toNat).drop i.toNat)) := by simp only [Qc, Xsd]
@[simp] theorem slcSS_sn : Jv (some (.d (.int kd i))) none (.d (.str s)) = (0 ≤ i ∧ i ≤ s.length) := by simp [Jv, Qc, Xsd]
@[simp] theorem slcSS_ns : Jv none (some (.d (.int kd i))) (.d (.str s)) = (0 ≤ i ∧ i ≤ s.length) := by simp [Jv, Qc, Xsd]
@[simp] theorem slcSS_ss : Jv (some (.d (.int kd i))) (some (.d (.int kd' i'))) (.d (.str s)) = ((0 ≤ i' ∧ i' ≤ s.length) ∧ 0 ≤ i ∧ i ≤ i') := by simp [Jv, Qc, Xsd]
@[simp] theorem slcLV_sn : Xmj (some (.d (.int kd i))) none (.d (.list n xs)) = .d (.list n (xs.drop i.toNat)) := by simp [Xmj, Xsd]
@[simp] theorem slcLS_sn : Xv2 n (some (.d (.int kd i))) none (.d (.list n xs)) = (0 ≤ i ∧ i ≤ xs.length) := by simp [Xv2, Xmj, Xsd]
@[simp] theorem extV_t : X3h n (.tup vs) = vs.getD n .any := by simp only [X3h]
@[simp] theorem extS_t : X8j n (.tup vs) = (n < vs.length) := by simp [X8j, X3h]
@[simp] theorem tasV_dy (d' : D) : Xx1 k d (.d (.iface k d')) = .tup [.d d', .d (.bool true)] := by simp [Xx1]
@[simp] theorem tasV_dn (d' : D) (h : (j == k) = false) : Xx1 k d (.d (.iface j d')) = .tup [.d d, .d (.bool false)] := by simp at h; simp [Xx1, h]
@[simp] theorem tasS_d (d' : D) : X8p k d (.d (.iface j d')) = True := by by_cases h : j = k <;> simp [X8p, Xv7, Xx1, h]
@[simp] theorem consV_t : Xoi v (.tup vs) = .tup (v :: vs) := by simp only [Xoi]
@[simp] theorem callV_s (F : Fn) : Xs7 (some F) (.tup vs) = F.val vs := by simp only [Xs7]
@[simp] theorem callP_s (F : Fn) : Xs6 (some F) (.tup vs) = F.pre vs := by simp only [Xs6]
@[simp] theorem lookT_eq (F : Fn) : U2 ((k, F) :: T) k = some F := by simp [U2]
@[simp] theorem lookT_ne (F : Fn) (h : (j == k) = false) : U2 ((j, F) :: T) k = U2 T k := by simp at h; simp [U2, h]
@[simp] theorem isB_b : isB c (.d (.bool b)) = (b == c) := by simp only [isB]
@[simp] theorem boolV_b : Xan (.d (.bool b)) = True := by simp only [Xan]
@[simp] theorem whenV_t : Xey true v = v := by simp [Xey]
@[simp] theorem whenV_f : Xey false v = .undef := by simp [Xey]
@[simp] theorem holdsB_nil : Y2 T sl ob [] = true := by simp [Y2]
@[simp] theorem holdsB_cons (l : List (E × Bool)) : Y2 T sl ob ((x, b) :: l) = (isB b (x.val T sl ob) && Y2 T sl ob l) := by simp [Y2]
-- folded statements
@[simp] theorem zs (KS : Xb → Objs → Prop) (PS : V → Xb → Objs → Prop) : Wr P T KS PS [] sl ob = KS sl ob := by simp only [Wr]
@[simp] theorem zp (KS : Xb → Objs → Prop) (PS : V → Xb → Objs → Prop) (q : List (E × Bool)) (l : List It2) : Wr P T KS PS (.chk q x :: l) sl ob = ((Y2 T sl ob q = true → x.ok T sl ob) ∧ Wr P T KS PS l sl ob) := by simp only [Wr]
@[simp] theorem zr (KS : Xb → Objs → Prop) (PS : V → Xb → Objs → Prop) (q : List (E × Bool)) (l : List It2) : Wr P T KS PS (.lt k q x :: l) sl ob = ((Y2 T sl ob q = true → x.ok T sl ob) ∧ Wr P T KS PS l ((k, Xey (Y2 T sl ob q) (x.val T sl ob)) :: sl) ob) := by simp only [Wr]
@[simp] theorem zt (KS : Xb → Objs → Prop) (PS : V → Xb → Objs → Prop) (dd : Option Nat) (e : I) (l : List It2) : Wr P T KS PS (.op dd e :: l) sl ob = e.wp P sl ob (fun v ob' => Wr P T KS PS l (put sl dd v) ob') (fun v ob' => PS v sl ob') := by simp only [Wr]
@[simp] theorem zq (KS : Xb → Objs → Prop) (PS : V → Xb → Objs → Prop) (q : List (E × Bool)) (dd : Option Nat) (e : I) (l : List It2) : Wr P T KS PS (.gop q dd e :: l) sl ob = ((Y2 T sl ob q = true → e.wp P sl ob (fun v ob' => Wr P T KS PS l (put sl dd v) ob') (fun v ob' => PS v sl ob')) ∧ (Y2 T sl ob q = false → Wr P T KS PS l (put sl dd .undef) ob)) := by simp only [Wr]
@[simp] theorem keepE_nil : Vc T sl ob [] = [] := by simp only [Vc]
@[simp] theorem keepE_cons (l : List (Nat × E)) : Vc T sl ob ((k, x) :: l) = (k, x.val T sl ob) :: Vc T sl ob l := by simp only [Vc]
@[simp] theorem keepOk_nil : Z0 T sl ob [] = True := by simp only [Z0]
@[simp] theorem keepOk_cons (l : List (Nat × E)) : Z0 T sl ob ((k, x) :: l) = (x.ok T sl ob ∧ Z0 T sl ob l) := by simp only [Z0]
variable (Q : Z5) (s1 s2 : S2)
@[simp] theorem ql (l : List It2) (kp : List (Nat × E)) (pk : List Nat) : Yo P T (.rg l kp pk) Q sl ob = Wr P T (fun sl ob => Z0 T sl ob kp ∧ Q .normal (Vc T sl ob kp) ob) (fun v sl ob => Q (.panic v) (Xd sl pk) ob) l sl ob := by simp only [Yo]
@[simp] theorem qn : Yo P T (.seq s1 s2) Q sl ob = Yo P T s1 (Zt (Yo P T s2 Q) Q) sl ob := by simp only [Yo]
@[simp] theorem qo : Yo P T .skip Q sl ob = Q .normal sl ob := by simp only [Yo]
@[simp] theorem qi : Yo P T (.cond a s1 s2) Q sl ob = Qk (Yo P T s1 Q sl ob) (Yo P T s2 Q sl ob) (a.ev sl) := by simp only [Yo]
@[simp] theorem qh : Yo P T (.block n s1) Q sl ob = Yo P T s1 (Y5 n Q) sl ob := by simp only [Yo]
@[simp] theorem cwp2_loop (kp : List Nat) : Yo P T (.loop kp s1) Q sl ob = ALoop kp (Yo P T s1) Q sl ob := by simp only [Yo]
@[simp] theorem qj : Yo P T (.exit n) Q sl ob = Q (.exit n) sl ob := by simp only [Yo]
@[simp] theorem qk : Yo P T .ret Q sl ob = Q .ret sl ob := by simp only [Yo]
end
@[congr] theorem rwp2_congr {P : Prg} {T : Tab} {KS : Xb → Objs → Prop} {PS : V → Xb → Objs → Prop} {l : List It2} {sl sl' : Xb} {ob ob' : Objs} (h : sl = sl') (h' : ob = ob') : Wr P T KS PS l sl ob = Wr P T KS PS l sl' ob' := by rw [h, h']
@[congr] theorem cwp2_congr {P : Prg} {T : Tab} {s : S2} {Q : Z5} {sl sl' : Xb} {ob ob' : Objs} (h : sl = sl') (h' : ob = ob') : Yo P T s Q sl ob = Yo P T s Q sl' ob' := by rw [h, h']
@[congr] theorem E_val_congr {T : Tab} {sl : Xb} {ob : Objs} {e : E} : E.val T sl ob e = E.val T sl ob e := rfl
@[congr] theorem E_ok_congr {T : Tab} {sl : Xb} {ob : Objs} {e : E} : E.ok T sl ob e = E.ok T sl ob e := rfl
end Go.Ab
