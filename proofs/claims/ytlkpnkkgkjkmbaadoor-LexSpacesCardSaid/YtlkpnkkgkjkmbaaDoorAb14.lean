/- Functions: what is shown of a body is a fact on the call. Over any program; no condition. -/
import Derived.Test.YtlkpnkkgkjkmbaaDoorAb13
namespace Go.Ab
open Go

inductive RV where
  | t (k : Nat)
  | c (k n : Nat) (ag : Bool)

def RV.chk (P : Program) : ResultVar → RV → Bool
  | .tmp j, .t k => j == k
  | .cell a ty, .c k n ag => a == k && sizeT P ty == some n && (P.underlying ty).isSome && agT P ty == ag
  | _, _ => false
def chkRes (P : Program) : List ResultVar → List RV → Bool
  | [], [] => true
  | x :: r, y :: s => y.chk P x && chkRes P r s
  | _, _ => false

def RV.wp (sl : Slots) (ob : Objs) (K : V → Prop) : RV → Prop
  | .t k => K (look sl k)
  | .c k n ag => ldK ob n ag K (look sl k)
def resK (sl : Slots) (ob : Objs) : List RV → (List V → Prop) → Prop
  | [], K => K []
  | x :: r, K => x.wp sl ob fun v => resK sl ob r fun vs => K (v :: vs)

def retV : List V → V
  | [v] => v
  | vs => .tup vs

def givsK (K : List D → Objs → Prop) : Option (List D × Objs) → Prop
  | some (l, ob) => K l ob
  | none => False

def pureQ (rs : List RV) (K : V → Prop) : Post
  | .normal, sl, ob => resK sl ob rs fun vs => givsK (fun l _ => K (retV (l.map .d))) (V.givs ob vs)
  | .ret, sl, ob => resK sl ob rs fun vs => givsK (fun l _ => K (retV (l.map .d))) (V.givs ob vs)
  | .exit _, _, _ => False
  | .panic _, _, _ => False

/-- a value given up if it can be -/
def gvO (v : V) (ob : Objs) (K : V → Objs → Prop) : Option (D × Objs) → Prop
  | some (d, ob') => K (.d d) ob'
  | none => K v ob
def gvsK : List V → Objs → (List V → Objs → Prop) → Prop
  | [], ob, K => K [] ob
  | v :: r, ob, K => gvO v ob (fun v' ob' => gvsK r ob' fun vs ob'' => K (v' :: vs) ob'') (V.giv ob v)
/-- what a call leaves: the objects that it made are dropped, but for these -/
def leaveK (n : Nat) (K : Objs → Prop) (vs : List V) (ob : Objs) : Prop :=
  ∃ kp : List Nat, V.mens (young n kp) vs = false ∧ noMenO (young n kp) (dropO (young n kp) ob) = true ∧ K (dropO (young n kp) ob)
def callQ (n : Nat) (rs : List RV) (K : Out → Objs → Prop) : Post
  | .normal, sl, ob => resK sl ob rs fun vs => gvsK vs ob fun vs ob => leaveK n (K (.ret (retV vs))) vs ob
  | .ret, sl, ob => resK sl ob rs fun vs => gvsK vs ob fun vs ob => leaveK n (K (.ret (retV vs))) vs ob
  | .panic v, _, ob => leaveK n (K (.panic v)) [v] ob
  | .exit _, _, _ => False

def argS (k : Nat) : List V → Slots
  | [] => []
  | v :: r => (k, v) :: argS (k + 1) r

def fnOk (P : Program) (f n : Nat) (s : S) (rs : List RV) : Bool := match P.funcs[f]? with
  | some fn => match fn.body with
    | some code => decide (n ≤ fn.ntmps) && S.chk P fn.ntmps code s && chkRes P fn.results.toList rs
    | none => false
  | none => false

section
variable {P : Program} {w : World} {ρ : Env}

def resOne (a : Act) (r : ResultVar) : Sem Value := match r with
  | .tmp t => pure (a.tmps.getD t undef)
  | .cell x t => do loadVar t (← asAddr (a.tmps.getD x undef))

theorem res_sound {a : Act} {sl : Slots} {ob : Objs} (hs : SM w ρ sl a) (hO : OM w ρ ob) : ∀ (xs : List ResultVar) (rs : List RV) (K : List V → Prop), chkRes P xs rs = true → resK sl ob rs K →
    ∃ vs us, K vs ∧ V.reps w ρ vs us ∧ (xs.mapM (resOne a)).run P w = .ok us w
  | [], [], K, _, h => ⟨[], [], h, by simp [V.reps], by simp⟩
  | x :: r, y :: s, K, hc, h => by
    simp only [chkRes, Bool.and_eq_true] at hc
    simp only [resK] at h
    have one : ∃ v u, resK sl ob s (fun vs => K (v :: vs)) ∧ v.rep w ρ u ∧ (resOne a x).run P w = .ok u w := by
      cases x with
      | tmp t =>
        cases y with
        | t k => simp [RV.chk] at hc; obtain ⟨rfl, _⟩ := hc; exact ⟨_, _, h, hs t, by simp [resOne]⟩
        | c k n ag => simp [RV.chk] at hc
      | cell z t =>
        cases y with
        | t k => simp [RV.chk] at hc
        | c k n ag =>
          simp only [RV.chk, Bool.and_eq_true, beq_iff_eq] at hc
          obtain ⟨⟨⟨⟨rfl, h1⟩, h2⟩, h3⟩, _⟩ := hc
          simp only [RV.wp] at h
          obtain ⟨v, y, hK, hr, hrun⟩ := sound_ld (P := P) (a := a) (n := n) (ag := ag) (x := .t z) (op := .load t (.tmp z)) hs hO (by simp [C.chk, h1, h2, h3, A.chk]) (by simpa [A.ev] using h)
          refine ⟨y, v, hK, hr, ?_⟩
          have := hrun ⟨none, .load t (.tmp z), 0, "", #[], none⟩ rfl w (fun _ => Ext.refl w)
          simp only [execOp, Act.eval, Sem.run_bind, Instr.loadAt] at this
          simp only [resOne, Sem.run_bind]
          generalize hv : a.tmps.getD z undef = pv at *
          cases pv with
          | pointer ad =>
            cases ad with
            | none => simp [Instr.sureAddr] at this
            | some ad =>
              simp only [Instr.sureAddr, Sem.run_pure, Result.andThen_ok] at this
              simp only [asAddr, Sem.run_pure, Result.andThen_ok]
              revert this
              generalize (loadVar t ad).run P w = res
              intro this
              cases res with
              | ok x w' => simp at this; obtain ⟨rfl, rfl⟩ := this; rfl
              | halt x w' => simp at this
          | _ => simp [Instr.sureAddr] at this
    obtain ⟨v, u, h1, h2, h3⟩ := one
    obtain ⟨vs, us, k, h4, h5⟩ := res_sound hs hO r s _ hc.2 h1
    refine ⟨v :: vs, u :: us, k, ?_, ?_⟩
    · simp only [V.reps]; exact ⟨u, us, rfl, h2, h4⟩
    · simp only [List.mapM_cons, Sem.run_bind, h3, Result.andThen_ok, h5, Sem.run_pure]
  | [], _ :: _, _, hc, _ => by simp [chkRes] at hc
  | _ :: _, [], _, hc, _ => by simp [chkRes] at hc

def retU : List Value → Value
  | [u] => u
  | us => .tuple us.toArray

theorem results_run {fn : Func} {a : Act} {sl : Slots} {ob : Objs} {rs : List RV} {K : List V → Prop} (hs : SM w ρ sl a) (hO : OM w ρ ob) (hc : chkRes P fn.results.toList rs = true) (h : resK sl ob rs K) :
    ∃ vs us, K vs ∧ V.reps w ρ vs us ∧ (results fn a.tmps).run P w = .ok (retU us) w := by
  obtain ⟨vs, us, k, h1, h2⟩ := res_sound (P := P) hs hO _ _ _ hc h
  refine ⟨vs, us, k, h1, ?_⟩
  have h3 : (fn.results.mapM (resOne a)).run P w = .ok us.toArray w := by
    rw [Array.mapM_eq_mapM_toList]
    simp only [Sem.run_map, h2, Result.andThen_ok]
  have h4 : results fn a.tmps = (fn.results.mapM (resOne a) >>= fun vs => pure (if h : vs.size = 1 then vs[0] else .tuple vs)) := rfl
  rw [h4, Sem.run_bind]
  simp only [h3, Result.andThen_ok, Sem.run_pure]
  congr 1
  cases us with
  | nil => simp [retU]
  | cons u r =>
    cases r with
    | nil => simp [retU]
    | cons u' r' => simp [retU]

theorem reps_retV {vs : List V} {us : List Value} (h : V.reps w ρ vs us) : (retV vs).rep w ρ (retU us) := by
  cases vs with
  | nil =>
    simp only [V.reps] at h; subst h
    rw [show retV [] = .tup [] from rfl, rep_tup]; exact ⟨[], rfl, by simp [V.reps]⟩
  | cons v r =>
    simp only [V.reps] at h
    obtain ⟨u, us', rfl, h1, h2⟩ := h
    cases r with
    | nil => simp only [V.reps] at h2; subst h2; exact h1
    | cons v' r' =>
      have h2' := h2
      simp only [V.reps] at h2
      obtain ⟨u', us'', rfl, h3, h4⟩ := h2
      show (V.tup _).rep w ρ _
      rw [rep_tup]
      refine ⟨_, rfl, ?_⟩
      simp only [V.reps]
      exact ⟨u, _, rfl, h1, u', us'', rfl, h3, h4⟩

/-- results given up -/
theorem givs_temps : ∀ (vs : List V) (us : List Value) {ρ : Env} {ob ob' : Objs} {l : List D}, OM w ρ ob → V.reps w ρ vs us → V.givs ob vs = some (l, ob') → ∃ ρ', Tr w ρ w ρ' ∧ OM w ρ' ob' ∧ V.reps w ρ' (l.map .d) us
  | [], us, ρ, ob, ob', l, hO, h, e => by
    simp only [V.givs, Option.some.injEq, Prod.mk.injEq] at e
    obtain ⟨rfl, rfl⟩ := e
    exact ⟨ρ, Tr.refl _ _, hO, by simpa only [List.map_nil, V.reps] using h⟩
  | x :: r, us, ρ, ob, ob', l, hO, h, e => by
    simp only [V.givs] at e
    simp only [V.reps] at h
    obtain ⟨u, us', rfl, h1, h2⟩ := h
    split at e
    · rename_i dd ob1 hg
      obtain ⟨ρ1, t1, o1, hr⟩ := giv_temp hO (u := u) h1 hg
      cases hg2 : V.givs ob1 r with
      | none => simp [hg2, consO] at e
      | some q =>
        obtain ⟨l2, ob2⟩ := q
        simp only [hg2, consO, Option.some.injEq, Prod.mk.injEq] at e
        obtain ⟨rfl, rfl⟩ := e
        obtain ⟨ρ2, t2, o2, hr2⟩ := givs_temps r us' o1 (V.reps_tr t1 _ _ h2) hg2
        exact ⟨ρ2, t1.trans t2, o2, by simp only [List.map_cons, V.reps]; exact ⟨u, us', rfl, V.rep_tr t2 hr, hr2⟩⟩
    · cases e
theorem gvs_temps : ∀ (vs : List V) (us : List Value) {ρ : Env} {ob : Objs} {K : List V → Objs → Prop}, OM w ρ ob → V.reps w ρ vs us → gvsK vs ob K → ∃ vs' ob' ρ', K vs' ob' ∧ Tr w ρ w ρ' ∧ OM w ρ' ob' ∧ V.reps w ρ' vs' us
  | [], us, ρ, ob, K, hO, h, e => by
    simp only [gvsK] at e
    exact ⟨[], ob, ρ, e, Tr.refl _ _, hO, h⟩
  | x :: r, us, ρ, ob, K, hO, h, e => by
    simp only [gvsK] at e
    simp only [V.reps] at h
    obtain ⟨u, us', rfl, h1, h2⟩ := h
    cases hg : V.giv ob x with
    | none =>
      simp only [hg, gvO] at e
      obtain ⟨vs', ob', ρ', k, t, o, hr⟩ := gvs_temps r us' hO h2 e
      exact ⟨_, ob', ρ', k, t, o, by simp only [V.reps]; exact ⟨u, us', rfl, V.rep_tr (u := u) t h1, hr⟩⟩
    | some q =>
      obtain ⟨dd, ob1⟩ := q
      simp only [hg, gvO] at e
      obtain ⟨ρ1, t1, o1, hr⟩ := giv_temp hO (u := u) h1 hg
      obtain ⟨vs', ob', ρ', k, t, o, hr2⟩ := gvs_temps r us' o1 (V.reps_tr t1 _ _ h2) e
      exact ⟨_, ob', ρ', k, t1.trans t, o, by simp only [V.reps]; exact ⟨u, us', rfl, V.rep_tr t hr, hr2⟩⟩

/-- the arguments in the first temporaries -/
theorem argS_rep {vs : List V} {us : List Value} (h : V.reps w ρ vs us) : ∀ (k : Nat) (t : Array Value), (∀ i (hi : i < us.length), t.getD (k + i) undef = us[i]) → ∀ j, (look (argS k vs) j).rep w ρ (t.getD j undef) := by
  induction vs generalizing us with
  | nil => intro k t _ j; exact rep_any
  | cons v r ih =>
    simp only [V.reps] at h
    obtain ⟨u, us', rfl, h1, h2⟩ := h
    intro k t ht j
    simp only [argS, look]
    split
    · rename_i e; subst e
      have := ht 0 (by simp)
      simp only [Nat.add_zero, List.getElem_cons_zero] at this
      rw [this]; exact h1
    · refine ih h2 (k + 1) t (fun i hi => ?_) j
      have := ht (i + 1) (by simpa using hi)
      simp only [List.getElem_cons_succ] at this
      rw [← this]; congr 1; omega

theorem allD_reps {ρ1 : Env} (mo : Mono w (own ρ) w (own ρ1)) : ∀ (vs : List V) (us : List Value) (ds : List D), vs = ds.map .d → V.reps w ρ vs us → V.reps w ρ1 vs us
  | [], us, ds, _, h => by simpa [V.reps] using h
  | v :: r, us, [], e, h => by simp at e
  | v :: r, us, d :: ds, e, h => by
    simp only [List.map_cons, List.cons.injEq] at e
    obtain ⟨rfl, e⟩ := e
    simp only [V.reps] at h ⊢
    obtain ⟨u, us', rfl, h1, h2⟩ := h
    refine ⟨u, us', rfl, ?_, allD_reps mo r us' ds e h2⟩
    rcases h1 with h1 | ⟨p, x, q, r⟩ | ⟨p, r⟩
    · cases h1
    · exact .inr (.inl ⟨p, x, q, by simp only [V.repC] at r ⊢; exact D.rep_mono mo d x r⟩)
    · exact .inr (.inr ⟨p, by simp only [V.repC] at r ⊢; exact D.rep_mono mo d _ r⟩)

theorem reps_length : ∀ {vs : List V} {us : List Value}, V.reps w ρ vs us → us.length = vs.length
  | [], us, h => by simp [V.reps] at h; simp [h]
  | v :: r, us, h => by
    simp only [V.reps] at h
    obtain ⟨u, us', rfl, _, h2⟩ := h
    simp [reps_length h2]

/-- **A function of data**: its body, walked from its arguments alone, is a fact on every call of it. -/
theorem pcall_pure {P : Prg} (hm : P.p.follows .mixedOrders = true) {f : Nat} {s : S} {rs : List RV} {ds : List D} {ob0 : Objs} {K : V → Prop} (hc : fnOk P.p f ds.length s rs = true)
    (h : cwp P s (pureQ rs K) (argS 0 (ds.map .d)) []) : PCall P f (ds.map .d) ob0 K := by
  unfold fnOk at hc
  split at hc
  · rename_i fn hf
    split at hc
    · rename_i code hb
      simp only [Bool.and_eq_true, decide_eq_true_eq] at hc
      obtain ⟨⟨hn, h1⟩, h2⟩ := hc
      refine ⟨fun w ρ args hO hg hr => calls_of_wp hf hb ?_⟩
      let ρ0 : Env := ⟨fun _ => none, own ρ, ρ.gl⟩
      let c : Ctx := ⟨w, fun _ => False, fn.ntmps, [], P.g, fun _ => none, []⟩
      have hnone : ∀ b, ¬ ownM ρ0 b := fun b ⟨_, _, h, _⟩ => by cases h
      have hlt : ∀ b, own ρ b → b < w.heap.size := fun b h => h.elim (fun ⟨_, _, h1, h2⟩ => own_lt hO h1 h2) (hO.xlt b)
      have mo : Mono w (own ρ) w (own ρ0) := fun b h1 _ => ⟨rfl, fun h2 => h2.elim (hnone b) h1⟩
      have hr0 := allD_reps mo _ _ ds rfl hr
      have hlen : args.length = ds.length := by simpa using reps_length hr
      have m : Mod c (own ρ) ρ0 (argS 0 (ds.map .d)) [] { tmps := args.toArray ++ Array.replicate (fn.ntmps - args.toArray.size) undef, defers := [] } w := by
        refine ⟨⟨Nat.le_refl _, fun _ _ _ => rfl, fun b h => absurd h (hnone b), rfl, rfl, rfl, (fun id o h => by cases h), (fun p hp => by cases hp)⟩, ⟨fun j x hx => (by simp [lookO] at hx), fun j o hj => (by cases hj), fun i j o p b hi => (by cases hi), fun b hb => hlt b hb, fun b o hb => ⟨(hO.glb b o hb).1, fun h => h.elim (hnone b) (hO.glb b o hb).2⟩, fun b hb => absurd hb (hnone b), trivial⟩, ?_, ?_, rfl, rfl, hg⟩
        · refine argS_rep hr0 0 _ (fun i hi => ?_)
          simp [Array.getElem?_append, hi]
        · simp [c]; omega
      refine wp_mono (cwp_sound hm rfl code s _ _ _ ρ0 _ w h1 h m) ?_
      rintro e a' w' ⟨ae, sl', ob', ρ', hq, he, m'⟩
      have hfin : resK sl' ob' rs (fun vs => givsK (fun l _ => K (retV (l.map .d))) (V.givs ob' vs)) → a'.defers = [] ∧ ∃ v, (results fn a'.tmps).run P.p w' = .ok v w' ∧ ∃ x u, K x ∧ Ending.returned v = .returned u ∧ x.rep w' ρ u ∧ Ext w w' := by
        intro hq
        obtain ⟨vs, us, hk, hrep, hrun⟩ := results_run (P := P.p) (fn := fn) m'.sm m'.om h2 hq
        cases hgv : V.givs ob' vs with
        | none => simp [hgv, givsK] at hk
        | some q =>
          obtain ⟨l, ob2⟩ := q
          simp only [hgv, givsK] at hk
          obtain ⟨ρ2, t2, o2, hr2⟩ := givs_temps vs us m'.om hrep hgv
          have mo2 : Mono w' (own ρ2) w' (own ρ) := fun b h1 _ => ⟨rfl, fun h2 => h1 (.inr (by rw [t2.xo, m'.xo]; exact h2))⟩
          have hrep' := allD_reps mo2 _ _ l rfl hr2
          have hext : Ext w w' := ⟨m'.base.size, fun b hb => m'.base.keep b hb (fun h => h), m'.base.tape, m'.base.os, m'.base.out⟩
          exact ⟨m'.df, retU us, hrun, retV (l.map .d), retU us, hk, rfl, reps_retV hrep', hext⟩
      cases ae with
      | normal =>
        cases e <;> simp only [exM] at he
        exact hfin hq
      | ret =>
        cases e <;> simp only [exM] at he
        exact hfin hq
      | exit n => exact hq.elim
      | panic v => exact hq.elim
    · simp at hc
  · simp at hc

theorem reps_del' {ids : Nat → Bool} {vs : List V} {us : List Value} (hm : V.mens ids vs = false) (h : V.reps w ρ vs us) : V.reps w (ρ.del ids) vs us := V.reps_del vs us hm h

theorem noMenO_of {ids : Nat → Bool} : ∀ (ob : Objs), (∀ e ∈ ob, ∀ E t, e.2 = .box E t → V.men ids t = false) → noMenO ids ob = true
  | [], _ => rfl
  | (j, .box E t) :: r, h => by
    simp only [noMenO, Bool.and_eq_true, Bool.not_eq_true']
    exact ⟨h (j, .box E t) (by simp) E t rfl, noMenO_of r fun e he => h e (by simp [he])⟩
  | (j, .arr _ _ _) :: r, h => by simp only [noMenO]; exact noMenO_of r fun e he => h e (by simp [he])
  | (j, .gone) :: r, h => by simp only [noMenO]; exact noMenO_of r fun e he => h e (by simp [he])
/-- **A function that is handed objects**: its body, walked from its arguments and these objects, is a fact on every call of it. -/
theorem acall_walk {P : Prg} (hm : P.p.follows .mixedOrders = true) {f : Nat} {s : S} {rs : List RV} {vs : List V} {ob : Objs} {K : Out → Objs → Prop} (hc : fnOk P.p f vs.length s rs = true)
    (h : cwp P s (callQ (fresh ob) rs K) (argS 0 vs) ob) : ACall P f vs ob K := by
  unfold fnOk at hc
  split at hc
  · rename_i fn hf
    split at hc
    · rename_i code hb
      simp only [Bool.and_eq_true, decide_eq_true_eq] at hc
      obtain ⟨⟨hn, h1⟩, h2⟩ := hc
      refine ⟨fun w ρ args hO hg hr => calls_of_wp hf hb ?_⟩
      let c : Ctx := ⟨w, ownM ρ, fn.ntmps, [], P.g, ρ.m, []⟩
      have hlen : args.length = vs.length := by simpa using reps_length hr
      have m : Mod c ρ.xo ρ (argS 0 vs) ob { tmps := args.toArray ++ Array.replicate (fn.ntmps - args.toArray.size) undef, defers := [] } w := by
        refine ⟨⟨Nat.le_refl _, fun _ _ _ => rfl, fun b h => .inr h, rfl, rfl, rfl, fun id o h => ⟨o, h, .refl o⟩, (fun p hp => by cases hp)⟩, hO, ?_, ?_, rfl, rfl, hg⟩
        · refine argS_rep hr 0 _ (fun i hi => ?_)
          simp [Array.getElem?_append, hi]
        · simp [c]; omega
      refine wp_mono (cwp_sound hm rfl code s _ _ _ ρ _ w h1 h m) ?_
      rintro e a' w' ⟨ae, sl', ob', ρ', hq, he, m'⟩
      have old : ∀ kp id o, ρ.m id = some o → young (fresh ob) kp id = false := fun kp id o h0 => by
        obtain ⟨x, hx⟩ := hO.dom id o h0
        have hlt : ¬ fresh ob ≤ id := fun hle => by rw [fresh_look _ _ hle] at hx; cases hx
        simp [young, hlt]
      have tr : ∀ {ρ2 : Env}, Tr w' ρ' w' ρ2 → ∀ kp, Tr w ρ w' (ρ2.del (young (fresh ob) kp)) := fun {ρ2} t kp => by
        have b2 := m'.base.tr t
        refine ⟨b2.size, fun b h1 h2 => b2.keep b h2 h1, fun b h1 => (b2.owns b (del_ownM h1)).symm, ?_, ?_, fun id o h1 => ?_, b2.tape, b2.os, b2.out⟩
        · show ρ2.xo = ρ.xo; rw [t.xo, m'.xo]
        · show ρ2.gl = ρ.gl; rw [t.gl, m'.gl, hg]
        · obtain ⟨o', h3, h4⟩ := b2.same id o h1
          exact ⟨o', by simp only [Env.del, old kp id o h1]; exact h3, h4⟩
      have hfin : resK sl' ob' rs (fun vs => gvsK vs ob' fun vs ob' => leaveK (fresh ob) (K (.ret (retV vs))) vs ob') → a'.defers = [] ∧ ∃ v, (results fn a'.tmps).run P.p w' = .ok v w' ∧ ∃ out ob2 ρ2, K out ob2 ∧ OutRep w' ρ2 (.returned v) out ∧ OM w' ρ2 ob2 ∧ Tr w ρ w' ρ2 := by
        intro hq
        obtain ⟨vs, us, hk, hrep, hrun⟩ := results_run (P := P.p) (fn := fn) m'.sm m'.om h2 hq
        obtain ⟨vs', ob2, ρ2, ⟨kp, k1, k2, k3⟩, t2, o2, hr2⟩ := gvs_temps vs us m'.om hrep hk
        exact ⟨m'.df, retU us, hrun, .ret (retV vs'), _, _, k3, reps_retV (reps_del' k1 hr2), o2.del k2, tr t2 kp⟩
      cases ae with
      | normal =>
        cases e <;> simp only [exM] at he
        exact hfin hq
      | ret =>
        cases e <;> simp only [exM] at he
        exact hfin hq
      | exit n => exact hq.elim
      | panic v =>
        cases e <;> simp only [exM] at he
        obtain ⟨u, rfl, hu⟩ := he
        obtain ⟨kp, k1, k2, k3⟩ := hq
        simp only [V.mens, Bool.or_false] at k1
        exact ⟨m'.df, .panic v, _, _, k3, ⟨u, rfl, V.rep_del k1 hu⟩, m'.om.del k2, tr (Tr.refl _ _) kp⟩
    · simp at hc
  · simp at hc

/-- what one may lean on of the objects that a call is handed -/
theorem ACall.of_wf {P : Prg} {f : Nat} {vs : List V} {ob : Objs} {K : Out → Objs → Prop} (h : (∀ kp, V.mens (young (fresh ob) kp) vs = false) → (∀ kp, noMenO (young (fresh ob) kp) ob = true) → ACall P f vs ob K) : ACall P f vs ob K := by
  refine ⟨fun w ρ args hO hg hr => ?_⟩
  have old : ∀ kp id o, ρ.m id = some o → young (fresh ob) kp id = false := fun kp id o h0 => by
    obtain ⟨x, hx⟩ := hO.dom id o h0
    have hlt : ¬ fresh ob ≤ id := fun hle => by rw [fresh_look _ _ hle] at hx; cases hx
    simp [young, hlt]
  refine (h (fun kp => V.mens_dom (old kp) _ _ hr) (fun kp => noMenO_of ob fun e he E t ht => ?_)).run w ρ args hO hg hr
  have hx := hO.once.look e he
  rw [ht] at hx
  obtain ⟨b, cs, _, _, h3⟩ := hO.one e.1 _ hx
  exact V.men_dom (old kp) _ _ h3

theorem pcall_fn {P : Prg} {p : Program} (hP : P.p = p) (hm : p.follows .mixedOrders = true) {f : Nat} {s : S} {rs : List RV} {ds : List D} {ob0 : Objs} {K : V → Prop} (hc : fnOk p f ds.length s rs = true)
    (h : cwp P s (pureQ rs K) (argS 0 (ds.map .d)) []) : PCall P f (ds.map .d) ob0 K := by
  subst hP
  exact pcall_pure hm hc h
end
end Go.Ab
