/- Texts of this claim joined by a program, part 4 of 16; the last is: The equations by which folded statements are walked. Over any program; no condition. -/
import Derived.Test.YtmapdjjigmkbfaaGreatDoorB3
import Derived.IntWalk
set_option linter.unusedSimpArgs false
set_option linter.unusedVariables false
set_option linter.unusedSectionVars false
set_option linter.defProp false
/- Functions: what is shown of a body is a fact on the call. Over any program; no condition. -/
namespace Go.Ab
open Go

inductive RV where
 | t (k : Nat)
 | c (k n : Nat) (ag : Bool)

def RV.chk (P : Program) : ResultVar → RV → Bool
 | .tmp j,.t k => j == k
 | .cell a ty,.c k n ag => a == k && X9 P ty == some n && (P.underlying ty).isSome && agT P ty == ag
 | _,_ => false
def Ja (P : Program) : List ResultVar → List RV → Bool
 | [],[] => true
 | x :: r,y :: s => y.chk P x && Ja P r s
 | _,_ => false

def RV.wp (sl : Xb) (ob : Objs) (K : V → Prop) : RV → Prop
 | .t k => K (look sl k)
 | .c k n ag => ldK ob n ag K (look sl k)
def Vu (sl : Xb) (ob : Objs) : List RV → (List V → Prop) → Prop
 | [],K => K []
 | x :: r,K => x.wp sl ob fun v => Vu sl ob r fun vs => K (v :: vs)

def Uc : List V → V
 | [v] => v
 | vs => .tup vs

def Vh (K : List D → Objs → Prop) : Option (List D × Objs) → Prop
 | some (l,ob) => K l ob
 | none => False

def Xca (rs : List RV) (K : V → Prop) : Vx
 | .normal,sl,ob => Vu sl ob rs fun vs => Vh (fun l _ => K (Uc (l.map .d))) (V.givs ob vs)
 | .ret,sl,ob => Vu sl ob rs fun vs => Vh (fun l _ => K (Uc (l.map .d))) (V.givs ob vs)
 | .exit _,_,_ => False
 | .panic _,_,_ => False

def gvO (v : V) (ob : Objs) (K : V → Objs → Prop) : Option (D × Objs) → Prop
 | some (d,ob') => K (.d d) ob'
 | none => K v ob
def Xgk : List V → Objs → (List V → Objs → Prop) → Prop
 | [],ob,K => K [] ob
 | v :: r,ob,K => gvO v ob (fun v' ob' => Xgk r ob' fun vs ob'' => K (v' :: vs) ob'') (V.giv ob v)
def Xx (n : Nat) (K : Objs → Prop) (vs : List V) (ob : Objs) : Prop :=
 ∃ kp : List Nat,V.mens (young n kp) vs = false ∧ noMenO (young n kp) (Xy (young n kp) ob) = true ∧ K (Xy (young n kp) ob)
def V2 (n : Nat) (rs : List RV) (K : Out → Objs → Prop) : Vx
 | .normal,sl,ob => Vu sl ob rs fun vs => Xgk vs ob fun vs ob => Xx n (K (.ret (Uc vs))) vs ob
 | .ret,sl,ob => Vu sl ob rs fun vs => Xgk vs ob fun vs ob => Xx n (K (.ret (Uc vs))) vs ob
 | .panic v,_,ob => Xx n (K (.panic v)) [v] ob
 | .exit _,_,_ => False

def Ju (k : Nat) : List V → Xb
 | [] => []
 | v :: r => (k,v) :: Ju (k + 1) r

def Yf (P : Program) (f n : Nat) (s : S) (rs : List RV) : Bool := match P.funcs[f]? with
 | some fn => match fn.body with
  | some code => decide (n ≤ fn.ntmps) && S.chk P fn.ntmps code s && Ja P fn.results.toList rs
  | none => false
 | none => false

section
variable {P : Program} {w : World} {ρ : Env}

def Xfr (a : Act) (r : ResultVar) : Sem Value := match r with
 | .tmp t => pure (a.tmps.getD t undef)
 | .cell x t => do loadVar t (← asAddr (a.tmps.getD x undef))

theorem Xko {a : Act} {sl : Xb} {ob : Objs} (hs : SM w ρ sl a) (hO : OM w ρ ob) : ∀ (xs : List ResultVar) (rs : List RV) (K : List V → Prop),Ja P xs rs = true → Vu sl ob rs K →
  ∃ vs us,K vs ∧ V.reps w ρ vs us ∧ (xs.mapM (Xfr a)).run P w = .ok us w
 | [],[],K,_,h => ⟨[],[],h,by simp [V.reps],by simp⟩
 | x :: r,y :: s,K,hc,h => by
  simp only [Ja,Bool.and_eq_true] at hc
  simp only [Vu] at h
  have one : ∃ v u,Vu sl ob s (fun vs => K (v :: vs)) ∧ v.rep w ρ u ∧ (Xfr a x).run P w = .ok u w := by
   cases x with
   | tmp t =>
    cases y with
    | t k => simp [RV.chk] at hc; obtain ⟨rfl,_⟩ := hc; exact ⟨_,_,h,hs t,by simp [Xfr]⟩
    | c k n ag => simp [RV.chk] at hc
   | cell z t =>
    cases y with
    | t k => simp [RV.chk] at hc
    | c k n ag =>
     simp only [RV.chk,Bool.and_eq_true,beq_iff_eq] at hc
     obtain ⟨⟨⟨⟨rfl,h1⟩,h2⟩,h3⟩,_⟩ := hc
     simp only [RV.wp] at h
     obtain ⟨v,y,hK,hr,hrun⟩ := Xcu (P := P) (a := a) (n := n) (ag := ag) (x := .t z) (op := .load t (.tmp z)) hs hO (by simp [C.chk,h1,h2,h3,A.chk]) (by simpa [A.ev] using h)
     refine ⟨y,v,hK,hr,?_⟩
     have := hrun ⟨none,.load t (.tmp z),0, "", #[],none⟩ rfl w (fun _ => Ext.refl w)
     simp only [execOp,Act.eval,Sem.run_bind,Instr.loadAt] at this
     simp only [Xfr,Sem.run_bind]
     generalize hv : a.tmps.getD z undef = pv at *
     cases pv with
     | pointer ad =>
      cases ad with
      | none => simp [Instr.sureAddr] at this
      | some ad =>
       simp only [Instr.sureAddr,Sem.run_pure,Result.andThen_ok] at this
       simp only [asAddr,Sem.run_pure,Result.andThen_ok]
       revert this
       generalize (loadVar t ad).run P w = res
       intro this
       cases res with
       | ok x w' => simp at this; obtain ⟨rfl,rfl⟩ := this; rfl
       | halt x w' => simp at this
     | _ => simp [Instr.sureAddr] at this
  obtain ⟨v,u,h1,h2,h3⟩ := one
  obtain ⟨vs,us,k,h4,h5⟩ := Xko hs hO r s _ hc.2 h1
  refine ⟨v :: vs,u :: us,k,?_,?_⟩
  ·simp only [V.reps]; exact ⟨u,us,rfl,h2,h4⟩
  ·simp only [List.mapM_cons,Sem.run_bind,h3,Result.andThen_ok,h5,Sem.run_pure]
 | [],_ :: _,_,hc,_ => by simp [Ja] at hc
 | _ :: _,[],_,hc,_ => by simp [Ja] at hc

def Xyf : List Value → Value
 | [u] => u
 | us => .tuple us.toArray

theorem Ur {fn : Func} {a : Act} {sl : Xb} {ob : Objs} {rs : List RV} {K : List V → Prop} (hs : SM w ρ sl a) (hO : OM w ρ ob) (hc : Ja P fn.results.toList rs = true) (h : Vu sl ob rs K) :
  ∃ vs us,K vs ∧ V.reps w ρ vs us ∧ (results fn a.tmps).run P w = .ok (Xyf us) w := by
 obtain ⟨vs,us,k,h1,h2⟩ := Xko (P := P) hs hO _ _ _ hc h
 refine ⟨vs,us,k,h1,?_⟩
 have h3 : (fn.results.mapM (Xfr a)).run P w = .ok us.toArray w := by
  rw [Array.mapM_eq_mapM_toList]
  simp only [Sem.run_map,h2,Result.andThen_ok]
 have h4 : results fn a.tmps = (fn.results.mapM (Xfr a) >>= fun vs => pure (if h : vs.size = 1 then vs[0] else .tuple vs)) := rfl
 rw [h4,Sem.run_bind]
 simp only [h3,Result.andThen_ok,Sem.run_pure]
 congr 1
 cases us with
 | nil => simp [Xyf]
 | cons u r =>
  cases r with
  | nil => simp [Xyf]
  | cons u' r' => simp [Xyf]

theorem Xar {vs : List V} {us : List Value} (h : V.reps w ρ vs us) : (Uc vs).rep w ρ (Xyf us) := by
 cases vs with
 | nil =>
  simp only [V.reps] at h; subst h
  rw [show Uc [] = .tup [] from rfl,rep_tup]; exact ⟨[],rfl,by simp [V.reps]⟩
 | cons v r =>
  simp only [V.reps] at h
  obtain ⟨u,us',rfl,h1,h2⟩ := h
  cases r with
  | nil => simp only [V.reps] at h2; subst h2; exact h1
  | cons v' r' =>
   have h2' := h2
   simp only [V.reps] at h2
   obtain ⟨u',us'',rfl,h3,h4⟩ := h2
   show (V.tup _).rep w ρ _
   rw [rep_tup]
   refine ⟨_,rfl,?_⟩
   simp only [V.reps]
   exact ⟨u,_,rfl,h1,u',us'',rfl,h3,h4⟩

theorem Xbb : ∀ (vs : List V) (us : List Value) {ρ : Env} {ob ob' : Objs} {l : List D},OM w ρ ob → V.reps w ρ vs us → V.givs ob vs = some (l,ob') → ∃ ρ',Tr w ρ w ρ' ∧ OM w ρ' ob' ∧ V.reps w ρ' (l.map .d) us
 | [],us,ρ,ob,ob',l,hO,h,e => by
  simp only [V.givs,Option.some.injEq,Prod.mk.injEq] at e
  obtain ⟨rfl,rfl⟩ := e
  exact ⟨ρ,Tr.refl _ _,hO,by simpa only [List.map_nil,V.reps] using h⟩
 | x :: r,us,ρ,ob,ob',l,hO,h,e => by
  simp only [V.givs] at e
  simp only [V.reps] at h
  obtain ⟨u,us',rfl,h1,h2⟩ := h
  split at e
  ·rename_i dd ob1 hg
   obtain ⟨ρ1,t1,o1,hr⟩ := Xcl hO (u := u) h1 hg
   cases hg2 : V.givs ob1 r with
   | none => simp [hg2,U1] at e
   | some q =>
    obtain ⟨l2,ob2⟩ := q
    simp only [hg2,U1,Option.some.injEq,Prod.mk.injEq] at e
    obtain ⟨rfl,rfl⟩ := e
    obtain ⟨ρ2,t2,o2,hr2⟩ := Xbb r us' o1 (V.reps_tr t1 _ _ h2) hg2
    exact ⟨ρ2,t1.trans t2,o2,by simp only [List.map_cons,V.reps]; exact ⟨u,us',rfl,V.rep_tr t2 hr,hr2⟩⟩
  ·cases e
theorem Xdg : ∀ (vs : List V) (us : List Value) {ρ : Env} {ob : Objs} {K : List V → Objs → Prop},OM w ρ ob → V.reps w ρ vs us → Xgk vs ob K → ∃ vs' ob' ρ',K vs' ob' ∧ Tr w ρ w ρ' ∧ OM w ρ' ob' ∧ V.reps w ρ' vs' us
 | [],us,ρ,ob,K,hO,h,e => by
  simp only [Xgk] at e
  exact ⟨[],ob,ρ,e,Tr.refl _ _,hO,h⟩
 | x :: r,us,ρ,ob,K,hO,h,e => by
  simp only [Xgk] at e
  simp only [V.reps] at h
  obtain ⟨u,us',rfl,h1,h2⟩ := h
  cases hg : V.giv ob x with
  | none =>
   simp only [hg,gvO] at e
   obtain ⟨vs',ob',ρ',k,t,o,hr⟩ := Xdg r us' hO h2 e
   exact ⟨_,ob',ρ',k,t,o,by simp only [V.reps]; exact ⟨u,us',rfl,V.rep_tr (u := u) t h1,hr⟩⟩
  | some q =>
   obtain ⟨dd,ob1⟩ := q
   simp only [hg,gvO] at e
   obtain ⟨ρ1,t1,o1,hr⟩ := Xcl hO (u := u) h1 hg
   obtain ⟨vs',ob',ρ',k,t,o,hr2⟩ := Xdg r us' o1 (V.reps_tr t1 _ _ h2) e
   exact ⟨_,ob',ρ',k,t1.trans t,o,by simp only [V.reps]; exact ⟨u,us',rfl,V.rep_tr t hr,hr2⟩⟩

theorem Jv {vs : List V} {us : List Value} (h : V.reps w ρ vs us) : ∀ (k : Nat) (t : Array Value),(∀ i (hi : i < us.length),t.getD (k + i) undef = us[i]) → ∀ j,(look (Ju k vs) j).rep w ρ (t.getD j undef) := by
 induction vs generalizing us with
 | nil => intro k t _ j; exact Xdz
 | cons v r ih =>
  simp only [V.reps] at h
  obtain ⟨u,us',rfl,h1,h2⟩ := h
  intro k t ht j
  simp only [Ju,look]
  split
  ·rename_i e; subst e
   have := ht 0 (by simp)
   simp only [Nat.add_zero,List.getElem_cons_zero] at this
   rw [this]; exact h1
  ·refine ih h2 (k + 1) t (fun i hi => ?_) j
   have := ht (i + 1) (by simpa using hi)
   simp only [List.getElem_cons_succ] at this
   rw [← this]; congr 1; omega

theorem Qa {ρ1 : Env} (mo : Xii w (own ρ) w (own ρ1)) : ∀ (vs : List V) (us : List Value) (ds : List D),vs = ds.map .d → V.reps w ρ vs us → V.reps w ρ1 vs us
 | [],us,ds,_,h => by simpa [V.reps] using h
 | v :: r,us,[],e,h => by simp at e
 | v :: r,us,d :: ds,e,h => by
  simp only [List.map_cons,List.cons.injEq] at e
  obtain ⟨rfl,e⟩ := e
  simp only [V.reps] at h ⊢
  obtain ⟨u,us',rfl,h1,h2⟩ := h
  refine ⟨u,us',rfl,?_,Qa mo r us' ds e h2⟩
  rcases h1 with h1 | ⟨p,x,q,r⟩ | ⟨p,r⟩
  ·cases h1
  ·exact .inr (.inl ⟨p,x,q,by simp only [V.repC] at r ⊢; exact D.rep_mono mo d x r⟩)
  ·exact .inr (.inr ⟨p,by simp only [V.repC] at r ⊢; exact D.rep_mono mo d _ r⟩)

theorem Wc : ∀ {vs : List V} {us : List Value},V.reps w ρ vs us → us.length = vs.length
 | [],us,h => by simp [V.reps] at h; simp [h]
 | v :: r,us,h => by
  simp only [V.reps] at h
  obtain ⟨u,us',rfl,_,h2⟩ := h
  simp [Wc h2]

theorem Xfo {P : Prg} (hm : P.p.follows .mixedOrders = true) {f : Nat} {s : S} {rs : List RV} {ds : List D} {ob0 : Objs} {K : V → Prop} (hc : Yf P.p f ds.length s rs = true)
  (h : cwp P s (Xca rs K) (Ju 0 (ds.map .d)) []) : PCall P f (ds.map .d) ob0 K := by
 unfold Yf at hc
 split at hc
 ·rename_i fn hf
  split at hc
  ·rename_i code hb
   simp only [Bool.and_eq_true,decide_eq_true_eq] at hc
   obtain ⟨⟨hn,h1⟩,h2⟩ := hc
   refine ⟨fun w ρ args hO hg hr => calls_of_wp hf hb ?_⟩
   let ρ0 : Env := ⟨fun _ => none,own ρ,ρ.gl⟩
   let c : Ctx := ⟨w,fun _ => False,fn.ntmps,[],P.g,fun _ => none,[]⟩
   have hnone : ∀ b,¬ Xqv ρ0 b := fun b ⟨_,_,h,_⟩ => by cases h
   have hlt : ∀ b,own ρ b → b < w.heap.size := fun b h => h.elim (fun ⟨_,_,h1,h2⟩ => Qm hO h1 h2) (hO.xlt b)
   have mo : Xii w (own ρ) w (own ρ0) := fun b h1 _ => ⟨rfl,fun h2 => h2.elim (hnone b) h1⟩
   have hr0 := Qa mo _ _ ds rfl hr
   have hlen : args.length = ds.length := by simpa using Wc hr
   have m : Mod c (own ρ) ρ0 (Ju 0 (ds.map .d)) [] { tmps := args.toArray ++ Array.replicate (fn.ntmps - args.toArray.size) undef,defers := [] } w := by
    refine ⟨⟨Nat.le_refl _,fun _ _ _ => rfl,fun b h => absurd h (hnone b),rfl,rfl,rfl,(fun id o h => by cases h),(fun p hp => by cases hp)⟩,⟨fun j x hx => (by simp [lookO] at hx),fun j o hj => (by cases hj),fun i j o p b hi => (by cases hi),fun b hb => hlt b hb,fun b o hb => ⟨(hO.glb b o hb).1,fun h => h.elim (hnone b) (hO.glb b o hb).2⟩,fun b hb => absurd hb (hnone b),trivial⟩,?_,?_,rfl,rfl,hg⟩
    ·refine Jv hr0 0 _ (fun i hi => ?_)
     simp [Array.getElem?_append,hi]
    ·simp [c]; omega
   refine wp_mono (Yy hm rfl code s _ _ _ ρ0 _ w h1 h m) ?_
   rintro e a' w' ⟨ae,sl',ob',ρ',hq,he,m'⟩
   have hfin : Vu sl' ob' rs (fun vs => Vh (fun l _ => K (Uc (l.map .d))) (V.givs ob' vs)) → a'.defers = [] ∧ ∃ v,(results fn a'.tmps).run P.p w' = .ok v w' ∧ ∃ x u,K x ∧ Ending.returned v = .returned u ∧ x.rep w' ρ u ∧ Ext w w' := by
    intro hq
    obtain ⟨vs,us,hk,hrep,hrun⟩ := Ur (P := P.p) (fn := fn) m'.sm m'.om h2 hq
    cases hgv : V.givs ob' vs with
    | none => simp [hgv,Vh] at hk
    | some q =>
     obtain ⟨l,ob2⟩ := q
     simp only [hgv,Vh] at hk
     obtain ⟨ρ2,t2,o2,hr2⟩ := Xbb vs us m'.om hrep hgv
     have mo2 : Xii w' (own ρ2) w' (own ρ) := fun b h1 _ => ⟨rfl,fun h2 => h1 (.inr (by rw [t2.xo,m'.xo]; exact h2))⟩
     have hrep' := Qa mo2 _ _ l rfl hr2
     have hext : Ext w w' := ⟨m'.base.size,fun b hb => m'.base.keep b hb (fun h => h),m'.base.tape,m'.base.os,m'.base.out⟩
     exact ⟨m'.df,Xyf us,hrun,Uc (l.map .d),Xyf us,hk,rfl,Xar hrep',hext⟩
   cases ae with
   | normal =>
    cases e <;> simp only [exM] at he
    exact hfin hq
   | ret =>
    cases e <;> simp only [exM] at he
    exact hfin hq
   | exit n => exact hq.elim
   | panic v => exact hq.elim
  ·simp at hc
 ·simp at hc

theorem Xkk {ids : Nat → Bool} {vs : List V} {us : List Value} (hm : V.mens ids vs = false) (h : V.reps w ρ vs us) : V.reps w (ρ.del ids) vs us := V.reps_del vs us hm h

def Ob.noMen (ids : Nat → Bool) : Ob → Prop
 | .box _ t => V.men ids t = false
 | .vec _ _ xs => V.mens ids xs = false
 | .map es => Jn ids es = false
 | _ => True
theorem Vb {ids : Nat → Bool} : ∀ (ob : Objs),(∀ e ∈ ob,e.2.noMen ids) → noMenO ids ob = true
 | [],_ => rfl
 | (j,.box E t) :: r,h => by
  simp only [noMenO,Bool.and_eq_true,Bool.not_eq_true']
  exact ⟨h (j,.box E t) (by simp),Vb r fun e he => h e (by simp [he])⟩
 | (j,.vec E z t) :: r,h => by
  simp only [noMenO,Bool.and_eq_true,Bool.not_eq_true']
  exact ⟨h (j,.vec E z t) (by simp),Vb r fun e he => h e (by simp [he])⟩
 | (j,.map t) :: r,h => by
  simp only [noMenO,Bool.and_eq_true,Bool.not_eq_true']
  exact ⟨h (j,.map t) (by simp),Vb r fun e he => h e (by simp [he])⟩
 | (j,.arr _ _ _) :: r,h => by simp only [noMenO]; exact Vb r fun e he => h e (by simp [he])
 | (j,.gone) :: r,h => by simp only [noMenO]; exact Vb r fun e he => h e (by simp [he])
theorem Xjx {ids : Nat → Bool} (hd : ∀ id o,ρ.m id = some o → ids id = false) : ∀ (l : List (D × V)) (es : List MapEntry),Y9 w ρ l es → Jn ids l = false
 | [],_,_ => rfl
 | (k,v) :: r,es,h => by
  obtain ⟨e,es',_,_,h3,h4⟩ := h
  simp only [Jn,V.men_temp hd h3,Xjx hd r es' h4,Bool.or_self]
theorem Xcw.noMen {ids : Nat → Bool} (hd : ∀ id o,ρ.m id = some o → ids id = false) {j : Nat} {x : Ob} (h : Xcw w ρ j x) : x.noMen ids := by
 cases x with
 | box E t => obtain ⟨b,cs,_,_,h3⟩ := h; exact V.men_dom hd _ _ h3
 | vec E sz xs =>
  rcases h with ⟨_,rfl⟩ | ⟨b,cap,cs,sp,_,_,h3,_⟩
  ·rfl
  ·exact V.menCs_dom hd _ _ h3
 | map es => obtain ⟨b,l,clk,_,_,h3⟩ := h; exact Xjx hd _ _ h3
 | arr E sz xs => trivial
 | gone => trivial
theorem Xey {P : Prg} (hm : P.p.follows .mixedOrders = true) {f : Nat} {s : S} {rs : List RV} {vs : List V} {ob : Objs} {K : Out → Objs → Prop} (hc : Yf P.p f vs.length s rs = true)
  (h : cwp P s (V2 (fresh ob) rs K) (Ju 0 vs) ob) : ACall P f vs ob K := by
 unfold Yf at hc
 split at hc
 ·rename_i fn hf
  split at hc
  ·rename_i code hb
   simp only [Bool.and_eq_true,decide_eq_true_eq] at hc
   obtain ⟨⟨hn,h1⟩,h2⟩ := hc
   refine ⟨fun w ρ args hO hg hr => calls_of_wp hf hb ?_⟩
   let c : Ctx := ⟨w,Xqv ρ,fn.ntmps,[],P.g,ρ.m,[]⟩
   have hlen : args.length = vs.length := by simpa using Wc hr
   have m : Mod c ρ.xo ρ (Ju 0 vs) ob { tmps := args.toArray ++ Array.replicate (fn.ntmps - args.toArray.size) undef,defers := [] } w := by
    refine ⟨⟨Nat.le_refl _,fun _ _ _ => rfl,fun b h => .inr h,rfl,rfl,rfl,fun id o h => ⟨o,h,.refl o⟩,(fun p hp => by cases hp)⟩,hO,?_,?_,rfl,rfl,hg⟩
    ·refine Jv hr 0 _ (fun i hi => ?_)
     simp [Array.getElem?_append,hi]
    ·simp [c]; omega
   refine wp_mono (Yy hm rfl code s _ _ _ ρ _ w h1 h m) ?_
   rintro e a' w' ⟨ae,sl',ob',ρ',hq,he,m'⟩
   have old : ∀ kp id o,ρ.m id = some o → young (fresh ob) kp id = false := fun kp id o h0 => by
    obtain ⟨x,hx⟩ := hO.dom id o h0
    have hlt : ¬ fresh ob ≤ id := fun hle => by rw [Yl _ _ hle] at hx; cases hx
    simp [young,hlt]
   have tr : ∀ {ρ2 : Env},Tr w' ρ' w' ρ2 → ∀ kp,Tr w ρ w' (ρ2.del (young (fresh ob) kp)) := fun {ρ2} t kp => by
    have b2 := m'.base.tr t
    refine ⟨b2.size,fun b h1 h2 => b2.keep b h2 h1,fun b h1 => (b2.owns b (Qv h1)).symm,?_,?_,fun id o h1 => ?_,b2.tape,b2.os,b2.out⟩
    ·show ρ2.xo = ρ.xo; rw [t.xo,m'.xo]
    ·show ρ2.gl = ρ.gl; rw [t.gl,m'.gl,hg]
    ·obtain ⟨o',h3,h4⟩ := b2.same id o h1
     exact ⟨o',by simp only [Env.del,old kp id o h1]; exact h3,h4⟩
   have hfin : Vu sl' ob' rs (fun vs => Xgk vs ob' fun vs ob' => Xx (fresh ob) (K (.ret (Uc vs))) vs ob') → a'.defers = [] ∧ ∃ v,(results fn a'.tmps).run P.p w' = .ok v w' ∧ ∃ out ob2 ρ2,K out ob2 ∧ Xty w' ρ2 (.returned v) out ∧ OM w' ρ2 ob2 ∧ Tr w ρ w' ρ2 := by
    intro hq
    obtain ⟨vs,us,hk,hrep,hrun⟩ := Ur (P := P.p) (fn := fn) m'.sm m'.om h2 hq
    obtain ⟨vs',ob2,ρ2,⟨kp,k1,k2,k3⟩,t2,o2,hr2⟩ := Xdg vs us m'.om hrep hk
    exact ⟨m'.df,Xyf us,hrun,.ret (Uc vs'),_,_,k3,Xar (Xkk k1 hr2),o2.del k2,tr t2 kp⟩
   cases ae with
   | normal =>
    cases e <;> simp only [exM] at he
    exact hfin hq
   | ret =>
    cases e <;> simp only [exM] at he
    exact hfin hq
   | exit n => exact hq.elim
   | panic v =>
    cases e <;> simp only [exM] at he
    obtain ⟨u,rfl,hu⟩ := he
    obtain ⟨kp,k1,k2,k3⟩ := hq
    simp only [V.mens,Bool.or_false] at k1
    exact ⟨m'.df,.panic v,_,_,k3,⟨u,rfl,V.rep_del k1 hu⟩,m'.om.del k2,tr (Tr.refl _ _) kp⟩
  ·simp at hc
 ·simp at hc

theorem ACall.of_wf {P : Prg} {f : Nat} {vs : List V} {ob : Objs} {K : Out → Objs → Prop} (h : (∀ kp,V.mens (young (fresh ob) kp) vs = false) → (∀ kp,noMenO (young (fresh ob) kp) ob = true) → ACall P f vs ob K) : ACall P f vs ob K := by
 refine ⟨fun w ρ args hO hg hr => ?_⟩
 have old : ∀ kp id o,ρ.m id = some o → young (fresh ob) kp id = false := fun kp id o h0 => by
  obtain ⟨x,hx⟩ := hO.dom id o h0
  have hlt : ¬ fresh ob ≤ id := fun hle => by rw [Yl _ _ hle] at hx; cases hx
  simp [young,hlt]
 exact (h (fun kp => V.mens_dom (old kp) _ _ hr) (fun kp => Vb ob fun e he => (hO.one e.1 _ (hO.once.look e he)).noMen (old kp))).run w ρ args hO hg hr

theorem X2w {P : Prg} {p : Program} (hP : P.p = p) (hm : p.follows .mixedOrders = true) {f : Nat} {s : S} {rs : List RV} {ds : List D} {ob0 : Objs} {K : V → Prop} (hc : Yf p f ds.length s rs = true)
  (h : cwp P s (Xca rs K) (Ju 0 (ds.map .d)) []) : PCall P f (ds.map .d) ob0 K := by
 subst hP
 exact Xfo hm hc h
end
end Go.Ab
/- The equations by which an abstract state is walked. Over any program; no condition. -/
namespace Go.Ab
open Go
section
variable (P : Prg) (K : V → Prop) (KO : V → Objs → Prop) (Pn : V → Objs → Prop) (Q : Vx) (next : Xb → Objs → Prop) (sl : Xb) (ob : Objs) (r : Xb) (ro : Objs) (v v' : V) (x y z : A) (k j n : Nat) (b c : Bool) (m m' : Int) (kd kd' : IntKind) (s s' : List UInt8) (xs : List D) (vs : List V) (d : D)
@[simp] theorem Xl6 : look ((k,v) :: r) k = v := by simp [look]
@[simp] theorem Xv1 (h : (j == k) = false) : look ((j,v) :: r) k = look r k := by simp at h; simp [look,h]
@[simp] theorem lookO_eq (o : Ob) : lookO ((k,o) :: ro) k = some o := by simp [lookO]
@[simp] theorem Xq (o : Ob) (h : (j == k) = false) : lookO ((j,o) :: ro) k = lookO ro k := by simp at h; simp [lookO,h]
@[simp] theorem Xyo (o o' : Ob) : setO ((k,o) :: ro) k o' = (k,o') :: ro := by simp [setO]
@[simp] theorem Yk (o o' : Ob) (h : (j == k) = false) : setO ((j,o) :: ro) k o' = (j,o) :: setO ro k o' := by simp at h; simp [setO,h]
@[simp] theorem put_some : put sl (some k) v = (k,v) :: sl := by simp only [put]
@[simp] theorem put_none : put sl none v = sl := by simp only [put]
@[simp] theorem Ygg : A.ev sl (.t k) = look sl k := by simp only [A.ev]
@[simp] theorem ev_int : A.ev sl (.int kd m) = .d (.int kd m) := by simp only [A.ev]
@[simp] theorem ev_bool : A.ev sl (.bool b) = .d (.bool b) := by simp only [A.ev]
@[simp] theorem ev_str : A.ev sl (.str s) = .d (.str s) := by simp only [A.ev]
@[simp] theorem ev_nils : A.ev sl .nils = .d .nils := by simp only [A.ev]
@[simp] theorem ev_nili : A.ev sl .nili = .d .nili := by simp only [A.ev]
@[simp] theorem ev_fn : A.ev sl (.fn k) = .fn k [] [] := by simp only [A.ev]
-- calm operations
@[simp] theorem wp_mv : C.wp sl ob K (.mv x) = K (x.ev sl) := by simp only [C.wp]
@[simp] theorem Yam : Xbh K (.d (.bool true)) v v' = K v := by unfold Xbh; split <;> simp_all
@[simp] theorem Yal : Xbh K (.d (.bool false)) v v' = K v' := by unfold Xbh; split <;> simp_all
@[simp] theorem wp_not : C.wp sl ob K (.not x) = Xxt K (x.ev sl) := by simp only [C.wp]
@[simp] theorem notK_b : Xxt K (.d (.bool b)) = K (.d (.bool (!b))) := by simp only [Xxt]
@[simp] theorem wp_mx : C.wp sl ob K (.mx x y) = mxK K (x.ev sl) (y.ev sl) := by simp only [C.wp]
@[simp] theorem wp_bin (op : BinOp) : C.wp sl ob K (.bin op x y) = Xpt op K (x.ev sl) (y.ev sl) := by simp only [C.wp]
@[simp] theorem binK_i (op : BinOp) : Xpt op K (.d (.int kd m)) (.d (.int kd' m')) = Xzr op kd kd' m m' K := by simp only [Xpt]
@[simp] theorem binK_s (op : BinOp) : Xpt op K (.d (.str s)) (.d (.str s')) = Xs5 op s s' K := by simp only [Xpt]
@[simp] theorem strK_eql : Xs5 .eql s s' K = K (.d (.bool (s == s'))) := by simp [Xs5]
@[simp] theorem strK_neq : Xs5 .neq s s' K = K (.d (.bool (s != s'))) := by simp [Xs5]
@[simp] theorem wp_isnil : C.wp sl ob K (.isnil b x) = V6 b K (x.ev sl) := by simp only [C.wp]
@[simp] theorem isnilK_n : V6 b K (.d .nili) = K (.d (.bool b)) := by simp only [V6]
@[simp] theorem isnilK_di : V6 b K (.d (.iface k d)) = K (.d (.bool (!b))) := by simp only [V6]
@[simp] theorem wp_fnil : C.wp sl ob K (.fnil b x) = Xa9 b K (x.ev sl) := by simp only [C.wp]
@[simp] theorem fnilK_n : Xa9 b K (.d .nilf) = K (.d (.bool b)) := by simp only [Xa9]
@[simp] theorem fnilK_f (l1 l2 : List V) : Xa9 b K (.fn k l1 l2) = K (.d (.bool (!b))) := by simp only [Xa9]
@[simp] theorem mkiV_d : X2q k (.d d) = .d (.iface k d) := by simp only [X2q]
@[simp] theorem mkfV_eq (l1 l2 : List V) : X37 k l1 l2 = Yad k l1 l2 (V.allD l1) (V.allD l2) := by simp only [X37]
@[simp] theorem mkfO_n1 (l1 l2 : List V) (o : Option (List D)) : Yad k l1 l2 none o = .fn k l1 l2 := by cases o <;> simp only [Yad]
@[simp] theorem mkfO_n2 (l1 l2 : List V) (o : Option (List D)) : Yad k l1 l2 o none = .fn k l1 l2 := by cases o <;> simp only [Yad]
@[simp] theorem wp_cvi : C.wp sl ob K (.cvi kd x) = Xuo kd K (x.ev sl) := by simp only [C.wp]
@[simp] theorem cviK_i : Xuo kd K (.d (.int kd' m)) = K (.d (.int kd (kd.wrap m))) := by simp only [Xuo]
@[simp] theorem wp_idx : C.wp sl ob K (.idx x y) = Xzq K (x.ev sl) (y.ev sl) := by simp only [C.wp]
@[simp] theorem idxK_s : Xzq K (.d (.str s)) (.d (.int kd m)) = ((0 ≤ m ∧ m < s.length) ∧ K (.d (.int .u8 (s.getD m.toNat 0).toNat))) := by simp only [Xzq]
@[simp] theorem wp_idxA : C.wp sl ob K (.idxA n x y) = Jk ob n K (x.ev sl) (y.ev sl) := by simp only [C.wp]
@[simp] theorem idxAK_l : Jk ob n K (.d (.list n xs)) (.d (.int kd m)) = ((0 ≤ m ∧ m < xs.length) ∧ K (.d (.ref (xs.getD m.toNat default)))) := by simp [Jk]
@[simp] theorem wp_idxP : C.wp sl ob K (.idxP k n x y) = Xb9 ob k n K (x.ev sl) (y.ev sl) := by simp only [C.wp]
@[simp] theorem idxPK_p (p : List Nat) : Xb9 ob k n K (.ptr j p) (.d (.int kd m)) = ((0 ≤ m ∧ m < k) ∧ (∃ ks,Zj (atO ob j p) = some ks ∧ ks.length = k ∧ ∀ k ∈ ks,k.size = n) ∧ K (.ptr j (p ++ [m.toNat]))) := by simp only [Xb9]
@[simp] theorem idxPK_c : Xb9 ob k n K (.d (.ref (.agg xs))) (.d (.int kd m)) = ((0 ≤ m ∧ m < k) ∧ xs.length = k ∧ (∀ x ∈ xs,x.sz = n) ∧ K (.d (.ref (xs.getD m.toNat default)))) := by simp only [Xb9]
@[simp] theorem wp_fldA : C.wp sl ob K (.fldA k n x) = U2 ob k n K (x.ev sl) := by simp only [C.wp]
@[simp] theorem fldAK_p (p : List Nat) : U2 ob k n K (.ptr j p) = Qg j p k n K (Zj (atO ob j p)) := by simp only [U2]
@[simp] theorem fldAKo_s (p : List Nat) : Qg j p k n K (some vs) = (k < vs.length ∧ Sh.sizes ((vs.take k).map V.shape) = n ∧ K (.ptr j (p ++ [k]))) := by simp only [Qg]
@[simp] theorem fldAK_c : U2 ob k n K (.d (.ref (.agg xs))) = (k < xs.length ∧ D.szs (xs.take k) = n ∧ K (.d (.ref (xs.getD k default)))) := by simp only [U2]
@[simp] theorem wp_fld : C.wp sl ob K (.fld k j n b x) = Xzn k j n b K (x.ev sl).kids := by simp only [C.wp]
@[simp] theorem wp_ld : C.wp sl ob K (.ld n b x) = ldK ob n b K (x.ev sl) := by simp only [C.wp]
@[simp] theorem ldK_p (p : List Nat) : ldK ob n b K (.ptr j p) = Xgn n b K (atO ob j p) := by simp only [ldK]
@[simp] theorem ldKo_s : Xgn n b K (some v) = (v.size = n ∧ v.isAgg = b ∧ K v) := by simp only [Xgn]
@[simp] theorem ldK_c : ldK ob n b K (.d (.ref d)) = (d.sz = n ∧ (V.d d).isAgg = b ∧ K (.d d)) := by simp only [ldK]
@[simp] theorem wp_nilc : C.wp sl ob K (.nilc x) = U5 K (x.ev sl) := by simp only [C.wp]
@[simp] theorem nilcK_p (p : List Nat) : U5 K (.ptr j p) = K (.ptr j p) := by simp only [U5]
@[simp] theorem nilcK_c : U5 K (.d (.ref d)) = K (.d (.ref d)) := by simp only [U5]
@[simp] theorem wp_lenS : C.wp sl ob K (.lenS x) = Xdi K (x.ev sl) := by simp only [C.wp]
@[simp] theorem lenSK_s : Xdi K (.d (.str s)) = K (.d (.int .i64 s.length)) := by simp only [Xdi]
@[simp] theorem wp_lenL : C.wp sl ob K (.lenL x) = Xaf ob K (x.ev sl) := by simp only [C.wp]
@[simp] theorem lenLK_l : Xaf ob K (.d (.list n xs)) = K (.d (.int .i64 xs.length)) := by simp only [Xaf]
@[simp] theorem lenLK_n : Xaf ob K (.d .nils) = K (.d (.int .i64 0)) := by simp only [Xaf]
@[simp] theorem lenLK_o : Xaf ob K (.sl j n) = (((∃ E z xs,lookO ob j = some (.arr E z xs) ∧ n = xs.length) ∨ ∃ E z xs,lookO ob j = some (.vec E z xs) ∧ n = xs.length) ∧ K (.d (.int .i64 n))) := by simp only [Xaf]
@[simp] theorem wp_slcS (lo hi : Option A) : C.wp sl ob K (.slcS x lo hi) = Xev (lo.map (A.ev sl)) (hi.map (A.ev sl)) K (x.ev sl) := by simp only [C.wp]
@[simp] theorem slcSK_s (lo hi : Option V) : Xev lo hi K (.d (.str s)) = Jw s.length (fun l h => K (.d (.str ((s.take h).drop l)))) lo hi := by simp only [Xev]
@[simp] theorem wp_slcL (lo hi : Option A) : C.wp sl ob K (.slcL n x lo hi) = Xeu n (lo.map (A.ev sl)) (hi.map (A.ev sl)) K (x.ev sl) := by simp only [C.wp]
@[simp] theorem slcLK_l (lo hi : Option V) : Xeu n lo hi K (.d (.list n xs)) = Jw xs.length (fun l h => K (.d (.list n ((xs.take h).drop l)))) lo hi := by simp [Xeu]
@[simp] theorem bndK_sn (KK : Nat → Nat → Prop) : Jw n KK (some (.d (.int kd m))) none = ((0 ≤ m ∧ m ≤ n) ∧ KK m.toNat n) := by simp only [Jw]
@[simp] theorem bndK_ns (KK : Nat → Nat → Prop) : Jw n KK none (some (.d (.int kd m))) = ((0 ≤ m ∧ m ≤ n) ∧ KK 0 m.toNat) := by simp only [Jw]
@[simp] theorem bndK_ss (KK : Nat → Nat → Prop) : Jw n KK (some (.d (.int kd m))) (some (.d (.int kd' m'))) = ((0 ≤ m' ∧ m' ≤ n) ∧ (0 ≤ m ∧ m ≤ m') ∧ KK m.toNat m'.toNat) := by simp only [Jw]
@[simp] theorem wp_ext : C.wp sl ob K (.ext x n) = Xp0 n K (x.ev sl) := by simp only [C.wp]
@[simp] theorem extK_t : Xp0 n K (.tup vs) = (n < vs.length ∧ K (vs.getD n .any)) := by simp only [Xp0]
@[simp] theorem wp_bld (ps : List (Nat × A)) : C.wp sl ob K (.bld xs ps) = Jt (xs.map .d) (ps.map fun p => (p.1,p.2.ev sl)) fun ks => K (V.mk ks) := by simp only [C.wp]
@[simp] theorem bldK_n (KL : List V → Prop) : Jt vs [] KL = KL vs := by simp only [Jt]
@[simp] theorem bldK_c (KL : List V → Prop) (l : List (Nat × V)) : Jt vs ((k,v) :: l) KL = (k < vs.length ∧ v.shape = (vs.getD k .any).shape ∧ v ≠ .any ∧ Jt (vs.set k v) l KL) := by simp only [Jt]
@[simp] theorem wp_mkf (l l' : List A) : C.wp sl ob K (.mkf k l l') = K (X37 k (l.map (A.ev sl)) (l'.map (A.ev sl))) := by simp only [C.wp]
@[simp] theorem wp_mki : C.wp sl ob K (.mki k x) = K (X2q k (x.ev sl)) := by simp only [C.wp]
@[simp] theorem wp_tas : C.wp sl ob K (.tas k d x) = X3a k d K (x.ev sl) := by simp only [C.wp]
-- trees
@[simp] theorem kids_agg : V.kids (.agg vs) = some vs := by simp only [V.kids]
@[simp] theorem kids_d : V.kids (.d (.agg xs)) = some (xs.map .d) := by simp only [V.kids]
@[simp] theorem kidsO_s : Zj (some v) = v.kids := by simp only [Zj]
def atB (p : List Nat) : Option Ob → Option V
 | some (.box _ t) => t.at p
 | _ => none
@[simp] theorem atO_b (p : List Nat) : atO ob k p = atB p (lookO ob k) := by
 unfold atO atB
 cases lookO ob k with
 | none => rfl
 | some o => cases o <;> rfl
@[simp] theorem atB_s (p : List Nat) (E : Nat) : atB p (some (.box E v)) = v.at p := by simp only [atB]
@[simp] theorem at_nil : V.at v [] = some v := by simp [V.at]
def Xit (i : Nat) (p : List Nat) : Option (List V) → Option V
 | some ks => atKid' p ks[i]?
 | none => none
where atKid' (p : List Nat) : Option V → Option V
 | some k => V.at k p
 | none => none
@[simp] theorem at_cons (p : List Nat) : V.at v (k :: p) = Xit k p v.kids := by
 simp only [V.at,Xit]
 cases v.kids with
 | none => rfl
 | some ks => simp only [Xit.atKid']; cases ks[k]? <;> rfl
@[simp] theorem atKid_s (p : List Nat) : Xit k p (some vs) = Xit.atKid' p vs[k]? := by simp only [Xit]
@[simp] theorem atKid'_s (p : List Nat) : Xit.atKid' p (some v) = V.at v p := by simp only [Xit.atKid']
@[simp] theorem set_nil : V.set v [] v' = some v' := by simp [V.set]
def Uy (i : Nat) (p : List Nat) (x : V) : Option (List V) → Option V
 | some ks => setKid1 i p x ks ks[i]?
 | none => none
where
 setKid1 (i : Nat) (p : List Nat) (x : V) (ks : List V) : Option V → Option V
 | some k => setKid2 i ks (V.set k p x)
 | none => none
 setKid2 (i : Nat) (ks : List V) : Option V → Option V
 | some k' => some (V.mk (ks.set i k'))
 | none => none
@[simp] theorem set_cons (p : List Nat) : V.set v (k :: p) v' = Uy k p v' v.kids := by
 simp only [V.set,Uy]
 cases v.kids with
 | none => rfl
 | some ks =>
  simp only [Uy.setKid1]
  cases ks[k]? with
  | none => rfl
  | some y => simp only [Uy.setKid2]; cases V.set y p v' <;> rfl
@[simp] theorem setKid_s (p : List Nat) : Uy k p v (some vs) = Uy.setKid1 k p v vs vs[k]? := by simp only [Uy]
@[simp] theorem setKid1_s (p : List Nat) : Uy.setKid1 k p v vs (some v') = Uy.setKid2 k vs (V.set v' p v) := by simp only [Uy.setKid1]
@[simp] theorem setKid2_s : Uy.setKid2 k vs (some v) = some (V.mk (vs.set k v)) := by simp only [Uy.setKid2]
@[simp] theorem allD_nil : V.allD [] = some [] := by simp [V.allD]
def Xb8 (x : D) : Option (List D) → Option (List D)
 | some l => some (x :: l)
 | none => none
@[simp] theorem allD_cons : V.allD (.d d :: vs) = Xb8 d (V.allD vs) := by simp only [V.allD]; cases V.allD vs <;> rfl
@[simp] theorem consD_s : Xb8 d (some xs) = some (d :: xs) := by simp only [Xb8]
@[simp] theorem consD_n : Xb8 d none = none := by simp only [Xb8]
@[simp] theorem allD_map : V.allD (xs.map .d) = some xs := by induction xs with | nil => rfl | cons x r ih => simp [ih]
@[simp] theorem allD_fn (a1 a2 : List V) : V.allD (.fn k a1 a2 :: vs) = none := by simp only [V.allD]
@[simp] theorem allD_sl : V.allD (.sl k n :: vs) = none := by simp only [V.allD]
@[simp] theorem allD_agg (l : List V) : V.allD (.agg l :: vs) = none := by simp only [V.allD]
@[simp] theorem allD_ptr (p : List Nat) : V.allD (.ptr k p :: vs) = none := by simp only [V.allD]
def mkO (vs : List V) : Option (List D) → V
 | some l => .d (.agg l)
 | none => .agg vs
@[simp] theorem Yj8 : V.mk vs = mkO vs (V.allD vs) := by unfold V.mk mkO; cases V.allD vs <;> rfl
@[simp] theorem mkO_s : mkO vs (some xs) = .d (.agg xs) := by simp only [mkO]
@[simp] theorem mkO_n : mkO vs none = .agg vs := by simp only [mkO]
-- sizes,shapes
attribute [simp] D.sz D.szs Sh.size Sh.sizes D.shape D.shapes V.shape V.shapes V.isAgg V.sto V.stos V.size V.men V.mens
-- operations on memory
@[simp] theorem qx (e : C) : I.wp P sl ob KO Pn (.c e) = e.wp sl ob (fun v => KO v ob) := by simp only [I.wp]
@[simp] theorem qw : I.wp P sl ob KO Pn (.box k x) = Xs0 k ob KO (x.ev sl) := by simp only [I.wp]
@[simp] theorem qr : I.wp P sl ob KO Pn (.alloc k d) = Xs0 k ob KO (.d d) := by simp only [I.wp]
@[simp] theorem boxK_eq : Xs0 k ob KO v = (v.sto = true ∧ KO (.ptr (fresh ob) []) ((fresh ob,.box k v) :: ob)) := by simp only [Xs0]
@[simp] theorem qu (ps : List (Nat × A)) : I.wp P sl ob KO Pn (.bls n xs ps) = Jt (xs.map .d) (ps.map fun p => (p.1,p.2.ev sl)) (fun ks => dK (fun l => KO (.d (.list n l)) ob) (V.allD ks)) := by simp only [I.wp]
@[simp] theorem dK_s (KD : List D → Prop) : dK KD (some xs) = KD xs := by simp only [dK]
@[simp] theorem qt (ps : List (Nat × A)) : I.wp P sl ob KO Pn (.blo j n xs ps) = Jt (xs.map .d) (ps.map fun p => (p.1,p.2.ev sl)) (fun ks => dK (fun l => KO (.sl (fresh ob) l.length) ((fresh ob,.arr j n l) :: ob)) (V.allD ks)) := by simp only [I.wp]
@[simp] theorem zi : I.wp P sl ob KO Pn (.st n x y) = stK ob n (y.ev sl) KO (x.ev sl) := by simp only [I.wp]
@[simp] theorem stK_p (p : List Nat) : stK ob n v KO (.ptr k p) = stKo ob k p n v KO (lookO ob k) := by simp only [stK]
@[simp] theorem stKo_s (p : List Nat) (t : V) (E : Nat) : stKo ob k p n v KO (some (.box E t)) = Xy8 ob k p n E v t KO (t.at p) := by simp only [stKo]
def Ybk (ob : Objs) (id E : Nat) (K : V → Objs → Prop) : Option V → Prop
 | some t' => K .undef (setO ob id (.box E t'))
 | none => False
@[simp] theorem stKt_s (p : List Nat) (t : V) (E : Nat) : Xy8 ob k p n E v t KO (some v') = (v.shape = v'.shape ∧ v'.size = n ∧ v.sto = true ∧ Ybk ob k E KO (t.set p v)) := by
 simp only [Xy8]; cases t.set p v <;> simp [Ybk]
@[simp] theorem stKs_s (E : Nat) : Ybk ob k E KO (some v) = KO .undef (setO ob k (.box E v)) := by simp only [Ybk]
@[simp] theorem qs (E sz B : Nat) : I.wp P sl ob KO Pn (.app E sz B x y) = Xy6 sz (fun ys => Xei E sz B ob ys KO (x.ev sl)) (y.ev sl) := by simp only [I.wp]
@[simp] theorem srcK_l (KD : List D → Prop) : Xy6 n KD (.d (.list n xs)) = KD xs := by simp [Xy6]
@[simp] theorem appK_s (E sz B : Nat) : Xei E sz B ob xs KO (.sl k n) = Xel k E sz B n ob xs KO (lookO ob k) := by simp [Xei]
@[simp] theorem appK_n (E sz B : Nat) : Xei E sz B ob xs KO (.d .nils) = ((2 * xs.length + 192) * B ≤ 281474976710656 ∧ KO (.sl (fresh ob) xs.length) ((fresh ob,.arr E sz xs) :: ob)) := by simp only [Xei]
@[simp] theorem appKo_s (E sz B : Nat) (ys : List D) : Xel k E sz B n ob xs KO (some (.arr E sz ys)) = (n = ys.length ∧ (2 * (ys.length + xs.length) + 192) * B ≤ 281474976710656 ∧ KO (.sl k (ys.length + xs.length)) (setO ob k (.arr E sz (ys ++ xs)))) := by simp [Xel]
@[simp] theorem iwp_appS (E B : Nat) : I.wp P sl ob KO Pn (.appS E B x y) = Xh8 (fun ys => Xei E 1 B ob ys KO (x.ev sl)) (y.ev sl) := by simp only [I.wp]
@[simp] theorem srcSK_s (KD : List D → Prop) : Xh8 KD (.d (.str s)) = KD (bytesD s) := by simp only [Xh8]
@[simp] theorem zd : I.wp P sl ob KO Pn (.mvf x) = Xjf KO (V.giv ob (x.ev sl)) := by simp only [I.wp]
@[simp] theorem zb : I.wp P sl ob KO Pn (.ldf n b x) = X2h n b ob KO (x.ev sl) := by simp only [I.wp]
@[simp] theorem ze (E sz : Nat) (p : List Nat) : I.wp P sl ob KO Pn (.mvg E sz y x p) = Xk5 ob E sz p (y.ev sl) KO (x.ev sl) := by simp only [I.wp]
@[simp] theorem zf (l : List (Nat × Nat × List Nat)) : I.wp P sl ob KO Pn (.mvn y x l) = X39 (y.ev sl) KO (x.ev sl) l ob := by simp only [I.wp]
@[simp] theorem mvgK_p (E sz : Nat) (p q : List Nat) : Xk5 ob E sz p v KO (.ptr k q) = Xeq ob k (q ++ p) E sz v KO (lookO ob k) := by simp only [Xk5]
@[simp] theorem mvgKt_s (E E0 sz : Nat) (p : List Nat) (t : V) : Xeq ob k p E sz v KO (some (.box E0 t)) = ((t.at p = some (.d .nils) ∧ Xjz ob k E0 E sz v KO (t.set p (.sl (fresh ob) 0))) ∨ ((∃ i n,t.at p = some (.sl i n)) ∧ KO v ob)) := by simp only [Xeq]
@[simp] theorem mvgKs_s (E E0 sz : Nat) (t : V) : Xjz ob k E0 E sz v KO (some t) = KO v ((fresh ob,.arr E sz []) :: setO ob k (.box E0 t)) := by simp only [Xjz]
@[simp] theorem iwp_cvb : I.wp P sl ob KO Pn (.cvb x) = Xun ob KO (x.ev sl) := by simp only [I.wp]
@[simp] theorem cvbK_s : Xun ob KO (.sl k n) = Xga k n ob KO (lookO ob k) := by simp only [Xun]
@[simp] theorem cvbKo_s (E sz : Nat) : Xga k n ob KO (some (.arr E sz xs)) = (sz ≠ 0 ∧ n = xs.length ∧ xs ≠ [] ∧ KO (.d (.list sz xs)) (setO ob k .gone)) := by simp only [Xga]
@[simp] theorem wp_usd : C.wp sl ob K (.usd x) = Xsv ob K (x.ev sl) := by simp only [C.wp]
@[simp] theorem usdK_s : Xsv ob K (.sl k n) = ((∃ E sz xs,lookO ob k = some (.arr E sz xs) ∧ sz ≠ 0 ∧ n = xs.length ∧ xs ≠ []) ∧ K (.sd k n)) := by simp only [Xsv]
@[simp] theorem usdK_n : Xsv ob K (.d .nils) = K (.d .nilp) := by simp only [Xsv]
@[simp] theorem iwp_ustr (E : Nat) : I.wp P sl ob KO Pn (.ustr E x y) = Xbk E ob KO (x.ev sl) (y.ev sl) := by simp only [I.wp]
@[simp] theorem ustrK_s (E : Nat) : Xbk E ob KO (.sd k n) (.d (.int .i64 m)) = Xau k n m E ob KO (lookO ob k) := by simp only [Xbk]
@[simp] theorem ustrK_n (E : Nat) : Xbk E ob KO (.d .nilp) (.d (.int .i64 m)) = (m = 0 ∧ KO (.d (.str [])) ob) := by simp only [Xbk]
@[simp] theorem ustrKo_s (E E' sz : Nat) : Xau k n m E ob KO (some (.arr E' sz xs)) = (E' = E ∧ sz = 1 ∧ n = xs.length ∧ m = n ∧ n ≤ 9223372036854775807 ∧ xs ≠ [] ∧ ∃ s,xs = bytesD s ∧ KO (.d (.str s)) (setO ob k .gone)) := by simp only [Xau]
-- values given up
@[simp] theorem giv_d : V.giv ob (.d d) = some (d,ob) := by simp only [V.giv]
@[simp] theorem giv_sl : V.giv ob (.sl k n) = Xzo ob k n (lookO ob k) := by simp only [V.giv]
@[simp] theorem givO_s (E sz : Nat) : Xzo ob k n (some (.arr E sz xs)) = if sz ≠ 0 ∧ n = xs.length then some (.list sz xs,setO ob k .gone) else none := by simp only [Xzo]
@[simp] theorem giv_agg : V.giv ob (.agg vs) = Xir (V.givs ob vs) := by simp only [V.giv]
@[simp] theorem giv_fn (l1 l2 : List V) : V.giv ob (.fn k l1 l2) = fnG k ob (V.allD l1) (V.allD l2) := by simp only [V.giv]
@[simp] theorem fnG_s (l1 l2 : List D) : fnG k ob (some l1) (some l2) = some (.fn k l1 l2,ob) := by simp only [fnG]
@[simp] theorem givs_nil : V.givs ob [] = some ([],ob) := by simp only [V.givs]
def Xuc (r : List V) : Option (D × Objs) → Option (List D × Objs)
 | some (x,ob1) => U1 x (V.givs ob1 r)
 | none => none
@[simp] theorem givs_cons : V.givs ob (v :: vs) = Xuc vs (V.giv ob v) := by
 simp only [V.givs]; cases V.giv ob v with
 | none => rfl
 | some q => obtain ⟨y,ob1⟩ := q; rfl
@[simp] theorem bindO_s : Xuc vs (some (d,ob)) = U1 d (V.givs ob vs) := by simp only [Xuc]
@[simp] theorem bindO_n : Xuc vs none = none := by simp only [Xuc]
@[simp] theorem consO_s (l : List D) : U1 d (some (l,ob)) = some (d :: l,ob) := by simp only [U1]
@[simp] theorem consO_n : U1 d none = none := by simp only [U1]
@[simp] theorem aggO_s (l : List D) : Xir (some (l,ob)) = some (.agg l,ob) := by simp only [Xir]
@[simp] theorem givsK_s (KD : List D → Objs → Prop) (l : List D) : Vh KD (some (l,ob)) = KD l ob := by simp only [Vh]
@[simp] theorem gvsK_nil (KL : List V → Objs → Prop) : Xgk [] ob KL = KL [] ob := by simp only [Xgk]
@[simp] theorem gvsK_cons (KL : List V → Objs → Prop) : Xgk (v :: vs) ob KL = gvO v ob (fun v' ob' => Xgk vs ob' fun vs ob'' => KL (v' :: vs) ob'') (V.giv ob v) := by simp only [Xgk]
@[simp] theorem gvO_s : gvO v ob KO (some (d,ro)) = KO (.d d) ro := by simp only [gvO]
-- names
@[simp] theorem fresh_nil : fresh [] = 0 := by simp only [fresh]
@[simp] theorem fresh_cons (o : Ob) : fresh ((k,o) :: ro) = if fresh ro ≤ k then k + 1 else fresh ro := by simp only [fresh]
@[simp] theorem fresh_set (o : Ob) : fresh (setO ob k o) = fresh ob := by
 induction ob with
 | nil => simp [setO]
 | cons e r ih => obtain ⟨i,y⟩ := e; simp only [setO]; split <;> simp [fresh,ih]
@[simp] theorem fresh_ne (h : (lookO ob k).isSome = true) : (fresh ob == k) = false := by
 rw [beq_eq_false_iff_ne]; intro e; rw [← e,Yp] at h; cases h
@[simp] theorem fresh_add_ne (h : (lookO ob k).isSome = true) : (fresh ob + n == k) = false := by
 rw [beq_eq_false_iff_ne]; intro e; rw [← e,Yl ob _ (by omega)] at h; cases h
@[simp] theorem lookO_set_eq (o : Ob) (h : (lookO ob k).isSome = true) : lookO (setO ob k o) k = some o := by
 rw [Xl ob k k (Option.isSome_iff_exists.1 h)]; simp
@[simp] theorem lookO_set_ne (o : Ob) (h : (j == k) = false) : lookO (setO ob j o) k = lookO ob k := by
 by_cases hs : (lookO ob j).isSome = true
 ·rw [Xl ob j k (Option.isSome_iff_exists.1 hs)]; simp at h; rw [if_neg (fun e => h e.symm)]
 ·have hn : lookO ob j = none := by simpa using hs
  have : ∀ (ob : Objs),lookO ob j = none → setO ob j o = ob := fun ob => by
   induction ob with
   | nil => intro _; rfl
   | cons e r ih => obtain ⟨i,y⟩ := e; intro h; simp only [lookO] at h; split at h; cases h; rename_i hne; simp [setO,hne,ih h]
  rw [this ob hn]
@[simp] theorem Xas (o o' : Ob) : setO (setO ob k o) k o' = setO ob k o' := by
 induction ob with
 | nil => rfl
 | cons e r ih =>
  obtain ⟨i,y⟩ := e
  by_cases h : i = k
  ·subst h; simp [setO]
  ·simp [setO,h,ih]
theorem Xkt (o : Ob) (h : lookO ob k = some o) : setO ob k o = ob := by
 induction ob with
 | nil => rfl
 | cons e r ih =>
  obtain ⟨i,y⟩ := e
  simp only [lookO] at h
  split at h
  ·rename_i e; cases h; simp [setO,e]
  ·rename_i e; simp [setO,e,ih h]
-- young objects dropped
@[simp] theorem young_lt (l : List Nat) (h : k < n) : young n l k = false := by simp [young]; omega
@[simp] theorem young_old (l : List Nat) (h : (lookO ob k).isSome = true) : young (fresh ob) l k = false := by
 have : k < fresh ob := by
  rcases Nat.lt_or_ge k (fresh ob) with h1 | h1
  ·exact h1
  ·rw [Yl ob k h1] at h; cases h
 simp [young]; omega
@[simp] theorem Ub : young n [] n = true := by simp [young]
@[simp] theorem young_add : young n [] (n + k) = true := by simp [young]
theorem noMenO_set_box (ids : Nat → Bool) (E : Nat) (h : noMenO ids ob = true) (hv : V.men ids v = false) : noMenO ids (setO ob k (.box E v)) = true := by
 induction ob with
 | nil => rfl
 | cons e r ih =>
  obtain ⟨i,y⟩ := e
  simp only [setO]
  split
  ·cases y <;> simp_all [noMenO]
  ·cases y <;> simp_all [noMenO]
theorem noMenO_set_arr (ids : Nat → Bool) (E z : Nat) (h : noMenO ids ob = true) : noMenO ids (setO ob k (.arr E z xs)) = true := by
 induction ob with
 | nil => rfl
 | cons e r ih =>
  obtain ⟨i,y⟩ := e
  simp only [setO]
  split
  ·cases y <;> simp_all [noMenO]
  ·cases y <;> simp_all [noMenO]
theorem Wh (ids : Nat → Bool) (E : Nat) (h : noMenO ids ob = true) (hl : lookO ob k = some (.box E v)) : V.men ids v = false := Zl ob k E v h hl
@[simp] theorem qy (l : List A) : I.wp P sl ob KO Pn (.call k l) = ACall P k (l.map (A.ev sl)) ob (Xom KO Pn) := by simp only [I.wp]
@[simp] theorem qz (l : List A) : I.wp P sl ob KO Pn (.callv x l) = Qc P (l.map (A.ev sl)) ob KO Pn (x.ev sl) := by simp only [I.wp]
@[simp] theorem callvK_f (a1 a2 : List V) : Qc P vs ob KO Pn (.fn k a1 a2) = (Xj P.p k = true ∧ ACall P k (a1 ++ vs ++ a2) ob (Xom KO Pn)) := by simp only [Qc]
@[simp] theorem callvK_df (a1 a2 : List D) : Qc P vs ob KO Pn (.d (.fn k a1 a2)) = (Xj P.p k = true ∧ ACall P k (a1.map .d ++ vs ++ a2.map .d) ob (Xom KO Pn)) := by simp only [Qc]
@[simp] theorem zk : Xom KO Pn (.ret v) ob = KO v ob := by simp only [Xom]
@[simp] theorem zj : Xom KO Pn (.panic v) ob = Pn v ob := by simp only [Xom]
@[simp] theorem iwp_panic : I.wp P sl ob KO Pn (.panic x) = Xan ob Pn (x.ev sl) := by simp only [I.wp]
@[simp] theorem panicK_d : Xan ob Pn (.d (.iface k d)) = Pn (.d (.iface k d)) ob := by simp only [Xan]
@[simp] theorem zg (E sz : Nat) : I.wp P sl ob KO Pn (.nilo E sz x) = Xh2 E sz ob KO (x.ev sl) := by simp only [I.wp]
@[simp] theorem niloK_n (E sz : Nat) : Xh2 E sz ob KO (.d .nils) = KO (.sl (fresh ob) 0) ((fresh ob,.arr E sz []) :: ob) := by simp only [Xh2]
-- regions and statements
@[simp] theorem keepS_nil : Xe sl [] = [] := by simp only [Xe]
@[simp] theorem keepS_cons (l : List Nat) : Xe sl (k :: l) = (k,look sl k) :: Xe sl l := by simp only [Xe]
@[simp] theorem zh (l : List A) : I.wp P sl ob KO Pn (.pcall k l) = PCall P k (l.map (A.ev sl)) ob (fun v => KO v ob) := by simp only [I.wp]
@[simp] theorem condK_t (Y N : Prop) : Xa4 Y N (.d (.bool true)) = Y := by simp [Xa4]
@[simp] theorem condK_f (Y N : Prop) : Xa4 Y N (.d (.bool false)) = N := by simp [Xa4]
@[simp low] theorem condK_b (Y N : Prop) : Xa4 Y N (.d (.bool b)) = ((b = true → Y) ∧ (b = false → N)) := by simp only [Xa4]
@[simp] theorem zy : Vi next Q .normal sl ob = next sl ob := by simp only [Vi]
@[simp] theorem zx : Vi next Q (.exit n) sl ob = Q (.exit n) sl ob := by simp only [Vi]
@[simp] theorem wc : Vi next Q .ret sl ob = Q .ret sl ob := by simp only [Vi]
@[simp] theorem zz : Vi next Q (.panic v) sl ob = Q (.panic v) sl ob := by simp only [Vi]
@[simp] theorem qb : Zn n Q .normal sl ob = Q .normal sl ob := by simp only [Zn]
@[simp] theorem qa : Zn n Q (.exit n) sl ob = Q .normal sl ob := by simp [Zn]
@[simp] theorem qd : Zn n Q .ret sl ob = Q .ret sl ob := by simp only [Zn]
@[simp] theorem qc : Zn n Q (.panic v) sl ob = Q (.panic v) sl ob := by simp only [Zn]
attribute [simp] Uw noMenO Xy
-- results
@[simp] theorem pureQ_r (rs : List RV) : Xca rs K .ret sl ob = Vu sl ob rs fun vs => Vh (fun l _ => K (Uc (l.map .d))) (V.givs ob vs) := by simp only [Xca]
@[simp] theorem pureQ_p (rs : List RV) : Xca rs K (.panic v) sl ob = False := by simp only [Xca]
@[simp] theorem qe (rs : List RV) (KU : Out → Objs → Prop) : V2 n rs KU .normal sl ob = Vu sl ob rs fun vs => Xgk vs ob fun vs ob => Xx n (KU (.ret (Uc vs))) vs ob := by simp only [V2]
@[simp] theorem qg (rs : List RV) (KU : Out → Objs → Prop) : V2 n rs KU .ret sl ob = Vu sl ob rs fun vs => Xgk vs ob fun vs ob => Xx n (KU (.ret (Uc vs))) vs ob := by simp only [V2]
@[simp] theorem qf (rs : List RV) (KU : Out → Objs → Prop) : V2 n rs KU (.panic v) sl ob = Xx n (KU (.panic v)) [v] ob := by simp only [V2]
@[simp] theorem resK_nil (KL : List V → Prop) : Vu sl ob [] KL = KL [] := by simp only [Vu]
@[simp] theorem resK_t (KL : List V → Prop) (rs : List RV) : Vu sl ob (.t k :: rs) KL = Vu sl ob rs fun vs => KL (look sl k :: vs) := by simp only [Vu,RV.wp]
@[simp] theorem resK_c (KL : List V → Prop) (rs : List RV) : Vu sl ob (.c k n b :: rs) KL = ldK ob n b (fun v => Vu sl ob rs fun vs => KL (v :: vs)) (look sl k) := by simp only [Vu,RV.wp]
@[simp] theorem retV_1 : Uc [v] = v := by simp only [Uc]
@[simp] theorem retV_0 : Uc [] = .tup [] := by simp only [Uc]
@[simp] theorem retV_2 : Uc (v :: v' :: vs) = .tup (v :: v' :: vs) := by simp only [Uc]
@[simp] theorem argS_nil : Ju k [] = [] := by simp only [Ju]
@[simp] theorem argS_cons : Ju k (v :: vs) = (k,v) :: Ju (k + 1) vs := by simp only [Ju]
end

@[congr] theorem I_wp_congr {P : Prg} {sl : Xb} {ob : Objs} {KO : V → Objs → Prop} {Pn : V → Objs → Prop} {i : I} : I.wp P sl ob KO Pn i = I.wp P sl ob KO Pn i := rfl
@[congr] theorem C_wp_congr {sl : Xb} {ob : Objs} {K : V → Prop} {e : C} : C.wp sl ob K e = C.wp sl ob K e := rfl
@[congr] theorem rwp_congr {P : Prg} {KS : Xb → Objs → Prop} {PS : V → Xb → Objs → Prop} {l : List It} {sl : Xb} {ob : Objs} : rwp P KS PS l sl ob = rwp P KS PS l sl ob := rfl
@[congr] theorem gdK_congr {k : Nat} {b : Bool} {sl : Xb} {Y N : Xb → Prop} {v v' : V} (h0 : v = v') : gdK k b sl Y N v = gdK k b sl Y N v' := by rw [h0]
@[congr] theorem condK_congr {Y N : Prop} {v v' : V} (h0 : v = v') : Xa4 Y N v = Xa4 Y N v' := by rw [h0]
@[congr] theorem pickK_congr {K : V → Prop} {u u' : V} {v v' : V} {w w' : V} (h0 : u = u') (h1 : v = v') (h2 : w = w') : Xbh K u v w = Xbh K u' v' w' := by rw [h0,h1,h2]
@[congr] theorem notK_congr {K : V → Prop} {v v' : V} (h0 : v = v') : Xxt K v = Xxt K v' := by rw [h0]
@[congr] theorem cplK_congr {K : V → Prop} {v v' : V} (h0 : v = v') : X8j K v = X8j K v' := by rw [h0]
@[congr] theorem mxK_congr {K : V → Prop} {u u' v v' : V} (h0 : u = u') (h1 : v = v') : mxK K u v = mxK K u' v' := by rw [h0,h1]
@[congr] theorem negK_congr {K : V → Prop} {v v' : V} (h0 : v = v') : Yaf K v = Yaf K v' := by rw [h0]
@[congr] theorem cvsK_congr {K : V → Prop} {v v' : V} (h0 : v = v') : X8l K v = X8l K v' := by rw [h0]
@[congr] theorem nilcK_congr {K : V → Prop} {v v' : V} (h0 : v = v') : U5 K v = U5 K v' := by rw [h0]
@[congr] theorem lenSK_congr {K : V → Prop} {v v' : V} (h0 : v = v') : Xdi K v = Xdi K v' := by rw [h0]
@[congr] theorem b2sK_congr {K : V → Prop} {v v' : V} (h0 : v = v') : Ya5 K v = Ya5 K v' := by rw [h0]
@[congr] theorem s2bK_congr {K : V → Prop} {v v' : V} (h0 : v = v') : Ybh K v = Ybh K v' := by rw [h0]
@[congr] theorem binK_congr {op : BinOp} {K : V → Prop} {u u' : V} {v v' : V} (h0 : u = u') (h1 : v = v') : Xpt op K u v = Xpt op K u' v' := by rw [h0,h1]
@[congr] theorem intK_congr {op : BinOp} {k j : IntKind} {K : V → Prop} {a a' : Int} {b b' : Int} (h0 : a = a') (h1 : b = b') : Xzr op k j a b K = Xzr op k j a' b' K := by rw [h0,h1]
@[congr] theorem strK_congr {op : BinOp} {K : V → Prop} {a a' : List UInt8} {b b' : List UInt8} (h0 : a = a') (h1 : b = b') : Xs5 op a b K = Xs5 op a' b' K := by rw [h0,h1]
@[congr] theorem beqK_congr {e : Bool} {K : V → Prop} {u u' : V} {v v' : V} (h0 : u = u') (h1 : v = v') : X7y e K u v = X7y e K u' v' := by rw [h0,h1]
@[congr] theorem isnilK_congr {e : Bool} {K : V → Prop} {v v' : V} (h0 : v = v') : V6 e K v = V6 e K v' := by rw [h0]
@[congr] theorem cviK_congr {k : IntKind} {K : V → Prop} {v v' : V} (h0 : v = v') : Xuo k K v = Xuo k K v' := by rw [h0]
@[congr] theorem idxK_congr {K : V → Prop} {u u' : V} {v v' : V} (h0 : u = u') (h1 : v = v') : Xzq K u v = Xzq K u' v' := by rw [h0,h1]
@[congr] theorem idxAK_congr {ob : Objs} {n : Nat} {K : V → Prop} {u u' : V} {v v' : V} (h0 : u = u') (h1 : v = v') : Jk ob n K u v = Jk ob n K u' v' := by rw [h0,h1]
@[congr] theorem idxPK_congr {ob : Objs} {k n : Nat} {K : V → Prop} {u u' : V} {v v' : V} (h0 : u = u') (h1 : v = v') : Xb9 ob k n K u v = Xb9 ob k n K u' v' := by rw [h0,h1]
@[congr] theorem fldAK_congr {ob : Objs} {k n : Nat} {K : V → Prop} {v v' : V} (h0 : v = v') : U2 ob k n K v = U2 ob k n K v' := by rw [h0]
@[congr] theorem fldAKo_congr {j : Nat} {p : List Nat} {k n : Nat} {K : V → Prop} {v v' : Option (List V)} (h0 : v = v') : Qg j p k n K v = Qg j p k n K v' := by rw [h0]
@[congr] theorem fldK_congr {k j n : Nat} {b : Bool} {K : V → Prop} {v v' : Option (List V)} (h0 : v = v') : Xzn k j n b K v = Xzn k j n b K v' := by rw [h0]
@[congr] theorem ldK_congr {ob : Objs} {n : Nat} {b : Bool} {K : V → Prop} {v v' : V} (h0 : v = v') : ldK ob n b K v = ldK ob n b K v' := by rw [h0]
@[congr] theorem ldKo_congr {n : Nat} {b : Bool} {K : V → Prop} {v v' : Option V} (h0 : v = v') : Xgn n b K v = Xgn n b K v' := by rw [h0]
@[congr] theorem lenLK_congr {ob : Objs} {K : V → Prop} {v v' : V} (h0 : v = v') : Xaf ob K v = Xaf ob K v' := by rw [h0]
@[congr] theorem bndK_congr {n : Nat} {KK : Nat → Nat → Prop} {u u' : Option V} {v v' : Option V} (h0 : u = u') (h1 : v = v') : Jw n KK u v = Jw n KK u' v' := by rw [h0,h1]
@[congr] theorem slcSK_congr {K : V → Prop} {l l' : Option V} {h h' : Option V} {v v' : V} (h0 : l = l') (h1 : h = h') (h2 : v = v') : Xev l h K v = Xev l' h' K v' := by rw [h0,h1,h2]
@[congr] theorem slcLK_congr {n : Nat} {K : V → Prop} {l l' : Option V} {h h' : Option V} {v v' : V} (h0 : l = l') (h1 : h = h') (h2 : v = v') : Xeu n l h K v = Xeu n l' h' K v' := by rw [h0,h1,h2]
@[congr] theorem extK_congr {n : Nat} {K : V → Prop} {v v' : V} (h0 : v = v') : Xp0 n K v = Xp0 n K v' := by rw [h0]
@[congr] theorem bldK_congr {KL : List V → Prop} {u u' : List V} {l l' : List (Nat × V)} (h0 : u = u') (h1 : l = l') : Jt u l KL = Jt u' l' KL := by rw [h0,h1]
@[congr] theorem tasK_congr {k : Nat} {d : D} {K : V → Prop} {v v' : V} (h0 : v = v') : X3a k d K v = X3a k d K v' := by rw [h0]
@[congr] theorem boxK_congr {k : Nat} {ob : Objs} {KO : V → Objs → Prop} {v v' : V} (h0 : v = v') : Xs0 k ob KO v = Xs0 k ob KO v' := by rw [h0]
@[congr] theorem stK_congr {ob : Objs} {n : Nat} {KO : V → Objs → Prop} {u u' : V} {v v' : V} (h0 : u = u') (h1 : v = v') : stK ob n u KO v = stK ob n u' KO v' := by rw [h0,h1]
@[congr] theorem stKo_congr {ob : Objs} {k : Nat} {p : List Nat} {n : Nat} {u : V} {KO : V → Objs → Prop} {v v' : Option Ob} (h0 : v = v') : stKo ob k p n u KO v = stKo ob k p n u KO v' := by rw [h0]
@[congr] theorem stKt_congr {ob : Objs} {k : Nat} {p : List Nat} {n E : Nat} {u t : V} {KO : V → Objs → Prop} {v v' : Option V} (h0 : v = v') : Xy8 ob k p n E u t KO v = Xy8 ob k p n E u t KO v' := by rw [h0]
@[congr] theorem stKs_congr {ob : Objs} {k E : Nat} {KO : V → Objs → Prop} {v v' : Option V} (h0 : v = v') : Ybk ob k E KO v = Ybk ob k E KO v' := by rw [h0]
@[congr] theorem dK_congr {KD : List D → Prop} {v v' : Option (List D)} (h0 : v = v') : dK KD v = dK KD v' := by rw [h0]
@[congr] theorem callvK_congr {P : Prg} {ob : Objs} {KO : V → Objs → Prop} {Pn : V → Objs → Prop} {u u' : List V} {v v' : V} (h0 : u = u') (h1 : v = v') : Qc P u ob KO Pn v = Qc P u' ob KO Pn v' := by rw [h0,h1]
@[congr] theorem panicK_congr {ob : Objs} {Pn : V → Objs → Prop} {v v' : V} (h0 : v = v') : Xan ob Pn v = Xan ob Pn v' := by rw [h0]
@[congr] theorem srcK_congr {n : Nat} {KD : List D → Prop} {v v' : V} (h0 : v = v') : Xy6 n KD v = Xy6 n KD v' := by rw [h0]
@[congr] theorem appK_congr {E sz B : Nat} {ob : Objs} {xs : List D} {KO : V → Objs → Prop} {v v' : V} (h0 : v = v') : Xei E sz B ob xs KO v = Xei E sz B ob xs KO v' := by rw [h0]
@[congr] theorem appKo_congr {k E sz B n : Nat} {ob : Objs} {xs : List D} {KO : V → Objs → Prop} {v v' : Option Ob} (h0 : v = v') : Xel k E sz B n ob xs KO v = Xel k E sz B n ob xs KO v' := by rw [h0]
@[congr] theorem niloK_congr {E sz : Nat} {ob : Objs} {KO : V → Objs → Prop} {v v' : V} (h0 : v = v') : Xh2 E sz ob KO v = Xh2 E sz ob KO v' := by rw [h0]
@[congr] theorem srcSK_congr {KD : List D → Prop} {v v' : V} (h0 : v = v') : Xh8 KD v = Xh8 KD v' := by rw [h0]
@[congr] theorem pnilK_congr {e : Bool} {K : V → Prop} {v v' : V} (h0 : v = v') : Xos e K v = Xos e K v' := by rw [h0]
@[congr] theorem fnilK_congr {e : Bool} {K : V → Prop} {v v' : V} (h0 : v = v') : Xa9 e K v = Xa9 e K v' := by rw [h0]
@[congr] theorem peqK_congr {ob : Objs} {e : Bool} {K : V → Prop} {u u' v v' : V} (h1 : u = u') (h0 : v = v') : Ybf ob e K u v = Ybf ob e K u' v' := by rw [h0,h1]
@[congr] theorem givK_congr {KO : V → Objs → Prop} {v v' : Option (D × Objs)} (h0 : v = v') : Xjf KO v = Xjf KO v' := by rw [h0]
@[congr] theorem givsK_congr {KO : List D → Objs → Prop} {v v' : Option (List D × Objs)} (h0 : v = v') : Vh KO v = Vh KO v' := by rw [h0]
@[congr] theorem gvO_congr {u : V} {ob : Objs} {KO : V → Objs → Prop} {v v' : Option (D × Objs)} (h0 : v = v') : gvO u ob KO v = gvO u ob KO v' := by rw [h0]
@[congr] theorem gvsK_congr {KL : List V → Objs → Prop} {u u' : List V} {ob ob' : Objs} (h0 : u = u') (h1 : ob = ob') : Xgk u ob KL = Xgk u' ob' KL := by rw [h0,h1]
@[congr] theorem leaveK_congr {n : Nat} {K : Objs → Prop} {u u' : List V} {ob ob' : Objs} (h0 : u = u') (h1 : ob = ob') : Xx n K u ob = Xx n K u' ob' := by rw [h0,h1]
@[congr] theorem ldfK_congr {n : Nat} {b : Bool} {ob : Objs} {KO : V → Objs → Prop} {v v' : V} (h0 : v = v') : X2h n b ob KO v = X2h n b ob KO v' := by rw [h0]
@[congr] theorem ldfKo_congr {n : Nat} {b : Bool} {ob : Objs} {KO : V → Objs → Prop} {v v' : Option V} (h0 : v = v') : Xl3 n b ob KO v = Xl3 n b ob KO v' := by rw [h0]
@[congr] theorem mvgK_congr {ob : Objs} {E sz : Nat} {p : List Nat} {KO : V → Objs → Prop} {u u' v v' : V} (h1 : u = u') (h0 : v = v') : Xk5 ob E sz p u KO v = Xk5 ob E sz p u' KO v' := by rw [h0,h1]
@[congr] theorem mvgKt_congr {ob : Objs} {k E sz : Nat} {p p' : List Nat} {KO : V → Objs → Prop} {u : V} {v v' : Option Ob} (h1 : p = p') (h0 : v = v') : Xeq ob k p E sz u KO v = Xeq ob k p' E sz u KO v' := by rw [h0,h1]
@[congr] theorem mvgKs_congr {ob : Objs} {k E0 E sz : Nat} {KO : V → Objs → Prop} {u : V} {v v' : Option V} (h0 : v = v') : Xjz ob k E0 E sz u KO v = Xjz ob k E0 E sz u KO v' := by rw [h0]
@[congr] theorem cvbK_congr {ob : Objs} {KO : V → Objs → Prop} {v v' : V} (h0 : v = v') : Xun ob KO v = Xun ob KO v' := by rw [h0]
@[congr] theorem cvbKo_congr {k n : Nat} {ob : Objs} {KO : V → Objs → Prop} {v v' : Option Ob} (h0 : v = v') : Xga k n ob KO v = Xga k n ob KO v' := by rw [h0]
@[congr] theorem usdK_congr {ob : Objs} {K : V → Prop} {v v' : V} (h0 : v = v') : Xsv ob K v = Xsv ob K v' := by rw [h0]
@[congr] theorem ustrK_congr {E : Nat} {ob : Objs} {KO : V → Objs → Prop} {u u' v v' : V} (h1 : u = u') (h0 : v = v') : Xbk E ob KO u v = Xbk E ob KO u' v' := by rw [h0,h1]
@[congr] theorem ustrKo_congr {k n : Nat} {m : Int} {E : Nat} {ob : Objs} {KO : V → Objs → Prop} {v v' : Option Ob} (h0 : v = v') : Xau k n m E ob KO v = Xau k n m E ob KO v' := by rw [h0]
@[congr] theorem resK_congr {sl : Xb} {ob : Objs} {rs : List RV} {KL : List V → Prop} : Vu sl ob rs KL = Vu sl ob rs KL := rfl
@[congr] theorem ACall_congr {P : Prg} {f : Nat} {vs vs' : List V} {ob ob' : Objs} {K : Out → Objs → Prop} (h : vs = vs') (h' : ob = ob') : ACall P f vs ob K = ACall P f vs' ob' K := by rw [h,h']
@[congr] theorem PCall_congr {P : Prg} {f : Nat} {vs vs' : List V} {ob ob' : Objs} {K : V → Prop} (h : vs = vs') (h' : ob = ob') : PCall P f vs ob K = PCall P f vs' ob' K := by rw [h,h']
@[congr] theorem ALoop_congr {keep : List Nat} {body : Vx → Xb → Objs → Prop} {Q : Vx} {sl sl' : Xb} {ob ob' : Objs} (h : sl = sl') (h' : ob = ob') : ALoop keep body Q sl ob = ALoop keep body Q sl' ob' := by rw [h,h']

theorem ALoop.of {keep : List Nat} {body : Vx → Xb → Objs → Prop} {Q : Vx} {sl : Xb} {ob : Objs} {ι : Type} (S : ι → Xb) (O : ι → Objs) (I : ι → Prop) (μ : ι → Nat) (i0 : ι) (h0 : I i0) (hs : Xe sl keep = S i0) (ho : ob = O i0)
  (step : ∀ i,I i → body (Vi (sub keep (fresh (O i)) fun sl' ob' => ∃ j,I j ∧ μ j < μ i ∧ sl' = S j ∧ ob' = O j) Q) (S i) (O i)) : ALoop keep body Q sl ob :=
 ⟨⟨ι,S,O,I,μ,i0,h0,hs,ho,step⟩⟩

theorem ALoop.go {keep : List Nat} {body : Vx → Xb → Objs → Prop} {Q : Vx} {sl : Xb} {ob : Objs} {ι : Type} (S : ι → Xb) (O : ι → Objs) (I : ι → Prop) (μ : ι → Nat) (i0 : ι) (h0 : I i0) (hs : Xe sl keep = S i0) (ho : ob = O i0)
  (step : ∀ i,I i → ∀ R : Vx,(∀ kp j sl' ob',I j → μ j < μ i → Xe sl' keep = S j → Xy (young (fresh (O i)) kp) ob' = O j → Uw (young (fresh (O i)) kp) (S j) = true → noMenO (young (fresh (O i)) kp) (O j) = true → R .normal sl' ob') →
   (∀ n sl' ob',Q (.exit n) sl' ob' → R (.exit n) sl' ob') → (∀ sl' ob',Q .ret sl' ob' → R .ret sl' ob') → (∀ v sl' ob',Q (.panic v) sl' ob' → R (.panic v) sl' ob') → body R (S i) (O i)) : ALoop keep body Q sl ob := by
 refine ALoop.of S O I μ i0 h0 hs ho fun i hi => step i hi _ (fun kp j sl' ob' h1 h2 h3 h4 h5 h6 => ?_) (fun _ _ _ h => h) (fun _ _ h => h) (fun _ _ _ h => h)
 simp only [Vi,sub]
 refine ⟨kp,?_⟩
 rw [h3,h4]
 exact ⟨h5,h6,j,h1,h2,rfl,rfl⟩
@[congr] theorem cwp_congr {P : Prg} {s : S} {Q : Vx} {sl sl' : Xb} {ob ob' : Objs} (h : sl = sl') (h' : ob = ob') : cwp P s Q sl ob = cwp P s Q sl' ob' := by rw [h,h']
end Go.Ab
/- Expressions: what an operation that only reads yields, as a value. Over any program; no condition. -/
namespace Go.Ab
open Go

def Xdt : V → V → V → V
 | .d (.bool t),.d (.bool x),.d (.bool y) => .d (.bool (if t then x else y))
 | .d (.bool t),x,y => if t then x else y
 | _,_,_ => .any
def Yag : V → V
 | .d (.bool b) => .d (.bool (!b))
 | _ => .any
def Ykk : V → V
 | .d (.int k n) => .d (.int k (k.wrap (0 - n)))
 | _ => .any
def Yhq : V → V
 | .d (.int k n) => .d (.int k (Zu .xor k (if k.signed then -1 else k.max) n))
 | _ => .any
def mxV : V → V → V
 | .d (.int k a),.d (.int _ b) => .d (.int k (if b > a then b else a))
 | _,_ => .any
def Xbt (op : BinOp) (k : IntKind) (a b : Int) : V :=
 match op with
 | .add => .d (.int k (k.wrap (a + b)))
 | .sub => .d (.int k (k.wrap (a - b)))
 | .mul => .d (.int k (k.wrap (a * b)))
 | .quo => .d (.int k (k.wrap (a.tdiv b)))
 | .rem => .d (.int k (a.tmod b))
 | .and | .or | .xor | .andNot => .d (.int k (Zu op k a b))
 | .shl => .d (.int k (k.wrap (a * 2 ^ (min b.toNat k.bits))))
 | .shr => .d (.int k (a.fdiv (2 ^ (min b.toNat k.bits))))
 | .eql => .d (.bool (a == b))
 | .neq => .d (.bool (a != b))
 | .lss => .d (.bool (decide (a < b)))
 | .leq => .d (.bool (decide (a ≤ b)))
 | .gtr => .d (.bool (decide (b < a)))
 | .geq => .d (.bool (decide (b ≤ a)))
def X54 (op : BinOp) (x y : List UInt8) : V :=
 match op with
 | .add => .d (.str (x ++ y))
 | .eql => .d (.bool (x == y))
 | .neq => .d (.bool (x != y))
 | .lss => .d (.bool (Op.bytesLess x y))
 | .leq => .d (.bool (Op.bytesLess x y || x == y))
 | .gtr => .d (.bool (!(Op.bytesLess x y || x == y)))
 | .geq => .d (.bool (!Op.bytesLess x y))
 | _ => .any
def X70 (op : BinOp) : V → V → V
 | .d (.int k a),.d (.int _ b) => Xbt op k a b
 | .d (.str x),.d (.str y) => X54 op x y
 | _,_ => .any
def Yhm (e : Bool) : V → V → V
 | .d (.bool x),.d (.bool y) => .d (.bool ((x == y) == e))
 | _,_ => .any
def Xad (e : Bool) : V → V
 | .d .nili => .d (.bool e)
 | .iface _ _ => .d (.bool (!e))
 | .d (.iface _ _) => .d (.bool (!e))
 | _ => .any
def Yan (e : Bool) : V → V
 | .d .nilp => .d (.bool e)
 | .d (.ref _) => .d (.bool (!e))
 | .ptr _ _ => .d (.bool (!e))
 | _ => .any
def Xgh (e : Bool) : V → V
 | .d .nilf => .d (.bool e)
 | .d (.fn _ _ _) => .d (.bool (!e))
 | .fn _ _ _ => .d (.bool (!e))
 | _ => .any
def Yay : V → V
 | .sl id n => .sd id n
 | .d .nils => .d .nilp
 | _ => .any
def X8k (k : IntKind) : V → V
 | .d (.int _ n) => .d (.int k (k.wrap n))
 | _ => .any
def Yhr : V → V
 | .d (.str s) => .d (.str s)
 | _ => .any
def Ycv : V → V → V
 | .d (.str s),.d (.int _ n) => .d (.int .u8 (s.getD n.toNat 0).toNat)
 | _,_ => .any
def Xjl (z : Nat) : V → V → V
 | .d (.list _ xs),.d (.int _ n) => .d (.ref (xs.getD n.toNat default))
 | .sl id n,.d (.int _ m) => .ep id n z m.toNat 0 []
 | .bs id p lo _,.d (.int _ m) => .ptr id (p ++ [lo + m.toNat])
 | _,_ => .any
def Xgm : V → V → V
 | .ptr id p,.d (.int _ n) => .ptr id (p ++ [n.toNat])
 | .d (.ref (.agg xs)),.d (.int _ n) => .d (.ref (xs.getD n.toNat default))
 | _,_ => .any
def Yo (f fo : Nat) : V → V
 | .ptr id p => .ptr id (p ++ [f])
 | .ep id n z i g p => .ep id n z i (g + fo) (p ++ [f])
 | .d (.ref (.agg xs)) => .d (.ref (xs.getD f default))
 | _ => .any
def Ya9 (f : Nat) : Option (List V) → V
 | some ks => ks.getD f .any
 | none => .any
def X32 : Option V → V
 | some v => v
 | none => .any
def ldV (ob : Objs) : V → V
 | .ptr id p => X32 (atO ob id p)
 | .d (.ref x) => .d x
 | .ep id m z i f p => X32 (atE ob id m z i f p)
 | _ => .any
def Xl4 : V → V
 | .d (.str s) => .d (.int .i64 s.length)
 | _ => .any
def Xep : V → V
 | .d (.list _ xs) => .d (.int .i64 xs.length)
 | .d .nils => .d (.int .i64 0)
 | .sl _ n => .d (.int .i64 n)
 | .bs _ _ _ n => .d (.int .i64 n)
 | _ => .any
def Xzl (len : Nat) (K : Nat → Nat → V) : Option V → Option V → V
 | none,none => K 0 len
 | some (.d (.int _ l)),none => K l.toNat len
 | none,some (.d (.int _ h)) => K 0 h.toNat
 | some (.d (.int _ l)),some (.d (.int _ h)) => K l.toNat h.toNat
 | _,_ => .any
def Xat (lo hi : Option V) : V → V
 | .d (.str s) => Xzl s.length (fun l h => .d (.str ((s.take h).drop l))) lo hi
 | _ => .any
def Xse (lo hi : Option V) : V → V
 | .d (.list sz xs) => Xzl xs.length (fun l h => .d (.list sz ((xs.take h).drop l))) lo hi
 | _ => .any
def Ya8 (i : Nat) : V → V
 | .tup xs => xs.getD i .any
 | _ => .any
def X55 (t : Nat) (z : D) : V → V
 | .iface t' v => if t' = t then .tup [v,.d (.bool true)] else .tup [.d z,.d (.bool false)]
 | .d (.iface t' x) => if t' = t then .tup [.d x,.d (.bool true)] else .tup [.d z,.d (.bool false)]
 | .d .nili => .tup [.d z,.d (.bool false)]
 | _ => .any

def Ya6 (e : Bool) : V → V → V
 | .d x,.d y => .d (.bool (D.eqb x y == e))
 | _,_ => .any
def Xr0 : V → V → V
 | .d (.agg xs),.d (.int _ n) => .d (xs.getD n.toNat default)
 | _,_ => .any

def C.val (sl : Xb) (ob : Objs) : C → V
 | .mv x => x.ev sl
 | .pick c a b => Xdt (c.ev sl) (a.ev sl) (b.ev sl)
 | .not x => Yag (x.ev sl)
 | .neg x => Ykk (x.ev sl)
 | .cpl x => Yhq (x.ev sl)
 | .mx x y => mxV (x.ev sl) (y.ev sl)
 | .bin op x y => X70 op (x.ev sl) (y.ev sl)
 | .beq e x y => Yhm e (x.ev sl) (y.ev sl)
 | .isnil e x => Xad e (x.ev sl)
 | .pnil e x => Yan e (x.ev sl)
 | .fnil e x => Xgh e (x.ev sl)
 | .peq e _ _ => .d (.bool e)
 | .usd x => Yay (x.ev sl)
 | .cvi k x => X8k k (x.ev sl)
 | .cvs x => Yhr (x.ev sl)
 | .idx x i => Ycv (x.ev sl) (i.ev sl)
 | .idxA z x i => Xjl z (x.ev sl) (i.ev sl)
 | .idxP _ _ x i => Xgm (x.ev sl) (i.ev sl)
 | .fldA f fo x => Yo f fo (x.ev sl)
 | .fld f _ _ _ x => Ya9 f (x.ev sl).kids
 | .ld _ _ x => ldV ob (x.ev sl)
 | .nilc x => x.ev sl
 | .lenS x => Xl4 (x.ev sl)
 | .lenL x => Xep (x.ev sl)
 | .lenA n => .d (.int .i64 n)
 | .slcS x lo hi => Xat (lo.map (A.ev sl)) (hi.map (A.ev sl)) (x.ev sl)
 | .slcL _ x lo hi => Xse (lo.map (A.ev sl)) (hi.map (A.ev sl)) (x.ev sl)
 | .ext x i => Ya8 i (x.ev sl)
 | .bld _ _ => .any
 | .mkf f first cap => X37 f (first.map (A.ev sl)) (cap.map (A.ev sl))
 | .mki t x => X2q t (x.ev sl)
 | .tas t z x => X55 t z (x.ev sl)
 | .eqD _ e x y => Ya6 e (x.ev sl) (y.ev sl)
 | .aix _ _ _ x i => Xr0 (x.ev sl) (i.ev sl)

def C.ok (sl : Xb) (ob : Objs) (c : C) : Prop := c.wp sl ob fun v => v = c.val sl ob

theorem Xvl {op : BinOp} {k k' : IntKind} {a b : Int} {K K' : V → Prop} (hk : ∀ v,K v → K' v) (h : Xzr op k k' a b K) : Xzr op k k' a b K' := by
 cases op <;> simp only [Xzr] at h ⊢ <;> first | exact ⟨h.1,hk _ h.2⟩ | exact ⟨h.1,h.2.1,hk _ h.2.2⟩
theorem Xza {op : BinOp} {a b : List UInt8} {K K' : V → Prop} (hk : ∀ v,K v → K' v) (h : Xs5 op a b K) : Xs5 op a b K' := by
 cases op <;> simp only [Xs5] at h ⊢ <;> first | exact hk _ h | exact ⟨h.1,hk _ h.2⟩ | exact h.elim
theorem Xc3 {n : Nat} {K K' : Nat → Nat → Prop} (hk : ∀ l h,K l h → K' l h) {lo hi : Option V} (h : Jw n K lo hi) : Jw n K' lo hi := by
 unfold Jw at h ⊢
 split <;> simp_all
theorem Qb {K K' : List V → Prop} (hk : ∀ l,K l → K' l) : ∀ (ps : List (Nat × V)) (ks : List V),Jt ks ps K → Jt ks ps K'
 | [],_,h => hk _ h
 | (_,_) :: r,_,h => ⟨h.1,h.2.1,h.2.2.1,Qb hk r _ h.2.2.2⟩
theorem C.wp_mono {sl : Xb} {ob : Objs} {K K' : V → Prop} (hk : ∀ v,K v → K' v) (c : C) (h : c.wp sl ob K) : c.wp sl ob K' := by
 cases c <;> simp only [C.wp] at h ⊢
 case mv => exact hk _ h
 case lenA => exact hk _ h
 case mkf => exact hk _ h
 case mki => exact hk _ h
 case bld => exact Qb (fun _ => hk _) _ _ h
 case bin x y =>
  generalize A.ev sl x = v at h ⊢; generalize A.ev sl y = u at h ⊢
  unfold Xpt at h; split at h
  ·exact Xvl hk h
  ·exact Xza hk h
  ·exact h.elim
 case slcS x lo hi =>
  generalize A.ev sl x = v at h ⊢
  unfold Xev at h; split at h
  ·exact Xc3 (fun _ _ => hk _) h
  ·exact h.elim
 case slcL x lo hi =>
  generalize A.ev sl x = v at h ⊢
  unfold Xeu at h; split at h
  ·exact ⟨h.1,Xc3 (fun _ _ => hk _) h.2⟩
  ·exact h.elim
 case pick x y z =>
  generalize A.ev sl x = v at h ⊢; generalize A.ev sl y = u at h ⊢; generalize A.ev sl z = t at h ⊢
  unfold Xbh at h; split at h
  ·exact hk _ h
  ·rename_i hn; simp only [Xbh]; exact ⟨fun e => hk _ (h.1 e),fun e => hk _ (h.2 e)⟩
  ·exact h.elim
 case fld x =>
  generalize (A.ev sl x).kids = v at h ⊢
  unfold Xzn at h; split at h
  ·exact ⟨h.1,h.2.1,h.2.2.1,h.2.2.2.1,hk _ h.2.2.2.2⟩
  ·exact h.elim
 case fldA x =>
  generalize A.ev sl x = v at h ⊢
  unfold U2 at h; split at h
  ·simp only [U2]
   generalize Zj _ = v at h ⊢
   unfold Qg at h; split at h
   ·exact ⟨h.1,h.2.1,hk _ h.2.2⟩
   ·exact h.elim
  ·exact ⟨h.1,h.2.1,hk _ h.2.2⟩
  ·exact hk _ h
  ·exact h.elim
 case ld x =>
  generalize A.ev sl x = v at h ⊢
  unfold ldK at h; split at h
  ·simp only [ldK]
   generalize atO _ _ _ = v at h ⊢
   unfold Xgn at h; split at h
   ·exact ⟨h.1,h.2.1,hk _ h.2.2⟩
   ·exact h.elim
  ·exact ⟨h.1,h.2.1,hk _ h.2.2⟩
  ·simp only [ldK]
   generalize atE _ _ _ _ _ _ _ = v at h ⊢
   unfold Xgn at h; split at h
   ·exact ⟨h.1,h.2.1,hk _ h.2.2⟩
   ·exact h.elim
  ·exact h.elim
 case tas x =>
  generalize A.ev sl x = v at h ⊢
  unfold X3a at h; split at h
  ·exact ⟨fun e => hk _ (h.1 e),fun e => hk _ (h.2 e)⟩
  ·exact ⟨fun e => hk _ (h.1 e),fun e => hk _ (h.2 e)⟩
  ·exact hk _ h
  ·exact h.elim
 case pnil x => generalize A.ev sl x = v at h ⊢; unfold Xos at h; split at h <;> first | exact hk _ h | exact h.elim
 case fnil x => generalize A.ev sl x = v at h ⊢; unfold Xa9 at h; split at h <;> first | exact hk _ h | exact h.elim
 case usd x => generalize A.ev sl x = v at h ⊢; unfold Xsv at h; split at h <;> first | exact ⟨h.1,hk _ h.2⟩ | exact hk _ h | exact h.elim
 case peq x y => generalize A.ev sl x = v at h ⊢; generalize A.ev sl y = u at h ⊢; unfold Ybf at h; split at h <;> first | exact ⟨h.1,h.2.1,h.2.2.1,hk _ h.2.2.2⟩ | exact h.elim
 case not x => generalize A.ev sl x = v at h ⊢; unfold Xxt at h; split at h <;> first | exact hk _ h | exact h.elim
 case cpl x => generalize A.ev sl x = v at h ⊢; unfold X8j at h; split at h <;> first | exact hk _ h | exact h.elim
 case mx x y => generalize A.ev sl x = v at h ⊢; generalize A.ev sl y = u at h ⊢; unfold mxK at h; split at h <;> first | exact hk _ h | exact h.elim
 case neg x => generalize A.ev sl x = v at h ⊢; unfold Yaf at h; split at h <;> first | exact hk _ h | exact h.elim
 case isnil x => generalize A.ev sl x = v at h ⊢; unfold V6 at h; split at h <;> first | exact hk _ h | exact h.elim
 case cvi x => generalize A.ev sl x = v at h ⊢; unfold Xuo at h; split at h <;> first | exact hk _ h | exact h.elim
 case cvs x => generalize A.ev sl x = v at h ⊢; unfold X8l at h; split at h <;> first | exact hk _ h | exact h.elim
 case nilc x => generalize A.ev sl x = v at h ⊢; unfold U5 at h; split at h <;> first | exact hk _ h | exact h.elim
 case lenS x => generalize A.ev sl x = v at h ⊢; unfold Xdi at h; split at h <;> first | exact hk _ h | exact h.elim
 case lenL x => generalize A.ev sl x = v at h ⊢; unfold Xaf at h; split at h <;> first | exact hk _ h | exact ⟨h.1,hk _ h.2⟩ | exact h.elim
 case ext x _ => generalize A.ev sl x = v at h ⊢; unfold Xp0 at h; split at h <;> first | exact ⟨h.1,hk _ h.2⟩ | exact h.elim
 case eqD x y => generalize A.ev sl x = v at h ⊢; generalize A.ev sl y = u at h ⊢; unfold Yck at h; split at h <;> first | exact ⟨h.1,h.2.1,hk _ h.2.2⟩ | exact h.elim
 case aix x y => generalize A.ev sl x = v at h ⊢; generalize A.ev sl y = u at h ⊢; unfold Xl2 at h; split at h <;> first | exact ⟨h.1,h.2.1,h.2.2.1,hk _ h.2.2.2⟩ | exact h.elim
 case beq x y => generalize A.ev sl x = v at h ⊢; generalize A.ev sl y = u at h ⊢; unfold X7y at h; split at h <;> first | exact hk _ h | exact h.elim
 case idx x y => generalize A.ev sl x = v at h ⊢; generalize A.ev sl y = u at h ⊢; unfold Xzq at h; split at h <;> first | exact ⟨h.1,hk _ h.2⟩ | exact h.elim
 case idxA x y => generalize A.ev sl x = v at h ⊢; generalize A.ev sl y = u at h ⊢; unfold Jk at h; split at h <;> first | exact ⟨h.1,h.2.1,hk _ h.2.2⟩ | exact h.elim
 case idxP x y => generalize A.ev sl x = v at h ⊢; generalize A.ev sl y = u at h ⊢; unfold Xb9 at h; split at h <;> first | exact ⟨h.1,h.2.1,hk _ h.2.2⟩ | exact ⟨h.1,h.2.1,h.2.2.1,hk _ h.2.2.2⟩ | exact h.elim
theorem C.wp_of {sl : Xb} {ob : Objs} {K : V → Prop} {c : C} (h : c.ok sl ob) (hK : K (c.val sl ob)) : c.wp sl ob K :=
 C.wp_mono (fun _ e => e ▸ hK) c h
end Go.Ab
/- Regions folded into expressions: the expressions, what they yield, and how a region is folded. Over any program; no condition. -/
namespace Go.Ab
open Go

inductive E where
 | a (x : A)
 | u (c : C) (x : E)
 | b (c : C) (x y : E)
 | t (c : C) (x y z : E)
 | ite (c x y : E)
 | call (f : Nat) (x : E)
 | nil
 | cons (x r : E)

structure Fn where
 pre : List V → Prop
 val : List V → V
abbrev Tab := List (Nat × Fn)
def Xai : Tab → Nat → Option Fn
 | [],_ => none
 | (j,x) :: r,k => if j = k then some x else Xai r k
def TOk (P : Prg) (T : Tab) : Prop := ∀ f F,Xai T f = some F → ∀ vs,F.pre vs → ∀ (ob : Objs) (K : V → Prop),K (F.val vs) → PCall P f vs ob K

def isB (pol : Bool) : V → Bool
 | .d (.bool b) => b == pol
 | _ => false
def Xc4 : V → Prop
 | .d (.bool _) => True
 | _ => False
def Xum (x : V) : V → V
 | .tup xs => .tup (x :: xs)
 | _ => .any
def X0u : Option Fn → V → V
 | some F,.tup vs => F.val vs
 | _,_ => .any
def X0t : Option Fn → V → Prop
 | some F,.tup vs => F.pre vs
 | _,_ => False

def E.val (T : Tab) (sl : Xb) (ob : Objs) : E → V
 | .a x => x.ev sl
 | .u c x => c.val [(0,x.val T sl ob)] ob
 | .b c x y => c.val [(0,x.val T sl ob),(1,y.val T sl ob)] ob
 | .t c x y z => c.val [(0,x.val T sl ob),(1,y.val T sl ob),(2,z.val T sl ob)] ob
 | .ite c x y => Xdt (c.val T sl ob) (x.val T sl ob) (y.val T sl ob)
 | .call f x => X0u (Xai T f) (x.val T sl ob)
 | .nil => .tup []
 | .cons x r => Xum (x.val T sl ob) (r.val T sl ob)
def E.ok (T : Tab) (sl : Xb) (ob : Objs) : E → Prop
 | .a _ => True
 | .u c x => x.ok T sl ob ∧ c.ok [(0,x.val T sl ob)] ob
 | .b c x y => x.ok T sl ob ∧ y.ok T sl ob ∧ c.ok [(0,x.val T sl ob),(1,y.val T sl ob)] ob
 | .t c x y z => x.ok T sl ob ∧ y.ok T sl ob ∧ z.ok T sl ob ∧ c.ok [(0,x.val T sl ob),(1,y.val T sl ob),(2,z.val T sl ob)] ob
 | .ite c x y => c.ok T sl ob ∧ Xc4 (c.val T sl ob) ∧ (isB true (c.val T sl ob) = true → x.ok T sl ob) ∧ (isB false (c.val T sl ob) = true → y.ok T sl ob)
 | .call f x => x.ok T sl ob ∧ X0t (Xai T f) (x.val T sl ob)
 | .nil => True
 | .cons x r => x.ok T sl ob ∧ r.ok T sl ob

def A.men (k : Nat) : A → Bool
 | .t j => j == k
 | _ => false
def E.men (k : Nat) : E → Bool
 | .a x => x.men k
 | .u _ x => x.men k
 | .b _ x y => x.men k || y.men k
 | .t _ x y z => x.men k || y.men k || z.men k
 | .ite x y z => x.men k || y.men k || z.men k
 | .call _ x => x.men k
 | .nil => false
 | .cons x y => x.men k || y.men k
def C.rd : C → Bool
 | .ld _ _ _ => true
 | _ => false
def E.rd : E → Bool
 | .a _ => false
 | .u c x => c.rd || x.rd
 | .b c x y => c.rd || x.rd || y.rd
 | .t c x y z => c.rd || x.rd || y.rd || z.rd
 | .ite x y z => x.rd || y.rd || z.rd
 | .call _ x => x.rd
 | .nil => false
 | .cons x y => x.rd || y.rd
def E.isA : E → Bool
 | .a _ => true
 | _ => false

theorem E.val_sl {T : Tab} {sl : Xb} {ob : Objs} {k : Nat} {v : V} : ∀ {e : E},e.men k = false → e.val T ((k,v) :: sl) ob = e.val T sl ob
 | .a x,h => by
  cases x <;> simp only [E.val,A.ev]
  rename_i j
  simp only [E.men,A.men,beq_eq_false_iff_ne,ne_eq] at h
  have h' : ¬ k = j := fun e => h e.symm
  simp [look,h']
 | .u c x,h => by simp only [E.men] at h; simp only [E.val,E.val_sl h]
 | .b c x y,h => by simp only [E.men,Bool.or_eq_false_iff] at h; simp only [E.val,E.val_sl h.1,E.val_sl h.2]
 | .t c x y z,h => by simp only [E.men,Bool.or_eq_false_iff] at h; simp only [E.val,E.val_sl h.1.1,E.val_sl h.1.2,E.val_sl h.2]
 | .ite x y z,h => by simp only [E.men,Bool.or_eq_false_iff] at h; simp only [E.val,E.val_sl h.1.1,E.val_sl h.1.2,E.val_sl h.2]
 | .call f x,h => by simp only [E.men] at h; simp only [E.val,E.val_sl h]
 | .nil,_ => rfl
 | .cons x y,h => by simp only [E.men,Bool.or_eq_false_iff] at h; simp only [E.val,E.val_sl h.1,E.val_sl h.2]
theorem C.val_ob {sl : Xb} {ob ob' : Objs} {c : C} (h : c.rd = false) : c.val sl ob = c.val sl ob' := by
 cases c <;> simp_all [C.rd,C.val]
theorem E.val_ob {T : Tab} {sl : Xb} {ob ob' : Objs} : ∀ {e : E},e.rd = false → e.val T sl ob = e.val T sl ob'
 | .a x,h => rfl
 | .u c x,h => by simp only [E.rd,Bool.or_eq_false_iff] at h; simp only [E.val,E.val_ob (ob' := ob') h.2,C.val_ob (ob' := ob') h.1]
 | .b c x y,h => by simp only [E.rd,Bool.or_eq_false_iff] at h; simp only [E.val,E.val_ob (ob' := ob') h.1.2,E.val_ob (ob' := ob') h.2,C.val_ob (ob' := ob') h.1.1]
 | .t c x y z,h => by simp only [E.rd,Bool.or_eq_false_iff] at h; simp only [E.val,E.val_ob (ob' := ob') h.1.1.2,E.val_ob (ob' := ob') h.1.2,E.val_ob (ob' := ob') h.2,C.val_ob (ob' := ob') h.1.1.1]
 | .ite x y z,h => by simp only [E.rd,Bool.or_eq_false_iff] at h; simp only [E.val,E.val_ob (ob' := ob') h.1.1,E.val_ob (ob' := ob') h.1.2,E.val_ob (ob' := ob') h.2]
 | .call f x,h => by simp only [E.rd] at h; simp only [E.val,E.val_ob (ob' := ob') h]
 | .nil,_ => rfl
 | .cons x y,h => by simp only [E.rd,Bool.or_eq_false_iff] at h; simp only [E.val,E.val_ob (ob' := ob') h.1,E.val_ob (ob' := ob') h.2]


abbrev U0 := List (Nat × Bool)
abbrev Sg := List (Nat × Option (U0 × E))
def Wr : Sg → Nat → Option (Option (U0 × E))
 | [],_ => none
 | (j,x) :: r,k => if j = k then some x else Wr r k
def ent (σ : Sg) (k : Nat) : Option (U0 × E) := match Wr σ k with
 | none => some ([],.a (.t k))
 | some x => x
def Xs (sl : Xb) (p : U0) : Bool := p.all fun g => isB g.2 (look sl g.1)
def Zx (T : Tab) (sl : Xb) (ob : Objs) (p : List (E × Bool)) : Bool := p.all fun g => isB g.2 (g.1.val T sl ob)
def Inv (T : Tab) (σ : Sg) (sl sl0 : Xb) (ob : Objs) : Prop := ∀ k p e,ent σ k = some (p,e) →
 (Xs sl p = true → look sl k = e.val T sl0 ob) ∧ (Xs sl p = false → look sl k = .undef)

def opE (σ : Sg) (p : U0) : A → Option E
 | .t k => match ent σ k with
  | some (q,e) => if q.isPrefixOf p then some e else none
  | none => none
 | x => some (.a x)
def W1 (σ : Sg) (p : U0) (c : C) (x : A) : Option E := match opE σ p x with
 | some x => some (.u c x)
 | none => none
def Qk (σ : Sg) (p : U0) (c : C) (x y : A) : Option E := match opE σ p x,opE σ p y with
 | some x,some y => some (.b c x y)
 | _,_ => none
def Xr7 (σ : Sg) (p : U0) (c : C) (x y z : A) : Option E := match opE σ p x,opE σ p y,opE σ p z with
 | some x,some y,some z => some (.t c x y z)
 | _,_,_ => none
def Yak (σ : Sg) (p : U0) (g : Nat) (x y : A) : Option E := match opE σ p (.t g),opE σ (p ++ [(g,true)]) x,opE σ (p ++ [(g,false)]) y with
 | some c,some x,some y => some (.ite c x y)
 | _,_,_ => none
def Xlg (σ : Sg) (p : U0) : List A → Option E
 | [] => some .nil
 | x :: r => match opE σ p x,Xlg σ p r with
  | some x,some r => some (.cons x r)
  | _,_ => none

def C.lift (σ : Sg) (p : U0) : C → Option E
 | .mv x => opE σ p x
 | .pick (.t g) x y => Yak σ p g x y
 | .pick _ _ _ => none
 | .not x => W1 σ p (.not (.t 0)) x
 | .neg x => W1 σ p (.neg (.t 0)) x
 | .cpl x => W1 σ p (.cpl (.t 0)) x
 | .mx x y => Qk σ p (.mx (.t 0) (.t 1)) x y
 | .bin o x y => Qk σ p (.bin o (.t 0) (.t 1)) x y
 | .beq e x y => Qk σ p (.beq e (.t 0) (.t 1)) x y
 | .isnil e x => W1 σ p (.isnil e (.t 0)) x
 | .pnil e x => W1 σ p (.pnil e (.t 0)) x
 | .fnil e x => W1 σ p (.fnil e (.t 0)) x
 | .peq e x y => Qk σ p (.peq e (.t 0) (.t 1)) x y
 | .usd x => W1 σ p (.usd (.t 0)) x
 | .cvi k x => W1 σ p (.cvi k (.t 0)) x
 | .cvs x => W1 σ p (.cvs (.t 0)) x
 | .idx x i => Qk σ p (.idx (.t 0) (.t 1)) x i
 | .idxA z x i => Qk σ p (.idxA z (.t 0) (.t 1)) x i
 | .idxP n z x i => Qk σ p (.idxP n z (.t 0) (.t 1)) x i
 | .fldA f fo x => W1 σ p (.fldA f fo (.t 0)) x
 | .fld f fo n ag x => W1 σ p (.fld f fo n ag (.t 0)) x
 | .ld n ag x => W1 σ p (.ld n ag (.t 0)) x
 | .nilc x => W1 σ p (.nilc (.t 0)) x
 | .lenS x => W1 σ p (.lenS (.t 0)) x
 | .lenL x => W1 σ p (.lenL (.t 0)) x
 | .lenA n => some (.a (.int .i64 n))
 | .slcS x none none => W1 σ p (.slcS (.t 0) none none) x
 | .slcS x (some l) none => Qk σ p (.slcS (.t 0) (some (.t 1)) none) x l
 | .slcS x none (some h) => Qk σ p (.slcS (.t 0) none (some (.t 1))) x h
 | .slcS x (some l) (some h) => Xr7 σ p (.slcS (.t 0) (some (.t 1)) (some (.t 2))) x l h
 | .slcL z x none none => W1 σ p (.slcL z (.t 0) none none) x
 | .slcL z x (some l) none => Qk σ p (.slcL z (.t 0) (some (.t 1)) none) x l
 | .slcL z x none (some h) => Qk σ p (.slcL z (.t 0) none (some (.t 1))) x h
 | .slcL z x (some l) (some h) => Xr7 σ p (.slcL z (.t 0) (some (.t 1)) (some (.t 2))) x l h
 | .ext x i => W1 σ p (.ext (.t 0) i) x
 | .mki t x => W1 σ p (.mki t (.t 0)) x
 | .tas t z x => W1 σ p (.tas t z (.t 0)) x
 | .eqD ty e x y => Qk σ p (.eqD ty e (.t 0) (.t 1)) x y
 | .aix n z ag x i => Qk σ p (.aix n z ag (.t 0) (.t 1)) x i
 | .bld _ _ => none
 | .mkf _ _ _ => none
def I.lift (fs : List Nat) (σ : Sg) (p : U0) : I → Option E
 | .c x => x.lift σ p
 | .pcall f args => if fs.contains f then (match Xlg σ p args with | some e => some (.call f e) | none => none) else none
 | _ => none

def Xea (σ : Sg) (p : U0) : A → List Nat
 | .t k => match ent σ k with
  | some (q,_) => if q == p then [k] else []
  | none => []
 | _ => []
def Yf1 (σ : Sg) (p : U0) : List A → List Nat
 | [] => []
 | x :: r => Xea σ p x ++ Yf1 σ p r
def C.cons (σ : Sg) (p : U0) : C → List Nat
 | .mv x | .not x | .neg x | .cpl x | .isnil _ x | .pnil _ x | .fnil _ x | .usd x | .cvi _ x | .cvs x | .fldA _ _ x | .fld _ _ _ _ x | .ld _ _ x | .nilc x | .lenS x | .lenL x | .ext x _ | .mki _ x | .tas _ _ x => Xea σ p x
 | .bin _ x y | .mx x y | .beq _ x y | .peq _ x y | .idx x y | .idxA _ x y | .idxP _ _ x y | .eqD _ _ x y | .aix _ _ _ x y => Xea σ p x ++ Xea σ p y
 | .slcS x none none | .slcL _ x none none => Xea σ p x
 | .slcS x (some y) none | .slcL _ x (some y) none | .slcS x none (some y) | .slcL _ x none (some y) => Xea σ p x ++ Xea σ p y
 | .slcS x (some y) (some z) | .slcL _ x (some y) (some z) => Xea σ p x ++ Xea σ p y ++ Xea σ p z
 | .pick (.t g) x y => Xea σ p (.t g) ++ Xea σ (p ++ [(g,true)]) x ++ Xea σ (p ++ [(g,false)]) y
 | _ => []
def I.cons (σ : Sg) (p : U0) : I → List Nat
 | .c x => x.cons σ p
 | .pcall _ args => Yf1 σ p args
 | _ => []
def I.gcons (σ : Sg) (p : U0) : I → List Nat
 | .c (.pick (.t g) _ _) => Xea σ p (.t g)
 | _ => []

section
variable {P : Prg} {T : Tab} {σ : Sg} {sl sl0 : Xb} {ob : Objs} {p : U0}

theorem Xbs {q : U0} (h : q.isPrefixOf p = true) (hp : Xs sl p = true) : Xs sl q = true := by
 rw [List.isPrefixOf_iff_prefix] at h
 obtain ⟨t,rfl⟩ := h
 simp only [Xs,List.all_append,Bool.and_eq_true] at hp ⊢
 exact hp.1
theorem Z9 (hI : Inv T σ sl sl0 ob) (hp : Xs sl p = true) {x : A} {e : E} (h : opE σ p x = some e) : e.val T sl0 ob = x.ev sl := by
 cases x with
 | t k =>
  simp only [opE] at h
  split at h
  ·rename_i q e' he
   split at h
   ·rename_i hq
    cases h
    exact ((hI k q e he).1 (Xbs hq hp)).symm
   ·cases h
  ·cases h
 | _ => simp only [opE] at h; cases h; rfl
theorem Xqg {c : C} {x : A} {e : E} (h : W1 σ p c x = some e) : ∃ ex,e = .u c ex ∧ opE σ p x = some ex := by
 unfold W1 at h; split at h
 ·cases h; exact ⟨_,rfl,by assumption⟩
 ·cases h
theorem Xqh {c : C} {x y : A} {e : E} (h : Qk σ p c x y = some e) : ∃ ex ey,e = .b c ex ey ∧ opE σ p x = some ex ∧ opE σ p y = some ey := by
 unfold Qk at h; split at h
 ·cases h; exact ⟨_,_,rfl,by assumption,by assumption⟩
 ·cases h
theorem Xqi {c : C} {x y z : A} {e : E} (h : Xr7 σ p c x y z = some e) : ∃ ex ey ez,e = .t c ex ey ez ∧ opE σ p x = some ex ∧ opE σ p y = some ey ∧ opE σ p z = some ez := by
 unfold Xr7 at h; split at h
 ·cases h; exact ⟨_,_,_,rfl,by assumption,by assumption,by assumption⟩
 ·cases h
theorem Xh5 {g : Nat} {x y : A} {e : E} (h : Yak σ p g x y = some e) : ∃ ec ex ey,e = .ite ec ex ey ∧ opE σ p (.t g) = some ec ∧ opE σ (p ++ [(g,true)]) x = some ex ∧ opE σ (p ++ [(g,false)]) y = some ey := by
 unfold Yak at h; split at h
 ·cases h; exact ⟨_,_,_,rfl,by assumption,by assumption,by assumption⟩
 ·cases h
theorem Xis (hI : Inv T σ sl sl0 ob) (hp : Xs sl p = true) : ∀ {xs : List A} {e : E},Xlg σ p xs = some e → e.val T sl0 ob = .tup (xs.map (A.ev sl))
 | [],e,h => by simp only [Xlg] at h; cases h; rfl
 | x :: r,e,h => by
  simp only [Xlg] at h
  split at h
  ·rename_i ex er hx hr
   cases h
   simp only [E.val,Z9 hI hp hx,Xis hI hp hr,Xum,List.map_cons]
  ·cases h
theorem Xx4 (x y : V) : Xdt (.d (.bool true)) x y = x := by unfold Xdt; split <;> simp_all
theorem Xx2 (x y : V) : Xdt (.d (.bool false)) x y = y := by unfold Xdt; split <;> simp_all
theorem Xx3 {v : V} (h : ¬ Xc4 v) (x y : V) : Xdt v x y = .any := by unfold Xdt; split <;> simp_all [Xc4]
theorem Xf4 {v : V} (h : Xc4 v) : v = .d (.bool true) ∨ v = .d (.bool false) := by
 unfold Xc4 at h; split at h
 ·rename_i b; cases b <;> simp
 ·exact h.elim

theorem C.lift_sound (hI : Inv T σ sl sl0 ob) (hp : Xs sl p = true) {c : C} {e : E} (h : c.lift σ p = some e) : e.val T sl0 ob = c.val sl ob ∧ (e.ok T sl0 ob → c.ok sl ob) := by
 have l1 : ∀ {c x},W1 σ p c x = some e → ∃ ex,e = .u c ex ∧ ex.val T sl0 ob = x.ev sl := fun h => by
  obtain ⟨ex,rfl,hx⟩ := Xqg h; exact ⟨ex,rfl,Z9 hI hp hx⟩
 have l2 : ∀ {c x y},Qk σ p c x y = some e → ∃ ex ey,e = .b c ex ey ∧ ex.val T sl0 ob = x.ev sl ∧ ey.val T sl0 ob = y.ev sl := fun h => by
  obtain ⟨ex,ey,rfl,hx,hy⟩ := Xqh h; exact ⟨ex,ey,rfl,Z9 hI hp hx,Z9 hI hp hy⟩
 have l3 : ∀ {c x y z},Xr7 σ p c x y z = some e → ∃ ex ey ez,e = .t c ex ey ez ∧ ex.val T sl0 ob = x.ev sl ∧ ey.val T sl0 ob = y.ev sl ∧ ez.val T sl0 ob = z.ev sl := fun h => by
  obtain ⟨ex,ey,ez,rfl,hx,hy,hz⟩ := Xqi h; exact ⟨ex,ey,ez,rfl,Z9 hI hp hx,Z9 hI hp hy,Z9 hI hp hz⟩
 unfold C.lift at h
 split at h
 case h_1 => exact ⟨by rw [Z9 hI hp h]; rfl,fun _ => rfl⟩
 case h_2 g x y =>
  obtain ⟨ec,ex,ey,rfl,hc,hx,hy⟩ := Xh5 h
  have hcv := Z9 hI hp hc
  simp only [A.ev] at hcv
  have hpt : ∀ b,look sl g = .d (.bool b) → Xs sl (p ++ [(g,b)]) = true := fun b hb => by
   simp only [Xs,List.all_append,Bool.and_eq_true] at hp ⊢
   exact ⟨hp,by simp [hb,isB]⟩
  simp only [E.val,E.ok,C.val,C.ok,C.wp,Ygg,hcv]
  by_cases hb : Xc4 (look sl g)
  ·rcases Xf4 hb with hb | hb
   ·have := Z9 hI (hpt true hb) hx
    rw [hb]; simp only [Xx4,Yam,this]; exact ⟨trivial,fun _ => trivial⟩
   ·have := Z9 hI (hpt false hb) hy
    rw [hb]; simp only [Xx2,Yal,this]; exact ⟨trivial,fun _ => trivial⟩
  ·rw [Xx3 hb,Xx3 hb]; exact ⟨rfl,fun h => (hb h.2.1).elim⟩
 case h_26 => cases h; exact ⟨rfl,fun _ => rfl⟩
 all_goals first
  | (cases h; done)
  | (obtain ⟨ex,rfl,hx⟩ := l1 h; simp only [E.val,E.ok,C.val,C.ok,C.wp,Ygg,Xl6,hx,Option.map]; exact ⟨trivial,fun h => h.2⟩)
  | (obtain ⟨ex,ey,rfl,hx,hy⟩ := l2 h; simp only [E.val,E.ok,C.val,C.ok,C.wp,Ygg,Xl6,Xv1,Nat.reduceBEq,hx,hy,Option.map]; exact ⟨trivial,fun h => h.2.2⟩)
  | (obtain ⟨ex,ey,ez,rfl,hx,hy,hz⟩ := l3 h; simp only [E.val,E.ok,C.val,C.ok,C.wp,Ygg,Xl6,Xv1,Nat.reduceBEq,hx,hy,hz,Option.map]; exact ⟨trivial,fun h => h.2.2.2⟩)
end
end Go.Ab
/- Regions folded into expressions: that the fold Xjr what is shown. Over any program; no condition. -/
namespace Go.Ab
open Go

section
variable {P : Prg} {T : Tab} {σ : Sg} {sl sl0 : Xb} {ob : Objs} {p : U0}

theorem Wt {x : A} {k : Nat} {ex : E} (hk : k ∈ Xea σ p x) (h : opE σ p x = some ex) : ent σ k = some (p,ex) := by
 cases x with
 | t j =>
  simp only [Xea] at hk
  simp only [opE] at h
  split at hk
  ·rename_i q e he
   split at hk
   ·rename_i hq
    simp at hk; subst hk
    simp at hq; subst hq
    rw [he] at h
    simp at h
    rw [he,h]
   ·cases hk
  ·cases hk
 | _ => simp [Xea] at hk
theorem Y7 {g : Nat} {b : Bool} : Xs sl (p ++ [(g,b)]) = (Xs sl p && isB b (look sl g)) := by
 simp [Xs,List.all_append]
theorem Xq7 : ∀ {xs : List A} {e : E},Xlg σ p xs = some e → ∀ {k q ek},k ∈ Yf1 σ p xs → ent σ k = some (q,ek) → q = p ∧ (e.ok T sl0 ob → ek.ok T sl0 ob)
 | [],_,_,k,_,_,hk,_ => by simp [Yf1] at hk
 | x :: r,e,h,k,q,ek,hk,he => by
  simp only [Xlg] at h
  split at h
  ·rename_i ex er hx hr
   cases h
   simp only [Yf1,List.mem_append] at hk
   rcases hk with hk | hk
   ·have := Wt hk hx
    rw [he] at this; cases this
    exact ⟨rfl,fun h => h.1⟩
   ·obtain ⟨h1,h2⟩ := Xq7 hr hk he
    exact ⟨h1,fun h => h2 h.2⟩
  ·cases h

theorem C.cov (hI : Inv T σ sl sl0 ob) {c : C} {e : E} (h : c.lift σ p = some e) {k : Nat} {q : U0} {ek : E} (hk : k ∈ c.cons σ p) (he : ent σ k = some (q,ek)) (hq : Xs sl q = true) (ho : Xs sl p = true → e.ok T sl0 ob) : ek.ok T sl0 ob := by
 have l1 : ∀ {c x},W1 σ p c x = some e → k ∈ Xea σ p x → ek.ok T sl0 ob := fun h hk => by
  obtain ⟨ex,rfl,hx⟩ := Xqg h
  have := Wt hk hx
  rw [he] at this; cases this
  exact (ho hq).1
 have l2 : ∀ {c x y},Qk σ p c x y = some e → k ∈ Xea σ p x ++ Xea σ p y → ek.ok T sl0 ob := fun h hk => by
  obtain ⟨ex,ey,rfl,hx,hy⟩ := Xqh h
  rw [List.mem_append] at hk
  rcases hk with hk | hk
  ·have := Wt hk hx
   rw [he] at this; cases this
   exact (ho hq).1
  ·have := Wt hk hy
   rw [he] at this; cases this
   exact (ho hq).2.1
 have l3 : ∀ {c x y z},Xr7 σ p c x y z = some e → k ∈ Xea σ p x ++ Xea σ p y ++ Xea σ p z → ek.ok T sl0 ob := fun h hk => by
  obtain ⟨ex,ey,ez,rfl,hx,hy,hz⟩ := Xqi h
  rw [List.mem_append,List.mem_append] at hk
  rcases hk with (hk | hk) | hk
  ·have := Wt hk hx
   rw [he] at this; cases this
   exact (ho hq).1
  ·have := Wt hk hy
   rw [he] at this; cases this
   exact (ho hq).2.1
  ·have := Wt hk hz
   rw [he] at this; cases this
   exact (ho hq).2.2.1
 unfold C.lift at h
 split at h <;> simp only [C.cons] at hk
 case h_1 =>
  have := Wt hk h
  rw [he] at this; cases this
  exact ho hq
 case h_2 g x y =>
  obtain ⟨ec,ex,ey,rfl,hc,hx,hy⟩ := Xh5 h
  rw [List.mem_append,List.mem_append] at hk
  rcases hk with (hk | hk) | hk
  ·have := Wt hk hc
   rw [he] at this; cases this
   exact (ho hq).1
  ·have := Wt hk hx
   rw [he] at this; cases this
   rw [Y7,Bool.and_eq_true] at hq
   have hv := Z9 hI hq.1 hc
   exact (ho hq.1).2.2.1 (by rw [hv]; exact hq.2)
  ·have := Wt hk hy
   rw [he] at this; cases this
   rw [Y7,Bool.and_eq_true] at hq
   have hv := Z9 hI hq.1 hc
   exact (ho hq.1).2.2.2 (by rw [hv]; exact hq.2)
 all_goals first
  | (cases h; done)
  | exact l1 h hk
  | exact l2 h hk
  | exact l3 h hk
  | (cases hk; done)
theorem I.cov (hI : Inv T σ sl sl0 ob) {fs : List Nat} {i : I} {e : E} (h : i.lift fs σ p = some e) {k : Nat} {q : U0} {ek : E} (hk : k ∈ i.cons σ p) (he : ent σ k = some (q,ek)) (hq : Xs sl q = true) (ho : Xs sl p = true → e.ok T sl0 ob) : ek.ok T sl0 ob := by
 cases i <;> simp only [I.lift] at h <;> simp only [I.cons] at hk
 case c x => exact C.cov hI h hk he hq ho
 case pcall f args =>
  split at h
  ·split at h
   ·rename_i e' ha
    cases h
    obtain ⟨rfl,h2⟩ := Xq7 (T := T) (sl0 := sl0) (ob := ob) ha hk he
    exact h2 (ho hq).1
   ·cases h
  ·cases h
 all_goals cases h
theorem I.gcov {fs : List Nat} {i : I} {e : E} (h : i.lift fs σ p = some e) {k : Nat} {q : U0} {ek : E} (hk : k ∈ i.gcons σ p) (he : ent σ k = some (q,ek)) (hq : Xs sl q = true) (ho : Xs sl p = true → e.ok T sl0 ob) : Xc4 (ek.val T sl0 ob) := by
 unfold I.gcons at hk
 split at hk
 ·rename_i g x y
  simp only [I.lift,C.lift] at h
  obtain ⟨ec,ex,ey,rfl,hc,hx,hy⟩ := Xh5 h
  have := Wt hk hc
  rw [he] at this; cases this
  exact (ho hq).2.1
 ·cases hk
theorem I.lift_sound (hT : TOk P T) (hI : Inv T σ sl sl0 ob) (hp : Xs sl p = true) {fs : List Nat} {i : I} {e : E} (h : i.lift fs σ p = some e) (ho : e.ok T sl0 ob) {KO Pn : V → Objs → Prop} (hK : KO (e.val T sl0 ob) ob) : i.wp P sl ob KO Pn := by
 cases i <;> simp only [I.lift] at h
 case c x =>
  obtain ⟨h1,h2⟩ := C.lift_sound hI hp h
  simp only [I.wp]
  exact C.wp_of (h2 ho) (by rw [← h1]; exact hK)
 case pcall f args =>
  split at h
  ·split at h
   ·rename_i e' ha
    cases h
    have hv := Xis hI hp ha
    simp only [E.ok,E.val,hv] at ho hK
    simp only [I.wp]
    cases hf : Xai T f with
    | none => rw [hf] at ho; exact ho.2.elim
    | some F => rw [hf] at ho hK; exact hT f F hf _ ho.2 _ _ hK
   ·cases h
  ·cases h
 all_goals cases h

theorem Inv.congr {sl' : Xb} (hI : Inv T σ sl sl0 ob) (h : ∀ k,look sl' k = look sl k) : Inv T σ sl' sl0 ob := by
 intro k p e he
 have : Xs sl' p = Xs sl p := by simp only [Xs,h]
 rw [this,h]
 exact hI k p e he

def Uo (d : Nat) (p : U0) : Bool := p.all fun g => g.1 != d
def Xlw (σ : Sg) (d : Nat) : Bool := σ.all fun x => match x.2 with
 | some (p,_) => Uo d p
 | none => true
theorem V5 {d : Nat} {v : V} (h : Uo d p = true) : Xs ((d,v) :: sl) p = Xs sl p := by
 induction p with
 | nil => rfl
 | cons g r ih =>
  simp only [Uo,List.all_cons,Bool.and_eq_true] at h
  simp only [Xs,List.all_cons] at ih ⊢
  have : look ((d,v) :: sl) g.1 = look sl g.1 := by
   have := h.1; simp at this
   have h' : ¬ d = g.1 := fun e => this e.symm
   simp [look,h']
  rw [this,ih h.2]
theorem Xfc : ∀ {σ : Sg} {d k : Nat} {p : U0} {e : E},Xlw σ d = true → Wr σ k = some (some (p,e)) → Uo d p = true
 | [],_,_,_,_,_,h => by simp [Wr] at h
 | (j,x) :: r,d,k,p,e,hg,h => by
  simp only [Xlw,List.all_cons,Bool.and_eq_true] at hg
  simp only [Wr] at h
  split at h
  ·cases h; exact hg.1
  ·exact Xfc (σ := r) hg.2 h
theorem J6 {d k : Nat} {q : U0} {e : E} (hg : Xlw σ d = true) (h : ent σ k = some (q,e)) : Uo d q = true := by
 unfold ent at h
 split at h
 ·cases h; rfl
 ·rename_i x hx; subst h; exact Xfc hg hx

theorem Z5 {k : Nat} {x : Option (U0 × E)} : ent ((k,x) :: σ) k = x := by simp [ent,Wr]
theorem Zg {j k : Nat} {x : Option (U0 × E)} (h : k ≠ j) : ent ((k,x) :: σ) j = ent σ j := by simp [ent,Wr,h]

end
end Go.Ab
/- Regions folded into expressions: the fold itself, and that it Xjr what is shown. Over any program; no condition. -/
namespace Go.Ab
open Go

inductive It2 where
 | chk (p : List (E × Bool)) (e : E)
 | lt (k : Nat) (p : List (E × Bool)) (e : E)
 | op (d : Option Nat) (i : I)
 | gop (p : List (E × Bool)) (d : Option Nat) (i : I)

def Xif (b : Bool) (v : V) : V := if b then v else .undef

def Ud (P : Prg) (T : Tab) (K : Xb → Objs → Prop) (Pn : V → Xb → Objs → Prop) : List It2 → Xb → Objs → Prop
 | [],sl,ob => K sl ob
 | .chk p e :: r,sl,ob => (Zx T sl ob p = true → e.ok T sl ob) ∧ Ud P T K Pn r sl ob
 | .lt k p e :: r,sl,ob => (Zx T sl ob p = true → e.ok T sl ob) ∧ Ud P T K Pn r ((k,Xif (Zx T sl ob p) (e.val T sl ob)) :: sl) ob
 | .op d i :: r,sl,ob => i.wp P sl ob (fun v ob' => Ud P T K Pn r (put sl d v) ob') (fun v ob' => Pn v sl ob')
 | .gop p d i :: r,sl,ob => (Zx T sl ob p = true → i.wp P sl ob (fun v ob' => Ud P T K Pn r (put sl d v) ob') (fun v ob' => Pn v sl ob')) ∧
   (Zx T sl ob p = false → Ud P T K Pn r (put sl d .undef) ob)

def U3 (T : Tab) (sl : Xb) (ob : Objs) : List (Nat × E) → Xb
 | [] => []
 | (k,e) :: r => (k,e.val T sl ob) :: U3 T sl ob r
def W9 (T : Tab) (sl : Xb) (ob : Objs) : List (Nat × E) → Prop
 | [] => True
 | (_,e) :: r => e.ok T sl ob ∧ W9 T sl ob r


def A.slots : A → List Nat
 | .t k => [k]
 | _ => []
def Vo : List A → List Nat
 | [] => []
 | x :: r => x.slots ++ Vo r
def Xfx : Option A → List Nat
 | some x => x.slots
 | none => []
def C.slots : C → List Nat
 | .mv x | .not x | .neg x | .cpl x | .isnil _ x | .pnil _ x | .fnil _ x | .usd x | .cvi _ x | .cvs x | .fldA _ _ x | .fld _ _ _ _ x | .ld _ _ x | .nilc x | .lenS x | .lenL x | .ext x _ | .mki _ x | .tas _ _ x => x.slots
 | .bin _ x y | .mx x y | .beq _ x y | .peq _ x y | .idx x y | .idxA _ x y | .idxP _ _ x y | .eqD _ _ x y | .aix _ _ _ x y => x.slots ++ y.slots
 | .pick x y z => x.slots ++ (y.slots ++ z.slots)
 | .slcS x l h | .slcL _ x l h => x.slots ++ (Xfx l ++ Xfx h)
 | .lenA _ => []
 | .bld _ ps => Vo (ps.map (·.2))
 | .mkf _ a b => Vo a ++ Vo b
def I.slots : I → List Nat
 | .c x => x.slots
 | .box _ x => x.slots
 | .alloc _ _ => []
 | .bls _ _ ps => Vo (ps.map (·.2))
 | .blo _ _ _ ps => Vo (ps.map (·.2))
 | .st _ x y => x.slots ++ y.slots
 | .app _ _ _ x y => x.slots ++ y.slots
 | .appS _ _ x y => x.slots ++ y.slots
 | .call _ l => Vo l
 | .pcall _ l => Vo l
 | .callv x l => x.slots ++ Vo l
 | .panic x => x.slots
 | .b2s x => x.slots
 | .s2b x => x.slots
 | .nilo _ _ x => x.slots
 | .mvf x => x.slots
 | .ldf _ _ x => x.slots
 | .mvg _ _ y x _ => y.slots ++ x.slots
 | .mvn y x _ => y.slots ++ x.slots
 | .cvb x => x.slots
 | .ustr _ x y => x.slots ++ y.slots
 | .mkm r => Xfx r
 | .lkp _ _ _ m k => m.slots ++ k.slots
 | .mset _ m k v => m.slots ++ (k.slots ++ v.slots)
 | .gld _ _ _ _ => []
 | .slg _ _ x => x.slots
 | .blv _ _ _ ps => Vo (ps.map (·.2))
 | .apv _ _ _ x y => x.slots ++ y.slots
 | .gv x => x.slots
 | .ldg _ _ x => x.slots
 | .slb _ _ x lo hi => x.slots ++ (Xfx lo ++ Xfx hi)
 | .cpy _ x y => x.slots ++ y.slots
 | .clr _ _ x => x.slots
 | .gix _ _ _ _ i => i.slots

section
variable {P : Prg} {sl sl' : Xb} {ob : Objs}
theorem A.ev_eq {x : A} (h : ∀ k ∈ x.slots,look sl k = look sl' k) : x.ev sl = x.ev sl' := by
 cases x <;> simp_all [A.ev,A.slots]
theorem Xe8 : ∀ {l : List A},(∀ k ∈ Vo l,look sl k = look sl' k) → l.map (A.ev sl) = l.map (A.ev sl')
 | [],_ => rfl
 | x :: r,h => by
  simp only [Vo,List.mem_append] at h
  simp only [List.map_cons,A.ev_eq (fun k hk => h k (.inl hk)),Xe8 (fun k hk => h k (.inr hk))]
theorem Xe9 {l : Option A} (h : ∀ k ∈ Xfx l,look sl k = look sl' k) : l.map (A.ev sl) = l.map (A.ev sl') := by
 cases l with
 | none => rfl
 | some x => simp only [Option.map_some,A.ev_eq h]
theorem Xi7 : ∀ {l : List (Nat × A)},(∀ k ∈ Vo (l.map (·.2)),look sl k = look sl' k) → (l.map fun x => (x.1,A.ev sl x.2)) = l.map fun x => (x.1,A.ev sl' x.2)
 | [],_ => rfl
 | x :: r,h => by
  simp only [List.map_cons,Vo,List.mem_append] at h
  simp only [List.map_cons,A.ev_eq (fun k hk => h k (.inl hk)),Xi7 (fun k hk => h k (.inr hk))]
theorem C.wp_eq {K : V → Prop} {c : C} (h : ∀ k ∈ c.slots,look sl k = look sl' k) : c.wp sl ob K = c.wp sl' ob K := by
 cases c <;> simp only [C.slots,List.mem_append] at h <;> simp only [C.wp]
 case bld => rw [Xi7 h]
 case mkf => rw [Xe8 (fun k hk => h k (.inl hk)),Xe8 (fun k hk => h k (.inr hk))]
 case pick => rw [A.ev_eq (fun k hk => h k (.inl hk)),A.ev_eq (fun k hk => h k (.inr (.inl hk))),A.ev_eq (fun k hk => h k (.inr (.inr hk)))]
 case slcS => rw [A.ev_eq (fun k hk => h k (.inl hk)),Xe9 (fun k hk => h k (.inr (.inl hk))),Xe9 (fun k hk => h k (.inr (.inr hk)))]
 case slcL => rw [A.ev_eq (fun k hk => h k (.inl hk)),Xe9 (fun k hk => h k (.inr (.inl hk))),Xe9 (fun k hk => h k (.inr (.inr hk)))]
 all_goals first
  | rw [A.ev_eq h]
  | rw [A.ev_eq (fun k hk => h k (.inl hk)),A.ev_eq (fun k hk => h k (.inr hk))]
theorem I.wp_eq {K Pn : V → Objs → Prop} {i : I} (h : ∀ k ∈ i.slots,look sl k = look sl' k) : i.wp P sl ob K Pn = i.wp P sl' ob K Pn := by
 cases i <;> simp only [I.slots,List.mem_append] at h <;> simp only [I.wp]
 case c => rw [C.wp_eq h]
 case bls => rw [Xi7 h]
 case blo => rw [Xi7 h]
 case blv => rw [Xi7 h]
 case call => rw [Xe8 h]
 case pcall => rw [Xe8 h]
 case callv => rw [A.ev_eq (fun k hk => h k (.inl hk)),Xe8 (fun k hk => h k (.inr hk))]
 case mset => rw [A.ev_eq (fun k hk => h k (.inl hk)),A.ev_eq (fun k hk => h k (.inr (.inl hk))),A.ev_eq (fun k hk => h k (.inr (.inr hk)))]
 case slb => rw [A.ev_eq (fun k hk => h k (.inl hk)),Xe9 (fun k hk => h k (.inr (.inl hk))),Xe9 (fun k hk => h k (.inr (.inr hk)))]
 case mkm r =>
  cases r with
  | none => rfl
  | some x => simp only [Xzs,A.ev_eq (x := x) h]
 all_goals first
  | rw [A.ev_eq h]
  | rw [A.ev_eq (fun k hk => h k (.inl hk)),A.ev_eq (fun k hk => h k (.inr hk))]
  | rfl

theorem Xjy {K K' : V → Objs → Prop} {ob : Objs} {E sz : Nat} {p : List Nat} {y x : V} (hk : ∀ v b,K v b → K' v b) (h : Xk5 ob E sz p y K x) : Xk5 ob E sz p y K' x := by
 unfold Xk5 at h; split at h
 ·simp only [Xk5]
  generalize lookO _ _ = o at h ⊢
  unfold Xeq at h; split at h
  ·simp only [Xeq]
   rcases h with h | h
   case inr => exact .inr ⟨h.1,hk _ _ h.2⟩
   refine .inl ⟨h.1,?_⟩
   have h := h.2
   generalize V.set _ _ _ = o at h ⊢
   cases o with
   | none => exact h.elim
   | some t => exact hk _ _ h
  ·exact h.elim
 ·exact h.elim
theorem Xj0 {K K' : V → Objs → Prop} {y x : V} (hk : ∀ v b,K v b → K' v b) : ∀ {l : List (Nat × Nat × List Nat)} {ob : Objs},X39 y K x l ob → X39 y K' x l ob
 | [],_,h => hk _ _ h
 | _ :: _,_,h => Xjy (fun _ _ h => Xj0 hk h) h

theorem I.wp_mono {K K' Pn Pn' : V → Objs → Prop} (hk : ∀ v b,K v b → K' v b) (hp : ∀ v b,Pn v b → Pn' v b) {i : I} (h : i.wp P sl ob K Pn) : i.wp P sl ob K' Pn' := by
 have ho : ∀ o b,Xom K Pn o b → Xom K' Pn' o b := fun o b => by cases o with | ret v => exact hk v b | panic v => exact hp v b
 have bx : ∀ {E v},Xs0 E ob K v → Xs0 E ob K' v := fun h => ⟨h.1,hk _ _ h.2⟩
 have dk : ∀ {KD KD' : List D → Prop},(∀ l,KD l → KD' l) → ∀ o,dK KD o → dK KD' o := fun f o h => by cases o with | none => exact h.elim | some l => exact f l h
 have gv : ∀ (o : Option (D × Objs)),Xjf K o → Xjf K' o := fun o h => by
  cases o with
  | none => exact h.elim
  | some q => exact hk _ _ h
 have ap : ∀ {E sz B ys u},Xei E sz B ob ys K u → Xei E sz B ob ys K' u := fun {E sz B ys u} h => by
  unfold Xei at h; split at h
  ·simp only [Xei]
   generalize lookO _ _ = o at h ⊢
   unfold Xel at h; split at h
   ·obtain ⟨h1,h2,h3,h4,h5⟩ := h
    exact ⟨h1,h2,h3,h4,hk _ _ h5⟩
   ·exact h.elim
  ·exact ⟨h.1,hk _ _ h.2⟩
  ·exact h.elim
 have apv : ∀ {E sz B ys u},Xps E sz B ob ys K u → Xps E sz B ob ys K' u := fun {E sz B ys u} h => by
  unfold Xps at h; split at h
  ·simp only [Xps]
   generalize lookO _ _ = o at h ⊢
   unfold Xem at h; split at h
   ·obtain ⟨h1,h2,h3,h4,h5⟩ := h
    exact ⟨h1,h2,h3,h4,hk _ _ h5⟩
   ·obtain ⟨h1,h2,h3,h4,h5⟩ := h
    exact ⟨h1,h2,h3,h4,hk _ _ h5⟩
   ·exact h.elim
  ·exact ⟨h.1,hk _ _ h.2⟩
  ·exact h.elim
 have bw : ∀ {id p lo n z ys r o},Xzm ob id p lo n z ys r K o → Xzm ob id p lo n z ys r K' o := fun {id p lo n z ys r o} h => by
  unfold Xzm at h; split at h
  ·simp only [Xzm]
   generalize V.at _ _ = o at h ⊢
   unfold Ygc at h; split at h
   ·obtain ⟨h1,h2,h3,t,h4,h5⟩ := h
    exact ⟨h1,h2,h3,t,h4,hk _ _ h5⟩
   ·exact h.elim
  ·exact h.elim
 cases i <;> simp only [I.wp] at h ⊢
 case c x => exact C.wp_mono (fun v => hk v ob) x h
 case box => exact bx h
 case alloc => exact bx h
 case bls => exact Qb (fun _ => dk (fun _ => hk _ _) _) _ _ h
 case blo => exact Qb (fun _ => dk (fun _ h => hk _ _ h) _) _ _ h
 case st x y =>
  generalize A.ev sl x = v at h ⊢
  unfold stK at h; split at h
  ·simp only [stK]
   generalize lookO _ _ = o at h ⊢
   unfold stKo at h; split at h
   ·simp only [stKo]
    generalize V.at _ _ = o at h ⊢
    unfold Xy8 at h; split at h
    ·obtain ⟨h1,h2,h3,t,h4,h5⟩ := h
     exact ⟨h1,h2,h3,t,h4,hk _ _ h5⟩
    ·exact h.elim
   ·exact h.elim
  ·simp only [stK]
   generalize lookO _ _ = o at h ⊢
   unfold Xzv at h; split at h
   ·simp only [Xzv]
    generalize W0 _ _ _ = o at h ⊢
    unfold X27 at h; split at h
    ·refine ⟨h.1,?_⟩
     have h := h.2
     generalize V.at _ _ = o at h ⊢
     unfold Xzw at h; split at h
     ·obtain ⟨h1,h2,h3,t,h4,h5⟩ := h
      exact ⟨h1,h2,h3,t,h4,hk _ _ h5⟩
     ·exact h.elim
    ·exact h.elim
   ·exact h.elim
  ·exact h.elim
 case app x y =>
  generalize A.ev sl y = v at h ⊢
  unfold Xy6 at h; split at h
  ·exact ⟨h.1,ap h.2⟩
  ·exact ap h
  ·exact h.elim
 case blv => exact Qb (fun _ => hk _ _) _ _ h
 case apv x y =>
  generalize A.ev sl y = v at h ⊢
  unfold Ybj at h; split at h
  ·exact ⟨h.1,apv h.2⟩
  ·exact apv h
  ·rcases h with ⟨E,ys,h1,h2,h3,h4⟩ | ⟨E,ys,h1,h2,h4⟩
   ·exact .inl ⟨E,ys,h1,h2,h3,apv h4⟩
   ·exact .inr ⟨E,ys,h1,h2,apv h4⟩
  ·exact h.elim
 case gv x =>
  generalize V.gvF _ _ _ = v at h ⊢
  exact gv _ h
 case slb x lo hi =>
  generalize A.ev sl x = v at h ⊢
  unfold Ybi at h; split at h
  ·simp only [Ybi]
   generalize Zj _ = o at h ⊢
   unfold Xsd at h; split at h
   ·exact ⟨h.1,h.2.1,Xc3 (fun _ _ => hk _ _) h.2.2⟩
   ·exact h.elim
  ·exact h.elim
 case cpy x y =>
  generalize A.ev sl x = v at h ⊢; generalize A.ev sl y = u at h ⊢
  unfold Yge at h; split at h
  ·exact ⟨h.1,bw h.2⟩
  ·exact h.elim
 case clr x =>
  generalize A.ev sl x = v at h ⊢
  unfold Ygd at h; split at h
  ·exact ⟨fun e => ⟨(h.1 e).1,hk _ _ (h.1 e).2⟩,fun e => ⟨(h.2 e).1,bw (h.2 e).2⟩⟩
  ·exact h.elim
 case gix x y =>
  refine ⟨h.1,?_⟩
  have h := h.2
  generalize A.ev sl y = u at h ⊢
  unfold Ygj at h; split at h
  ·exact ⟨h.1,h.2.1,h.2.2.1,hk _ _ h.2.2.2⟩
  ·exact h.elim
 case ldg x =>
  generalize A.ev sl x = v at h ⊢
  unfold X33 at h; split at h
  ·simp only [X33]
   generalize atO _ _ _ = o at h ⊢
   unfold Xr5 at h; split at h
   ·refine ⟨h.1,h.2.1,?_⟩
    have h := h.2.2
    generalize V.gvF _ _ _ = o at h ⊢
    unfold Xr4 at h; split at h
    ·refine ⟨h.1,?_⟩
     have h := h.2
     generalize lookO _ _ = o at h ⊢
     unfold Xvt at h; split at h
     ·obtain ⟨t',h1,h2⟩ := h
      exact ⟨t',h1,hk _ _ h2⟩
     ·exact h.elim
    ·exact h.elim
   ·exact h.elim
  ·exact h.elim
 case appS x y =>
  generalize A.ev sl y = v at h ⊢
  unfold Xh8 at h; split at h
  ·exact ap h
  ·exact h.elim
 case mvf x =>
  generalize V.giv _ _ = v at h ⊢
  exact gv _ h
 case ldf x =>
  generalize A.ev sl x = v at h ⊢
  unfold X2h at h; split at h
  ·simp only [X2h]
   generalize atO _ _ _ = o at h ⊢
   unfold Xl3 at h; split at h
   ·exact ⟨h.1,h.2.1,gv _ h.2.2⟩
   ·exact h.elim
  ·exact h.elim
 case mvg => exact Xjy hk h
 case mvn => exact Xj0 hk h
 case cvb x =>
  generalize A.ev sl x = v at h ⊢
  unfold Xun at h; split at h
  ·simp only [Xun]
   generalize lookO _ _ = o at h ⊢
   unfold Xga at h; split at h
   ·exact ⟨h.1,h.2.1,h.2.2.1,hk _ _ h.2.2.2⟩
   ·exact h.elim
  ·exact h.elim
 case ustr x y =>
  generalize A.ev sl x = v at h ⊢; generalize A.ev sl y = u at h ⊢
  unfold Xbk at h; split at h
  ·simp only [Xbk]
   generalize lookO _ _ = o at h ⊢
   unfold Xau at h; split at h
   ·obtain ⟨h1,h2,h3,h4,h5,h6,s,h7,h8⟩ := h
    exact ⟨h1,h2,h3,h4,h5,h6,s,h7,hk _ _ h8⟩
   ·exact h.elim
  ·exact ⟨h.1,hk _ _ h.2⟩
  ·exact h.elim
 case call => exact h.mono ho
 case pcall => exact h.mono fun v => hk v ob
 case callv x l =>
  generalize A.ev sl x = v at h ⊢
  unfold Qc at h; split at h
  ·exact ⟨h.1,h.2.mono ho⟩
  ·exact ⟨h.1,h.2.mono ho⟩
  ·exact h.elim
 case panic x =>
  generalize A.ev sl x = v at h ⊢
  unfold Xan at h; split at h
  ·exact hp _ _ h
  ·exact hp _ _ h
  ·exact h.elim
 case b2s x =>
  generalize A.ev sl x = v at h ⊢
  unfold Ya5 at h; split at h
  ·obtain ⟨h1,s,h2,h3⟩ := h
   exact ⟨h1,s,h2,hk _ _ h3⟩
  ·exact hk _ _ h
  ·exact h.elim
 case s2b x =>
  generalize A.ev sl x = v at h ⊢
  unfold Ybh at h; split at h
  ·exact hk _ _ h
  ·exact h.elim
 case nilo x =>
  generalize A.ev sl x = v at h ⊢
  unfold Xh2 at h; split at h
  ·exact hk _ _ h
  ·exact h.elim
 case mkm r => exact ⟨h.1,hk _ _ h.2⟩
 case gld => exact ⟨h.1,h.2.1,h.2.2.1,hk _ _ h.2.2.2⟩
 case slg x =>
  generalize A.ev sl x = v at h ⊢
  unfold X52 at h; split at h
  ·simp only [X52]
   generalize atO _ _ _ = o at h ⊢
   unfold Xsf at h; split at h
   ·exact ⟨h.1,h.2.1,hk _ _ h.2.2⟩
   ·exact h.elim
  ·exact h.elim
 case lkp x y =>
  generalize A.ev sl x = v at h ⊢; generalize A.ev sl y = u at h ⊢
  unfold Xv0 at h; split at h
  ·simp only [Xv0]
   generalize lookO _ _ = o at h ⊢
   unfold Xgq at h; split at h
   ·exact ⟨h.1,hk _ _ h.2⟩
   ·exact h.elim
  ·exact ⟨h.1,hk _ _ h.2⟩
  ·exact h.elim
 case mset x y z =>
  generalize A.ev sl x = v at h ⊢; generalize A.ev sl y = u at h ⊢
  unfold Xdl at h; split at h
  ·simp only [Xdl]
   generalize lookO _ _ = o at h ⊢
   unfold Xak at h; split at h
   ·exact ⟨h.1,h.2.1,hk _ _ h.2.2⟩
   ·exact h.elim
  ·exact h.elim
end
end Go.Ab
/- Regions folded into expressions: the fold of a whole region, and that it Xjr what is shown. Over any program; no condition. -/
namespace Go.Ab
open Go

def Xor (σ : Sg) : U0 → U0 → Option (List (E × Bool))
 | _,[] => some []
 | dn,(g,b) :: r => match ent σ g with
  | some (q,e) => if q.isPrefixOf dn then (match Xor σ (dn ++ [(g,b)]) r with | some l => some ((e,b) :: l) | none => none) else none
  | none => none
def Yk7 (σ : Sg) (f : E → E) (k : Nat) : Option It2 := match ent σ k with
 | some (p,e) => match Xor σ [] p with
  | some l => some (.chk l (f e))
  | none => none
 | none => none
def chks (σ : Sg) (f : E → E) : List Nat → Option (List It2)
 | [] => some []
 | k :: r => match Yk7 σ f k,chks σ f r with
  | some c,some l => some (c :: l)
  | _,_ => none
def bw (e : E) : E := .ite e (.a (.bool true)) (.a (.bool true))
def Xe3 (σ : Sg) (k : Nat) : Sg := σ.filter fun x => x.1 != k
def noMen (σ : Sg) (k : Nat) : Bool := σ.all fun x => match x.2 with
 | some (_,e) => !e.men k
 | none => true
def Yeg (σ : Sg) : Bool := σ.all fun x => match x.2 with
 | some (_,e) => !e.rd
 | none => true
def Yc1 (ns : List Nat) (σ : Sg) (k : Nat) (p : U0) : Sg := if ns.contains k || p.isEmpty then Xe3 σ k else (k,some (p,.a (.t k))) :: Xe3 σ k
def Yns (ns : List Nat) (σ : Sg) (k : Nat) : Option (It2 × Sg) := match Wr σ k with
 | some (some (p,e)) => match Xor σ [] p with
  | some l => if noMen (Xe3 σ k) k then some (.lt k l e,Yc1 ns σ k p) else none
  | none => none
 | _ => none
def Yd6 (ns : List Nat) : List Nat → Sg → Option (List It2 × Sg)
 | [],σ => some ([],σ)
 | k :: r,σ => match Yns ns σ k with
  | some (i,σ') => match Yd6 ns r σ' with
   | some (l,σ'') => some (i :: l,σ'')
   | none => none
  | none => none
def kill (lv : List Nat) : Sg → Sg
 | [] => []
 | (k,x) :: r => (if lv.contains k then (k,x) else (k,none)) :: kill lv r
def X2m : List It → List Nat
 | [] => []
 | .op _ i :: r => i.slots ++ X2m r
 | .gop g _ _ i :: r => g :: (i.slots ++ X2m r)
def Ykj (σ : Sg) (s : List Nat) (d : Option Nat) : List Nat := (σ.filter fun x => match x.2 with
 | some (_,e) => s.contains x.1 || e.rd || (match d with | some k => x.1 != k && e.men k | none => false)
 | none => false).map (·.1)
def It.d : It → Option Nat
 | .op d _ => d
 | .gop _ _ d _ => d
def It.i : It → I
 | .op _ i => i
 | .gop _ _ _ i => i
def It.path (σ : Sg) : It → Option (U0 × List Nat)
 | .op _ _ => some ([],[])
 | .gop g b _ _ => match ent σ g with
  | some (q,_) => some (q ++ [(g,b)],[g])
  | none => none
def It.eff (l : List (E × Bool)) : It → It2
 | .op d i => .op d i
 | .gop _ _ d i => .gop l d i
def Yht (σ : Sg) : Option Nat → Sg
 | some k => Xe3 σ k
 | none => σ
def X8y (σ : Sg) (p : U0) : Option Nat → Bool
 | some k => noMen (Xe3 σ k) k && Xlw (Xe3 σ k) k && Uo k p
 | none => true
def Xjr (σ : Sg) : List Nat → Option (List (Nat × E))
 | [] => some []
 | k :: r => match ent σ k,Xjr σ r with
  | some ([],e),some l => some ((k,e) :: l)
  | _,_ => none
def Yf8 (e : E) (k : Nat) (l : List Nat) : List Nat := if e.isA then l else k :: l

def Xah (fs keep pk : List Nat) : List It → Sg → List Nat → List Nat → Option (List It2 × List (Nat × E))
 | [],σ,pe,pg => match chks σ id (pe.filter fun k => !keep.contains k),chks σ bw pg,Xjr σ keep with
  | some c1,some c2,some kp => some (c1 ++ c2,kp)
  | _,_,_ => none
 | it :: r,σ,pe,pg => match it.path σ with
  | none => none
  | some (p,gs) => match it.d,it.i.lift fs σ p with
   | some k,some e => if Xlw (Xe3 σ k) k && Uo k p && !pe.contains k && !(gs ++ pg).contains k then
     Xah fs keep pk r ((k,some (p,e)) :: Xe3 σ k) (Yf8 e k (pe.filter fun j => !(it.i.cons σ p).contains j)) ((gs ++ pg).filter fun j => !(it.i.gcons σ p).contains j)
    else none
   | d,_ => match chks σ id pe,chks σ bw (gs ++ pg) with
    | some c1,some c2 => match Yd6 (it.i.slots ++ (pk ++ keep)) (Ykj (kill (it.i.slots ++ (p.map (·.1) ++ (X2m r ++ keep))) σ) it.i.slots d) (kill (it.i.slots ++ (p.map (·.1) ++ (X2m r ++ keep))) σ) with
     | some (ms,σ2) => match Xor σ2 [] p with
      | some l => if (it.i.slots.all fun k => (Wr σ2 k).isNone) && X8y σ2 p d && Yeg σ2 && (pk.all fun k => (Wr σ2 k).isNone) then
        match Xah fs keep pk r (Yht σ2 d) [] [] with
        | some (t,kp) => some (c1 ++ (c2 ++ (ms ++ (it.eff l :: t))),kp)
        | none => none
       else none
      | none => none
     | none => none
    | _,_ => none

section
variable {P : Prg} {T : Tab} {σ : Sg} {sl sl0 : Xb} {ob : Objs} {p : U0} {K : Xb → Objs → Prop} {Pn : V → Xb → Objs → Prop}

theorem Uq (hI : Inv T σ sl sl0 ob) : ∀ (r dn : U0) (l : List (E × Bool)),Xor σ dn r = some l → Xs sl dn = true → Xs sl r = Zx T sl0 ob l
 | [],dn,l,h,_ => by simp only [Xor] at h; cases h; rfl
 | (g,b) :: r,dn,l,h,hd => by
  simp only [Xor] at h
  split at h
  ·rename_i q e he
   split at h
   ·rename_i hq
    split at h
    ·rename_i l' hl
     cases h
     have hv := (hI g q e he).1 (Xbs hq hd)
     simp only [Xs,Zx,List.all_cons,hv]
     cases hb : isB b (e.val T sl0 ob) with
     | false => rfl
     | true =>
      have := Uq hI r _ l' hl (by rw [Y7,hd,hv,hb]; rfl)
      simpa [Xs,Zx] using this
    ·cases h
   ·cases h
  ·cases h

theorem Y6 (hI : Inv T σ sl sl0 ob) {f : E → E} : ∀ {ks : List Nat} {cs l : List It2},chks σ f ks = some cs → Ud P T K Pn (cs ++ l) sl0 ob →
  (∀ k ∈ ks,∀ p e,ent σ k = some (p,e) → Xs sl p = true → (f e).ok T sl0 ob) ∧ Ud P T K Pn l sl0 ob
 | [],cs,l,h,hr => by simp only [chks] at h; cases h; exact ⟨fun _ h => (by cases h),hr⟩
 | k :: r,cs,l,h,hr => by
  simp only [chks] at h
  split at h
  ·rename_i c l' hc hl
   cases h
   unfold Yk7 at hc
   split at hc
   ·rename_i p e he
    split at hc
    ·rename_i lp hp
     cases hc
     simp only [List.cons_append,Ud] at hr
     obtain ⟨h1,h2⟩ := Y6 hI hl hr.2
     refine ⟨fun j hj q e' he' hq => ?_,h2⟩
     rcases List.mem_cons.mp hj with rfl | hj
     ·rw [he] at he'; cases he'
      exact hr.1 (by rw [← Uq hI _ _ _ hp rfl]; exact hq)
     ·exact h1 j hj q e' he' hq
    ·cases hc
   ·cases hc
  ·cases h

theorem Xby : ∀ {σ : Sg} {k : Nat},Wr (Xe3 σ k) k = none
 | [],_ => rfl
 | (j,x) :: r,k => by
  have ih := Xby (σ := r) (k := k)
  simp only [Xe3] at ih ⊢
  by_cases h : j = k
  ·subst h; simp [ih]
  ·simp [h,Wr,ih]
theorem Xbz {k j : Nat} (h : k ≠ j) : ∀ {σ : Sg},Wr (Xe3 σ k) j = Wr σ j
 | [] => rfl
 | (i,x) :: r => by
  have ih := Xbz h (σ := r)
  simp only [Xe3] at ih ⊢
  by_cases hi : i = k
  ·subst hi; simp [ih,Wr,h]
  ·simp [hi,Wr,ih]
theorem Xe6 {k : Nat} : ent (Xe3 σ k) k = some ([],.a (.t k)) := by simp [ent,Xby]
theorem Zo {k j : Nat} (h : k ≠ j) : ent (Xe3 σ k) j = ent σ j := by simp [ent,Xbz h]
theorem Xfn : ∀ {σ : Sg} {d k : Nat} {p : U0} {e : E},noMen σ d = true → Wr σ k = some (some (p,e)) → e.men d = false
 | [],_,_,_,_,_,h => by simp [Wr] at h
 | (j,x) :: r,d,k,p,e,hg,h => by
  simp only [noMen,List.all_cons,Bool.and_eq_true] at hg
  simp only [Wr] at h
  split at h
  ·cases h; simpa using hg.1
  ·exact Xfn (σ := r) hg.2 h
theorem Xj2 : ∀ {σ : Sg} {k : Nat} {p : U0} {e : E},Yeg σ = true → Wr σ k = some (some (p,e)) → e.rd = false
 | [],_,_,_,_,h => by simp [Wr] at h
 | (j,x) :: r,k,p,e,hg,h => by
  simp only [Yeg,List.all_cons,Bool.and_eq_true] at hg
  simp only [Wr] at h
  split at h
  ·cases h; simpa using hg.1
  ·exact Xj2 (σ := r) hg.2 h
theorem Xqs {k : Nat} {e : E} (hg : Yeg σ = true) (h : ent σ k = some (p,e)) : e.rd = false := by
 unfold ent at h
 split at h
 ·cases h; rfl
 ·rename_i x hx; subst h; exact Xj2 hg hx
theorem Xj1 {d k : Nat} {e : E} (hg : noMen (Xe3 σ d) d = true) (hd : d ≠ k) (h : ent σ k = some (p,e)) : e.men d = false := by
 rw [← Zo hd] at h
 unfold ent at h
 split at h
 ·cases h; simp [E.men,A.men]; exact fun e => hd e.symm
 ·rename_i x hx; subst h; exact Xfn hg hx

theorem Xfl {ns : List Nat} : ∀ {ks : List Nat} {σ σ' : Sg} {sl0 : Xb} {ms l : List It2},Inv T σ sl sl0 ob → Yd6 ns ks σ = some (ms,σ') → Ud P T K Pn (ms ++ l) sl0 ob → ∃ sl0',Inv T σ' sl sl0' ob ∧ Ud P T K Pn l sl0' ob
 | [],σ,σ',sl0,ms,l,hI,h,hr => by simp only [Yd6] at h; cases h; exact ⟨sl0,hI,hr⟩
 | k :: r,σ,σ',sl0,ms,l,hI,h,hr => by
  simp only [Yd6] at h
  split at h
  ·rename_i i σ1 h1
   split at h
   ·rename_i l' σ2 h2
    cases h
    unfold Yns at h1
    split at h1
    ·rename_i p e he
     split at h1
     ·rename_i lp hp
      split at h1
      ·rename_i hm
       cases h1
       simp only [List.cons_append,Ud] at hr
       refine Xfl ?_ h2 hr.2
       have hk := hI k p e (by simp [ent,he])
       have hh := Uq hI _ _ _ hp rfl
       have hdel : ∀ j q e',ent (Xe3 σ k) j = some (q,e') → (Xs sl q = true → look sl j = e'.val T ((k,Xif (Zx T sl0 ob lp) (e.val T sl0 ob)) :: sl0) ob) ∧ (Xs sl q = false → look sl j = .undef) := by
        intro j q e' he'
        by_cases hj : k = j
        ·subst hj
         rw [Xe6] at he'; cases he'
         simp only [Xs,List.all_nil,E.val,A.ev,look,if_true]
         refine ⟨fun _ => ?_,fun h => (by cases h)⟩
         rw [← hh]
         cases hs : Xs sl p with
         | true => rw [hk.1 hs]; rfl
         | false => rw [hk.2 hs]; rfl
        ·rw [Zo hj] at he'
         rw [E.val_sl (Xj1 hm hj he')]
         exact hI j q e' he'
       unfold Yc1
       split
       ·exact hdel
       ·intro j q e' he'
        by_cases hj : k = j
        ·subst hj
         rw [Z5] at he'; cases he'
         simp only [E.val,A.ev,look,if_true]
         rw [← hh]
         exact ⟨fun hs => by rw [hk.1 hs,hs]; rfl,hk.2⟩
        ·rw [Zg hj] at he'
         exact hdel j q e' he'
      ·cases h1
     ·cases h1
    ·cases h1
   ·cases h
  ·cases h

theorem Xqe {lv : List Nat} : ∀ {σ : Sg} {k : Nat} {e : E},ent (kill lv σ) k = some (p,e) → ent σ k = some (p,e)
 | [],_,_,h => h
 | (j,x) :: r,k,e,h => by
  by_cases hj : j = k
  ·subst hj
   rw [Z5]
   simp only [kill] at h
   split at h
   ·rwa [Z5] at h
   ·rw [Z5] at h; cases h
  ·rw [Zg hj]
   simp only [kill] at h
   refine Xqe (lv := lv) (σ := r) ?_
   split at h
   ·rwa [Zg hj] at h
   ·rwa [Zg hj] at h
theorem Inv.kill {lv : List Nat} (hI : Inv T σ sl sl0 ob) : Inv T (kill lv σ) sl sl0 ob := fun k p e h => hI k p e (Xqe h)

theorem Inv.fold' (hI : Inv T σ sl sl0 ob) {k : Nat} {e : E} (hg : Xlw (Xe3 σ k) k = true) (hp : Uo k p = true) {v : V} (h1 : Xs sl p = true → v = e.val T sl0 ob) (h2 : Xs sl p = false → v = .undef) :
  Inv T ((k,some (p,e)) :: Xe3 σ k) ((k,v) :: sl) sl0 ob := by
 intro j q e' he
 by_cases hj : k = j
 ·subst hj
  rw [Z5] at he; cases he
  rw [V5 hp]
  simp only [look,if_true]
  exact ⟨h1,h2⟩
 ·rw [Zg hj] at he
  rw [V5 (J6 hg he)]
  rw [Zo hj] at he
  simp only [look,hj,if_false]
  exact hI j q e' he

theorem Inv.eff (hI : Inv T σ sl sl0 ob) {d : Option Nat} (hf : X8y σ p d = true) (hr : Yeg σ = true) {v : V} {ob' : Objs} : Inv T (Yht σ d) (put sl d v) (put sl0 d v) ob' := by
 cases d with
 | none =>
  intro j q e he
  rw [E.val_ob (ob' := ob) (Xqs hr he)]
  exact hI j q e he
 | some k =>
  simp only [X8y,Bool.and_eq_true] at hf
  intro j q e he
  simp only [put,Yht] at he ⊢
  by_cases hj : k = j
  ·subst hj
   rw [Xe6] at he; cases he
   simp [Xs,E.val,A.ev,look]
  ·have he' := he
   rw [V5 (J6 hf.1.2 he')]
   rw [Zo hj] at he
   rw [E.val_sl (Xj1 hf.1.1 hj he),E.val_ob (ob' := ob) (Xqs hr he)]
   simp only [look,hj,if_false]
   exact hI j q e he
theorem Jl (hI : Inv T σ sl sl0 ob) : ∀ {keep : List Nat} {kp : List (Nat × E)},Xjr σ keep = some kp → U3 T sl0 ob kp = Xe sl keep ∧ (W9 T sl0 ob kp → ∀ k ∈ keep,∀ p e,ent σ k = some (p,e) → e.ok T sl0 ob)
 | [],kp,h => by simp only [Xjr] at h; cases h; exact ⟨rfl,fun _ _ h => (by cases h)⟩
 | k :: r,kp,h => by
  simp only [Xjr] at h
  split at h
  ·rename_i e l he hl
   cases h
   obtain ⟨h1,h2⟩ := Jl hI hl
   refine ⟨by simp only [U3,Xe,h1,(hI k [] e he).1 rfl],fun ho j hj p e' he' => ?_⟩
   rcases List.mem_cons.mp hj with rfl | hj
   ·rw [he] at he'; cases he'; exact ho.1
   ·exact h2 ho.2 j hj p e' he'
  ·cases h

def Xtz (T : Tab) (σ : Sg) (pe pg : List Nat) (sl sl0 : Xb) (ob : Objs) : Prop :=
 (∀ k ∈ pe,∀ p e,ent σ k = some (p,e) → Xs sl p = true → e.ok T sl0 ob) ∧
 (∀ k ∈ pg,∀ p e,ent σ k = some (p,e) → Xs sl p = true → Xc4 (e.val T sl0 ob))

theorem Xkb {fs : List Nat} {i : I} {k : Nat} {e : E} {pe pg : List Nat} {v : V} (hI : Inv T σ sl sl0 ob) (he : i.lift fs σ p = some e) (c1 : Xlw (Xe3 σ k) k = true) (c2 : Uo k p = true) (c3 : k ∉ pe) (c4 : k ∉ pg)
  (h : Xtz T ((k,some (p,e)) :: Xe3 σ k) (Yf8 e k (pe.filter fun j => !(i.cons σ p).contains j)) (pg.filter fun j => !(i.gcons σ p).contains j) ((k,v) :: sl) sl0 ob) :
  Xtz T σ pe pg sl sl0 ob ∧ (Xs sl p = true → e.ok T sl0 ob) := by
 obtain ⟨a1,a2⟩ := h
 have hok : Xs sl p = true → e.ok T sl0 ob := fun hh => by
  cases hA : e.isA with
  | true => cases e <;> simp [E.isA] at hA; trivial
  | false => exact a1 k (by simp [Yf8,hA]) p e Z5 (by rw [V5 c2]; exact hh)
 refine ⟨⟨fun j hj q e' he' hq => ?_,fun j hj q e' he' hq => ?_⟩,hok⟩
 ·by_cases hm : j ∈ i.cons σ p
  ·exact I.cov hI he hm he' hq hok
  ·have hkj : k ≠ j := fun e => c3 (e ▸ hj)
   refine a1 j ?_ q e' (by rw [Zg hkj,Zo hkj]; exact he') ?_
   ·simp only [Yf8]; split <;> simp [hj,hm]
   ·rw [V5]; exact hq
    exact J6 c1 (by rw [Zo hkj]; exact he')
 ·by_cases hm : j ∈ i.gcons σ p
  ·exact I.gcov he hm he' hq hok
  ·have hkj : k ≠ j := fun e => c4 (e ▸ hj)
   refine a2 j ?_ q e' (by rw [Zg hkj,Zo hkj]; exact he') ?_
   ·simp only [List.mem_filter]; exact ⟨hj,by simp [hm]⟩
   ·rw [V5]; exact hq
    exact J6 c1 (by rw [Zo hkj]; exact he')

theorem Xx1 {fs keep pk : List Nat} : ∀ (its : List It) {σ : Sg} {pe pg : List Nat} {sl sl0 : Xb} {ob : Objs} {l : List It2} {kp : List (Nat × E)},Inv T σ sl sl0 ob → Xah fs keep pk its σ pe pg = some (l,kp) →
  Ud P T (fun sl ob => W9 T sl ob kp ∧ K (U3 T sl ob kp) ob) Pn l sl0 ob → Xtz T σ pe pg sl sl0 ob
 | [],σ,pe,pg,sl,sl0,ob,l,kp,hI,h,hr => by
  simp only [Xah] at h
  split at h
  ·rename_i c1 c2 kp' h1 h2 h3
   cases h
   obtain ⟨a1,hr⟩ := Y6 hI h1 hr
   obtain ⟨a2,hr⟩ := Y6 hI (l := []) h2 (by simpa using hr)
   simp only [Ud] at hr
   obtain ⟨_,a3⟩ := Jl hI h3
   refine ⟨fun k hk p e he hp => ?_,fun k hk p e he hp => (a2 k hk p e he hp).2.1⟩
   by_cases hm : k ∈ keep
   ·exact a3 hr.1 k hm p e he
   ·exact a1 k (by simp [hk,hm]) p e he hp
  ·cases h
 | it :: r,σ,pe,pg,sl,sl0,ob,l,kp,hI,h,hr => by
  simp only [Xah] at h
  split at h
  ·cases h
  ·rename_i p gs hp
   split at h
   ·rename_i k e hd he
    split at h
    ·rename_i hc
     simp only [Bool.and_eq_true,Bool.not_eq_true',List.contains_eq_mem,decide_eq_false_iff_not] at hc
     obtain ⟨⟨⟨c1,c2⟩,c3⟩,c4⟩ := hc
     have hI' := hI.fold' (e := e) c1 c2 (v := Xif (Xs sl p) (e.val T sl0 ob)) (fun h => by rw [h]; rfl) (fun h => by rw [h]; rfl)
     obtain ⟨a,_⟩ := Xkb hI he c1 c2 c3 c4 (Xx1 r hI' h hr)
     exact ⟨a.1,fun j hj => a.2 j (List.mem_append.mpr (.inr hj))⟩
    ·cases h
   ·split at h
    ·rename_i c1 c2 h1 h2
     split at h
     ·split at h
      ·split at h
       ·split at h
        ·cases h
         obtain ⟨a1,hr⟩ := Y6 hI h1 hr
         obtain ⟨a2,hr⟩ := Y6 hI h2 hr
         exact ⟨a1,fun k hk p e he hp => (a2 k (List.mem_append.mpr (.inr hk)) p e he hp).2.1⟩
        ·cases h
       ·cases h
      ·cases h
     ·cases h
    ·cases h
end
end Go.Ab
/- Statements X5y folded regions. Over any program; no condition. -/
namespace Go.Ab
open Go

theorem Xqc {sl sl' : Xb} : ∀ {ks : List Nat},(∀ k ∈ ks,look sl k = look sl' k) → Xe sl ks = Xe sl' ks
 | [],_ => rfl
 | k :: r,h => by simp only [Xe]; rw [h k (by simp),Xqc (fun j hj => h j (by simp [hj]))]

theorem Y2 {P : Prg} {T : Tab} (hT : TOk P T) {fs keep pk : List Nat} {K K' : Xb → Objs → Prop} {Pn Pn' : V → Xb → Objs → Prop} (hK : ∀ s o,K s o → K' s o) (hP : ∀ v s o,Pn v s o → Pn' v s o) :
  ∀ (its : List It) {σ : Sg} {pe pg : List Nat} {sl sl0 : Xb} {ob : Objs} {l : List It2} {kp : List (Nat × E)},Inv T σ sl sl0 ob → Xah fs keep pk its σ pe pg = some (l,kp) →
  Ud P T (fun sl ob => W9 T sl ob kp ∧ K (U3 T sl ob kp) ob) (fun v sl ob => Pn v (Xe sl pk) ob) l sl0 ob → rwp P (fun sl ob => K' (Xe sl keep) ob) (fun v sl ob => Pn' v (Xe sl pk) ob) its sl ob
 | [],σ,pe,pg,sl,sl0,ob,l,kp,hI,h,hr => by
  simp only [Xah] at h
  split at h
  ·rename_i c1 c2 kp' h1 h2 h3
   cases h
   obtain ⟨_,hr⟩ := Y6 hI h1 hr
   obtain ⟨_,hr⟩ := Y6 hI (l := []) h2 (by simpa using hr)
   simp only [Ud] at hr
   simp only [rwp]
   rw [← (Jl hI h3).1]
   exact hK _ _ hr.2
  ·cases h
 | it :: r,σ,pe,pg,sl,sl0,ob,l,kp,hI,h,hr => by
  simp only [Xah] at h
  split at h
  ·cases h
  ·rename_i p gs hp
   split at h
   ·rename_i k e hd he
    split at h
    ·rename_i hc
     simp only [Bool.and_eq_true,Bool.not_eq_true',List.contains_eq_mem,decide_eq_false_iff_not] at hc
     obtain ⟨⟨⟨c1,c2⟩,c3⟩,c4⟩ := hc
     have go : ∀ v,(Xs sl p = true → v = e.val T sl0 ob) → (Xs sl p = false → v = .undef) → rwp P (fun sl ob => K' (Xe sl keep) ob) (fun v sl ob => Pn' v (Xe sl pk) ob) r ((k,v) :: sl) ob :=
      fun v h1 h2 => Y2 hT hK hP r (hI.fold' (e := e) c1 c2 h1 h2) h hr
     have hI' := hI.fold' (e := e) c1 c2 (v := Xif (Xs sl p) (e.val T sl0 ob)) (fun h => by rw [h]; rfl) (fun h => by rw [h]; rfl)
     obtain ⟨a,hok⟩ := Xkb hI he c1 c2 c3 c4 (Xx1 r hI' h hr)
     cases it with
     | op d i =>
      simp only [It.d] at hd; subst hd
      simp only [It.path] at hp; cases hp
      simp only [rwp]
      exact I.lift_sound hT hI rfl he (hok rfl) (go _ (fun _ => rfl) (fun h => by cases h))
     | gop g b d i =>
      simp only [It.d] at hd; subst hd
      simp only [It.path] at hp
      split at hp
      ·rename_i q eg hg
       cases hp
       simp only [rwp]
       cases hq : Xs sl q with
       | false =>
        rw [(hI g q eg hg).2 hq]
        simp only [gdK]
        exact go _ (fun h => by rw [Y7,hq] at h; cases h) (fun _ => rfl)
       | true =>
        have hv := (hI g q eg hg).1 hq
        have hb := a.2 g (by simp) q eg hg hq
        have hcg : ∀ j,look ((g,look sl g) :: sl) j = look sl j := fun j => by
         simp only [look]; split
         ·rename_i e; rw [e]
         ·rfl
        have main : ∀ t,look sl g = .d (.bool t) → gdK g b sl (fun sl => I.wp P sl ob (fun v ob' => rwp P (fun sl ob => K' (Xe sl keep) ob) (fun v sl ob => Pn' v (Xe sl pk) ob) r (put sl (some k) v) ob') (fun v ob' => Pn' v (Xe sl pk) ob') i) (fun sl => rwp P (fun sl ob => K' (Xe sl keep) ob) (fun v sl ob => Pn' v (Xe sl pk) ob) r (put sl (some k) .undef) ob) (look sl g) := by
         intro t ht
         rw [ht]
         simp only [gdK]
         have hh : ∀ u,t = u → Inv T σ ((g,.d (.bool u)) :: sl) sl0 ob := fun u e => by
          subst e; rw [← ht]; exact hI.congr hcg
         have hs : ∀ u,t = u → ∀ p,Xs ((g,.d (.bool u)) :: sl) p = Xs sl p := fun u e p => by
          subst e; rw [← ht]; simp only [Xs,hcg]
         refine ⟨fun e1 => ?_,fun e1 => ?_⟩
         ·have hp1 : Xs sl (q ++ [(g,b)]) = true := by rw [Y7,hq,ht,e1]; simp [isB]
          refine I.lift_sound hT (hh _ e1) (by rw [hs _ e1]; exact hp1) he (hok hp1) ?_
          refine Y2 hT hK hP r ((hh _ e1).fold' (e := e) c1 c2 (fun _ => rfl) (fun h => ?_)) h hr
          rw [hs _ e1,hp1] at h; cases h
         ·have hp1 : Xs sl (q ++ [(g,b)]) = false := by rw [Y7,hq,ht,e1]; cases b <;> simp [isB]
          refine Y2 hT hK hP r ((hh _ e1).fold' (e := e) c1 c2 (fun h => ?_) (fun _ => rfl)) h hr
          rw [hs _ e1,hp1] at h; cases h
        rcases Xf4 hb with hb | hb
        ·exact main true (by rw [hv,hb])
        ·exact main false (by rw [hv,hb])
      ·cases hp
    ·cases h
   ·rename_i d x hd hx
    split at h
    ·rename_i c1 c2 h1 h2
     split at h
     ·rename_i ms σ2 hm
      split at h
      ·rename_i lp hl
       split at h
       ·rename_i hc
        simp only [Bool.and_eq_true,List.all_eq_true,Option.isNone_iff_eq_none] at hc
        obtain ⟨⟨⟨d1,d2⟩,d3⟩,d4⟩ := hc
        split at h
        ·rename_i t kp' ht
         cases h
         obtain ⟨_,hr⟩ := Y6 hI h1 hr
         obtain ⟨a2,hr⟩ := Y6 hI h2 hr
         obtain ⟨sl1,hI1,hr⟩ := Xfl hI.kill hm hr
         have hlook : ∀ {s},Inv T σ2 s sl1 ob → ∀ k,Wr σ2 k = none → look s k = look sl1 k := fun hI k hk => (hI k [] (.a (.t k)) (by simp [ent,hk])).1 rfl
         have hkeep : ∀ {s},Inv T σ2 s sl1 ob → Xe s pk = Xe sl1 pk := fun {s} hI => by
          exact Xqc fun k hk => hlook hI k (d4 k hk)
         have step : ∀ {s},Inv T σ2 s sl1 ob → it.i.wp P sl1 ob (fun v ob' => Ud P T (fun sl ob => W9 T sl ob kp ∧ K (U3 T sl ob kp) ob) (fun v sl ob => Pn v (Xe sl pk) ob) t (put sl1 it.d v) ob') (fun v ob' => Pn v (Xe sl1 pk) ob') →
           it.i.wp P s ob (fun v ob' => rwp P (fun sl ob => K' (Xe sl keep) ob) (fun v sl ob => Pn' v (Xe sl pk) ob) r (put s it.d v) ob') (fun v ob' => Pn' v (Xe s pk) ob') := fun {s} hI h => by
          rw [I.wp_eq (sl' := sl1) (fun k hk => hlook hI k (d1 k hk))]
          refine I.wp_mono (fun v b hv => ?_) (fun v b hv => ?_) h
          ·exact Y2 hT hK hP r (hI.eff d2 d3) ht hv
          ·rw [hkeep hI]; exact hP _ _ _ hv
         cases it with
         | op d' i =>
          simp only [It.eff,Ud] at hr
          simp only [rwp]
          exact step hI1 hr
         | gop g b d' i =>
          simp only [It.eff,Ud] at hr
          simp only [It.path] at hp
          split at hp
          ·rename_i q eg hg
           cases hp
           have hh := Uq hI1 _ _ _ hl rfl
           have none' : ∀ {s},Inv T σ2 s sl1 ob → Xs sl (q ++ [(g,b)]) = false → rwp P (fun sl ob => K' (Xe sl keep) ob) (fun v sl ob => Pn' v (Xe sl pk) ob) r (put s d' .undef) ob := fun {s} hI hf =>
            Y2 hT hK hP r (hI.eff d2 d3) ht (hr.2 (by rw [← hh]; exact hf))
           simp only [rwp]
           cases hq : Xs sl q with
           | false =>
            rw [(hI g q eg hg).2 hq]
            simp only [gdK]
            exact none' hI1 (by rw [Y7,hq]; rfl)
           | true =>
            have hv := (hI g q eg hg).1 hq
            have hb := (a2 g (by simp) q eg hg hq).2.1
            have hcg : ∀ j,look ((g,look sl g) :: sl) j = look sl j := fun j => by
             simp only [look]; split
             ·rename_i e; rw [e]
             ·rfl
            have main : ∀ u,look sl g = .d (.bool u) → gdK g b sl (fun sl => I.wp P sl ob (fun v ob' => rwp P (fun sl ob => K' (Xe sl keep) ob) (fun v sl ob => Pn' v (Xe sl pk) ob) r (put sl d' v) ob') (fun v ob' => Pn' v (Xe sl pk) ob') i) (fun sl => rwp P (fun sl ob => K' (Xe sl keep) ob) (fun v sl ob => Pn' v (Xe sl pk) ob) r (put sl d' .undef) ob) (look sl g) := by
             intro u hu
             rw [hu]
             simp only [gdK]
             have hh2 : ∀ w,u = w → Inv T σ2 ((g,.d (.bool w)) :: sl) sl1 ob := fun w e => by
              subst e; rw [← hu]; exact hI1.congr hcg
             refine ⟨fun e1 => ?_,fun e1 => ?_⟩
             ·exact step (hh2 _ e1) (hr.1 (by rw [← hh,Y7,hq,hu,e1]; simp [isB]))
             ·exact none' (hh2 _ e1) (by rw [Y7,hq,hu,e1]; cases b <;> simp [isB])
            rcases Xf4 hb with hb | hb
            ·exact main true (by rw [hv,hb])
            ·exact main false (by rw [hv,hb])
          ·cases hp
        ·cases h
       ·cases h
      ·cases h
     ·cases h
    ·cases h

theorem Xp8 {P : Prg} {n n' : Xb → Objs → Prop} {Pn Pn' : V → Xb → Objs → Prop} (hn : ∀ sl ob,n sl ob → n' sl ob) (hp : ∀ v sl ob,Pn v sl ob → Pn' v sl ob) : ∀ (x : It) (sl : Xb) (ob : Objs),itK P n Pn x sl ob → itK P n' Pn' x sl ob
 | .op d i,sl,ob,h => by
  simp only [itK] at h ⊢
  exact I.wp_mono (fun _ _ h => hn _ _ h) (fun _ _ h => hp _ _ _ h) h
 | .gop s want d i,sl,ob,h => by
  simp only [itK] at h ⊢
  generalize look sl s = v at h ⊢
  unfold gdK at h; split at h
  ·exact ⟨fun e => I.wp_mono (fun _ _ h => hn _ _ h) (fun _ _ h => hp _ _ _ h) (h.1 e),fun e => hn _ _ (h.2 e)⟩
  ·exact hn _ _ h
  ·exact h.elim
mutual
theorem Xh4 {P : Prg} {K K' : Xb → Objs → Prop} {Pn Pn' : V → Xb → Objs → Prop} (hk : ∀ sl ob,K sl ob → K' sl ob) (hp : ∀ v sl ob,Pn v sl ob → Pn' v sl ob) : ∀ (t : Ot) (sl : Xb) (ob : Objs),owp P K Pn t sl ob → owp P K' Pn' t sl ob
 | .done,sl,ob,h => by simp only [owp] at h ⊢; exact hk _ _ h
 | .one _ x r,sl,ob,h => by simp only [owp] at h ⊢; exact Xp8 (fun sl ob h => Xh4 hk hp r sl ob h) hp x sl ob h
 | .br l,sl,ob,h => by simp only [owp] at h ⊢; exact Xj5 hk hp l sl ob h
theorem Xj5 {P : Prg} {K K' : Xb → Objs → Prop} {Pn Pn' : V → Xb → Objs → Prop} (hk : ∀ sl ob,K sl ob → K' sl ob) (hp : ∀ v sl ob,Pn v sl ob → Pn' v sl ob) : ∀ (t : Ots) (sl : Xb) (ob : Objs),Xin P K Pn t sl ob → Xin P K' Pn' t sl ob
 | .nil,sl,ob,h => by simp only [Xin]
 | .cons _ x r l,sl,ob,h => by
  simp only [Xin] at h ⊢
  exact ⟨Xp8 (fun sl ob h => Xh4 hk hp r sl ob h) hp x sl ob h.1,Xj5 hk hp l sl ob h.2⟩
end

inductive S2 where
 | rg (l : List It2) (keep : List (Nat × E)) (pk : List Nat)
 | rgT (t : Ot) (keep pk : List Nat)
 | seq (a b : S2)
 | skip
 | cond (c : A) (a b : S2)
 | block (n : Nat) (a : S2)
 | loop (keep : List Nat) (a : S2)
 | exit (n : Nat)
 | ret

def Zc (P : Prg) (T : Tab) : S2 → Vx → Xb → Objs → Prop
 | .rg l keep pk,Q,sl,ob => Ud P T (fun sl ob => W9 T sl ob keep ∧ Q .normal (U3 T sl ob keep) ob) (fun v sl ob => Q (.panic v) (Xe sl pk) ob) l sl ob
 | .rgT t keep pk,Q,sl,ob => owp P (fun sl ob => Q .normal (Xe sl keep) ob) (fun v sl ob => Q (.panic v) (Xe sl pk) ob) t sl ob
 | .seq a b,Q,sl,ob => Zc P T a (Vi (Zc P T b Q) Q) sl ob
 | .skip,Q,sl,ob => Q .normal sl ob
 | .cond c a b,Q,sl,ob => Xa4 (Zc P T a Q sl ob) (Zc P T b Q sl ob) (c.ev sl)
 | .block n a,Q,sl,ob => Zc P T a (Zn n Q) sl ob
 | .loop keep a,Q,sl,ob => ALoop keep (Zc P T a) Q sl ob
 | .exit n,Q,sl,ob => Q (.exit n) sl ob
 | .ret,Q,sl,ob => Q .ret sl ob

def S.lift (fs : List Nat) : S → Option S2
 | .rg _ l keep pk => match Xah fs keep pk l [] [] [] with
  | some (l,kp) => some (.rg l kp pk)
  | none => none
 | .rgT _ t keep pk => some (.rgT t keep pk)
 | .seq a b => match a.lift fs,b.lift fs with
  | some a,some b => some (.seq a b)
  | _,_ => none
 | .skip => some .skip
 | .cond c a b => match a.lift fs,b.lift fs with
  | some a,some b => some (.cond c a b)
  | _,_ => none
 | .block n a => match a.lift fs with
  | some a => some (.block n a)
  | none => none
 | .loop keep a => match a.lift fs with
  | some a => some (.loop keep a)
  | none => none
 | .exit n => some (.exit n)
 | .ret => some .ret

theorem S.lift_sound {P : Prg} {T : Tab} (hT : TOk P T) {fs : List Nat} : ∀ (s : S) {s2 : S2} {Q Q' : Vx} {sl : Xb} {ob : Objs},s.lift fs = some s2 → (∀ e sl ob,Q e sl ob → Q' e sl ob) → Zc P T s2 Q sl ob → cwp P s Q' sl ob
 | .rg o l keep pk,s2,Q,Q',sl,ob,h,hQ,hc => by
  simp only [S.lift] at h
  split at h
  ·rename_i l' kp hl
   cases h
   simp only [Zc] at hc
   simp only [cwp]
   exact Y2 hT (K := fun sl ob => Q .normal sl ob) (Pn := fun v sl ob => Q (.panic v) sl ob) (fun _ _ h => hQ _ _ _ h) (fun _ _ _ h => hQ _ _ _ h) l
    (fun k p e h => by simp [ent,Wr] at h; obtain ⟨rfl,rfl⟩ := h; exact ⟨fun _ => rfl,fun h => by cases h⟩) hl hc
  ·cases h
 | .rgT n t keep pk,s2,Q,Q',sl,ob,h,hQ,hc => by
  simp only [S.lift] at h
  cases h
  simp only [Zc] at hc
  simp only [cwp]
  exact Xh4 (fun _ _ h => hQ _ _ _ h) (fun _ _ _ h => hQ _ _ _ h) t sl ob hc
 | .seq a b,s2,Q,Q',sl,ob,h,hQ,hc => by
  simp only [S.lift] at h
  split at h
  ·rename_i a' b' ha hb
   cases h
   simp only [Zc] at hc
   simp only [cwp]
   refine S.lift_sound hT a ha (fun e sl ob h => ?_) hc
   cases e with
   | normal => exact S.lift_sound hT b hb hQ h
   | _ => exact hQ _ _ _ h
  ·cases h
 | .skip,s2,Q,Q',sl,ob,h,hQ,hc => by simp only [S.lift] at h; cases h; exact hQ _ _ _ hc
 | .cond c a b,s2,Q,Q',sl,ob,h,hQ,hc => by
  simp only [S.lift] at h
  split at h
  ·rename_i a' b' ha hb
   cases h
   simp only [Zc] at hc
   simp only [cwp]
   generalize c.ev sl = v at hc ⊢
   unfold Xa4 at hc; split at hc
   ·exact ⟨fun e => S.lift_sound hT a ha hQ (hc.1 e),fun e => S.lift_sound hT b hb hQ (hc.2 e)⟩
   ·exact hc.elim
  ·cases h
 | .block n a,s2,Q,Q',sl,ob,h,hQ,hc => by
  simp only [S.lift] at h
  split at h
  ·rename_i a' ha
   cases h
   simp only [Zc] at hc
   simp only [cwp]
   refine S.lift_sound hT a ha (fun e sl ob h => ?_) hc
   cases e with
   | exit m =>
    simp only [Zn] at h ⊢
    split
    ·rename_i e; rw [if_pos e] at h; exact hQ _ _ _ h
    ·rename_i e; rw [if_neg e] at h; exact hQ _ _ _ h
   | _ => exact hQ _ _ _ h
  ·cases h
 | .loop keep a,s2,Q,Q',sl,ob,h,hQ,hc => by
  simp only [S.lift] at h
  split at h
  ·rename_i a' ha
   cases h
   simp only [Zc] at hc
   simp only [cwp]
   obtain ⟨ι,S,O,I,μ,i0,h1,h2,h3,h4⟩ := hc.run
   refine ⟨⟨ι,S,O,I,μ,i0,h1,h2,h3,fun i hi => S.lift_sound hT a ha (fun e sl ob h => ?_) (h4 i hi)⟩⟩
   cases e with
   | normal => exact h
   | _ => exact hQ _ _ _ h
  ·cases h
 | .exit n,s2,Q,Q',sl,ob,h,hQ,hc => by simp only [S.lift] at h; cases h; exact hQ _ _ _ hc
 | .ret,s2,Q,Q',sl,ob,h,hQ,hc => by simp only [S.lift] at h; cases h; exact hQ _ _ _ hc
end Go.Ab
/- The equations by which folded statements are walked. Over any program; no condition. -/
namespace Go.Ab
open Go

theorem pcall_lift {P : Prg} {p : Program} (hP : P.p = p) (hm : p.follows .mixedOrders = true) {f : Nat} {s : S} {rs : List RV} {ds : List D} {ob0 : Objs} {K : V → Prop} {fs : List Nat} {s2 : S2} {T : Tab} (hc : Yf p f ds.length s rs = true) (hl : s.lift fs = some s2) (hT : TOk P T)
  (h : Zc P T s2 (Xca rs K) (Ju 0 (ds.map .d)) []) : PCall P f (ds.map .d) ob0 K :=
 X2w hP hm hc (S.lift_sound hT s hl (fun _ _ _ h => h) h)

theorem acall_lift {P : Prg} {p : Program} (hP : P.p = p) (hm : p.follows .mixedOrders = true) {f : Nat} {s : S} {rs : List RV} {vs : List V} {ob : Objs} {K : Out → Objs → Prop} {fs : List Nat} {s2 : S2} {T : Tab} (hc : Yf p f vs.length s rs = true) (hl : s.lift fs = some s2) (hT : TOk P T)
  (h : (∀ kp,V.mens (young (fresh ob) kp) vs = false) → (∀ kp,noMenO (young (fresh ob) kp) ob = true) → Zc P T s2 (V2 (fresh ob) rs K) (Ju 0 vs) ob) : ACall P f vs ob K :=
 ACall.of_wf fun h1 h2 => by subst hP; exact Xey hm hc (S.lift_sound hT s hl (fun _ _ _ h => h) (h h1 h2))

def PFn (P : Prg) (f : Nat) (F : Fn) : Prop := ∀ vs,F.pre vs → ∀ (ob : Objs) (K : V → Prop),K (F.val vs) → PCall P f vs ob K
theorem TOk.nil {P : Prg} : TOk P [] := fun f F h => by simp [Xai] at h
theorem TOk.cons {P : Prg} {T : Tab} {f : Nat} {F : Fn} (h : PFn P f F) (hT : TOk P T) : TOk P ((f,F) :: T) := fun g G hg => by
 simp only [Xai] at hg
 split at hg
 ·rename_i e; subst e; cases hg; exact h
 ·exact hT g G hg

def Ygm (v : V) : Prop := Xxt (fun w => w = Yag v) v
def mxS (u v : V) : Prop := mxK (fun w => w = mxV u v) u v
def X3k (o : BinOp) (u v : V) : Prop := Xpt o (fun w => w = X70 o u v) u v
def Xfd (e : Bool) (v : V) : Prop := V6 e (fun w => w = Xad e v) v
def Xrw (e : Bool) (v : V) : Prop := Xa9 e (fun w => w = Xgh e v) v
def Ybl (ob : Objs) (v : V) : Prop := Xsv ob (fun w => w = Yay v) v
def Ygf (k : IntKind) (v : V) : Prop := Xuo k (fun w => w = X8k k v) v
def idxS (u v : V) : Prop := Xzq (fun w => w = Ycv u v) u v
def Xjk (ob : Objs) (z : Nat) (u v : V) : Prop := Jk ob z (fun w => w = Xjl z u v) u v
def Xl1 (ob : Objs) (n z : Nat) (u v : V) : Prop := Xb9 ob n z (fun w => w = Xgm u v) u v
def Qh (ob : Objs) (f fo : Nat) (v : V) : Prop := U2 ob f fo (fun w => w = Yo f fo v) v
def Ygi (f fo n : Nat) (ag : Bool) (v : Option (List V)) : Prop := Xzn f fo n ag (fun w => w = Ya9 f v) v
def ldS (ob : Objs) (n : Nat) (ag : Bool) (v : V) : Prop := ldK ob n ag (fun w => w = ldV ob v) v
def Jo (v : V) : Prop := U5 (fun w => w = v) v
def X2j (v : V) : Prop := Xdi (fun w => w = Xl4 v) v
def Xgo (ob : Objs) (v : V) : Prop := Xaf ob (fun w => w = Xep v) v
def Xcd (l h : Option V) (v : V) : Prop := Xev l h (fun w => w = Xat l h v) v
def X23 (z : Nat) (l h : Option V) (v : V) : Prop := Xeu z l h (fun w => w = Xse l h v) v
def Ygh (i : Nat) (v : V) : Prop := Xp0 i (fun w => w = Ya8 i v) v
def Ygp (t : Nat) (z : D) (v : V) : Prop := X3a t z (fun w => w = X55 t z v) v

section
variable (P : Prg) (T : Tab) (sl : Xb) (ob : Objs) (x y z : E) (a : A) (u v w : V) (k j n m : Nat) (b c : Bool) (kd kd' : IntKind) (i i' : Int) (s s' : List UInt8) (xs : List D) (vs : List V) (d : D) (o : BinOp) (p : List Nat)
-- what expressions yield
@[simp] theorem v_a : E.val T sl ob (.a a) = a.ev sl := by simp only [E.val]
@[simp] theorem v_ite : E.val T sl ob (.ite x y z) = Xdt (x.val T sl ob) (y.val T sl ob) (z.val T sl ob) := by simp only [E.val]
@[simp] theorem v_call : E.val T sl ob (.call k x) = X0u (Xai T k) (x.val T sl ob) := by simp only [E.val]
@[simp] theorem v_nil : E.val T sl ob .nil = .tup [] := by simp only [E.val]
@[simp] theorem v_cons : E.val T sl ob (.cons x y) = Xum (x.val T sl ob) (y.val T sl ob) := by simp only [E.val]
@[simp] theorem v_not : E.val T sl ob (.u (.not (.t 0)) x) = Yag (x.val T sl ob) := by simp [E.val,C.val]
@[simp] theorem v_mx : E.val T sl ob (.b (.mx (.t 0) (.t 1)) x y) = mxV (x.val T sl ob) (y.val T sl ob) := by simp [E.val,C.val]
@[simp] theorem v_bin : E.val T sl ob (.b (.bin o (.t 0) (.t 1)) x y) = X70 o (x.val T sl ob) (y.val T sl ob) := by simp [E.val,C.val]
@[simp] theorem v_isnil : E.val T sl ob (.u (.isnil b (.t 0)) x) = Xad b (x.val T sl ob) := by simp [E.val,C.val]
@[simp] theorem v_fnil : E.val T sl ob (.u (.fnil b (.t 0)) x) = Xgh b (x.val T sl ob) := by simp [E.val,C.val]
@[simp] theorem v_usd : E.val T sl ob (.u (.usd (.t 0)) x) = Yay (x.val T sl ob) := by simp [E.val,C.val]
@[simp] theorem v_cvi : E.val T sl ob (.u (.cvi kd (.t 0)) x) = X8k kd (x.val T sl ob) := by simp [E.val,C.val]
@[simp] theorem v_idx : E.val T sl ob (.b (.idx (.t 0) (.t 1)) x y) = Ycv (x.val T sl ob) (y.val T sl ob) := by simp [E.val,C.val]
@[simp] theorem v_idxA : E.val T sl ob (.b (.idxA n (.t 0) (.t 1)) x y) = Xjl n (x.val T sl ob) (y.val T sl ob) := by simp [E.val,C.val]
@[simp] theorem v_idxP : E.val T sl ob (.b (.idxP k n (.t 0) (.t 1)) x y) = Xgm (x.val T sl ob) (y.val T sl ob) := by simp [E.val,C.val]
@[simp] theorem v_fldA : E.val T sl ob (.u (.fldA k n (.t 0)) x) = Yo k n (x.val T sl ob) := by simp [E.val,C.val]
@[simp] theorem v_fld : E.val T sl ob (.u (.fld k n m b (.t 0)) x) = Ya9 k (x.val T sl ob).kids := by simp [E.val,C.val]
@[simp] theorem v_ld : E.val T sl ob (.u (.ld n b (.t 0)) x) = ldV ob (x.val T sl ob) := by simp [E.val,C.val]
@[simp] theorem v_nilc : E.val T sl ob (.u (.nilc (.t 0)) x) = x.val T sl ob := by simp [E.val,C.val]
@[simp] theorem v_lenS : E.val T sl ob (.u (.lenS (.t 0)) x) = Xl4 (x.val T sl ob) := by simp [E.val,C.val]
@[simp] theorem v_lenL : E.val T sl ob (.u (.lenL (.t 0)) x) = Xep (x.val T sl ob) := by simp [E.val,C.val]
@[simp] theorem v_slcS1 : E.val T sl ob (.b (.slcS (.t 0) (some (.t 1)) none) x y) = Xat (some (y.val T sl ob)) none (x.val T sl ob) := by simp [E.val,C.val]
@[simp] theorem v_slcS2 : E.val T sl ob (.b (.slcS (.t 0) none (some (.t 1))) x y) = Xat none (some (y.val T sl ob)) (x.val T sl ob) := by simp [E.val,C.val]
@[simp] theorem v_slcS3 : E.val T sl ob (.t (.slcS (.t 0) (some (.t 1)) (some (.t 2))) x y z) = Xat (some (y.val T sl ob)) (some (z.val T sl ob)) (x.val T sl ob) := by simp [E.val,C.val]
@[simp] theorem v_slcL1 : E.val T sl ob (.b (.slcL n (.t 0) (some (.t 1)) none) x y) = Xse (some (y.val T sl ob)) none (x.val T sl ob) := by simp [E.val,C.val]
@[simp] theorem v_ext : E.val T sl ob (.u (.ext (.t 0) n) x) = Ya8 n (x.val T sl ob) := by simp [E.val,C.val]
@[simp] theorem v_mki : E.val T sl ob (.u (.mki n (.t 0)) x) = X2q n (x.val T sl ob) := by simp [E.val,C.val]
@[simp] theorem v_tas : E.val T sl ob (.u (.tas n d (.t 0)) x) = X55 n d (x.val T sl ob) := by simp [E.val,C.val]
-- when expressions are safe
@[simp] theorem o_a : E.ok T sl ob (.a a) = True := by simp only [E.ok]
@[simp] theorem o_ite : E.ok T sl ob (.ite x y z) = (x.ok T sl ob ∧ Xc4 (x.val T sl ob) ∧ (isB true (x.val T sl ob) = true → y.ok T sl ob) ∧ (isB false (x.val T sl ob) = true → z.ok T sl ob)) := by simp only [E.ok]
@[simp] theorem o_call : E.ok T sl ob (.call k x) = (x.ok T sl ob ∧ X0t (Xai T k) (x.val T sl ob)) := by simp only [E.ok]
@[simp] theorem o_nil : E.ok T sl ob .nil = True := by simp only [E.ok]
@[simp] theorem o_cons : E.ok T sl ob (.cons x y) = (x.ok T sl ob ∧ y.ok T sl ob) := by simp only [E.ok]
@[simp] theorem o_not : E.ok T sl ob (.u (.not (.t 0)) x) = (x.ok T sl ob ∧ Ygm (x.val T sl ob)) := by simp [E.ok,C.ok,C.val,Ygm]
@[simp] theorem o_mx : E.ok T sl ob (.b (.mx (.t 0) (.t 1)) x y) = (x.ok T sl ob ∧ y.ok T sl ob ∧ mxS (x.val T sl ob) (y.val T sl ob)) := by simp [E.ok,C.ok,C.val,mxS]
@[simp] theorem o_bin : E.ok T sl ob (.b (.bin o (.t 0) (.t 1)) x y) = (x.ok T sl ob ∧ y.ok T sl ob ∧ X3k o (x.val T sl ob) (y.val T sl ob)) := by simp [E.ok,C.ok,C.val,X3k]
@[simp] theorem o_usd : E.ok T sl ob (.u (.usd (.t 0)) x) = (x.ok T sl ob ∧ Ybl ob (x.val T sl ob)) := by simp [E.ok,C.ok,C.val,Ybl]
@[simp] theorem o_isnil : E.ok T sl ob (.u (.isnil b (.t 0)) x) = (x.ok T sl ob ∧ Xfd b (x.val T sl ob)) := by simp [E.ok,C.ok,C.val,Xfd]
@[simp] theorem o_fnil : E.ok T sl ob (.u (.fnil b (.t 0)) x) = (x.ok T sl ob ∧ Xrw b (x.val T sl ob)) := by simp [E.ok,C.ok,C.val,Xrw]
@[simp] theorem o_cvi : E.ok T sl ob (.u (.cvi kd (.t 0)) x) = (x.ok T sl ob ∧ Ygf kd (x.val T sl ob)) := by simp [E.ok,C.ok,C.val,Ygf]
@[simp] theorem o_idx : E.ok T sl ob (.b (.idx (.t 0) (.t 1)) x y) = (x.ok T sl ob ∧ y.ok T sl ob ∧ idxS (x.val T sl ob) (y.val T sl ob)) := by simp [E.ok,C.ok,C.val,idxS]
@[simp] theorem o_idxA : E.ok T sl ob (.b (.idxA n (.t 0) (.t 1)) x y) = (x.ok T sl ob ∧ y.ok T sl ob ∧ Xjk ob n (x.val T sl ob) (y.val T sl ob)) := by simp [E.ok,C.ok,C.val,Xjk]
@[simp] theorem o_idxP : E.ok T sl ob (.b (.idxP k n (.t 0) (.t 1)) x y) = (x.ok T sl ob ∧ y.ok T sl ob ∧ Xl1 ob k n (x.val T sl ob) (y.val T sl ob)) := by simp [E.ok,C.ok,C.val,Xl1]
@[simp] theorem o_fldA : E.ok T sl ob (.u (.fldA k n (.t 0)) x) = (x.ok T sl ob ∧ Qh ob k n (x.val T sl ob)) := by simp [E.ok,C.ok,C.val,Qh]
@[simp] theorem o_fld : E.ok T sl ob (.u (.fld k n m b (.t 0)) x) = (x.ok T sl ob ∧ Ygi k n m b (x.val T sl ob).kids) := by simp [E.ok,C.ok,C.val,Ygi]
@[simp] theorem o_ld : E.ok T sl ob (.u (.ld n b (.t 0)) x) = (x.ok T sl ob ∧ ldS ob n b (x.val T sl ob)) := by simp [E.ok,C.ok,C.val,ldS]
@[simp] theorem o_nilc : E.ok T sl ob (.u (.nilc (.t 0)) x) = (x.ok T sl ob ∧ Jo (x.val T sl ob)) := by simp [E.ok,C.ok,C.val,Jo]
@[simp] theorem o_lenS : E.ok T sl ob (.u (.lenS (.t 0)) x) = (x.ok T sl ob ∧ X2j (x.val T sl ob)) := by simp [E.ok,C.ok,C.val,X2j]
@[simp] theorem o_lenL : E.ok T sl ob (.u (.lenL (.t 0)) x) = (x.ok T sl ob ∧ Xgo ob (x.val T sl ob)) := by simp [E.ok,C.ok,C.val,Xgo]
@[simp] theorem o_slcS1 : E.ok T sl ob (.b (.slcS (.t 0) (some (.t 1)) none) x y) = (x.ok T sl ob ∧ y.ok T sl ob ∧ Xcd (some (y.val T sl ob)) none (x.val T sl ob)) := by simp [E.ok,C.ok,C.val,Xcd]
@[simp] theorem o_slcS2 : E.ok T sl ob (.b (.slcS (.t 0) none (some (.t 1))) x y) = (x.ok T sl ob ∧ y.ok T sl ob ∧ Xcd none (some (y.val T sl ob)) (x.val T sl ob)) := by simp [E.ok,C.ok,C.val,Xcd]
@[simp] theorem o_slcS3 : E.ok T sl ob (.t (.slcS (.t 0) (some (.t 1)) (some (.t 2))) x y z) = (x.ok T sl ob ∧ y.ok T sl ob ∧ z.ok T sl ob ∧ Xcd (some (y.val T sl ob)) (some (z.val T sl ob)) (x.val T sl ob)) := by simp [E.ok,C.ok,C.val,Xcd]
@[simp] theorem o_slcL1 : E.ok T sl ob (.b (.slcL n (.t 0) (some (.t 1)) none) x y) = (x.ok T sl ob ∧ y.ok T sl ob ∧ X23 n (some (y.val T sl ob)) none (x.val T sl ob)) := by simp [E.ok,C.ok,C.val,X23]
@[simp] theorem o_ext : E.ok T sl ob (.u (.ext (.t 0) n) x) = (x.ok T sl ob ∧ Ygh n (x.val T sl ob)) := by simp [E.ok,C.ok,C.val,Ygh]
@[simp] theorem o_mki : E.ok T sl ob (.u (.mki n (.t 0)) x) = x.ok T sl ob := by simp [E.ok,C.ok,C.val]
@[simp] theorem o_tas : E.ok T sl ob (.u (.tas n d (.t 0)) x) = (x.ok T sl ob ∧ Ygp n d (x.val T sl ob)) := by simp [E.ok,C.ok,C.val,Ygp]
-- values
@[simp] theorem pickV_b (b1 b2 : Bool) : Xdt (.d (.bool b)) (.d (.bool b1)) (.d (.bool b2)) = .d (.bool (if b then b1 else b2)) := by simp only [Xdt]
attribute [simp] Xx4 Xx2
@[simp] theorem notV_b : Yag (.d (.bool b)) = .d (.bool (!b)) := by simp only [Yag]
@[simp] theorem notS_b : Ygm (.d (.bool b)) = True := by simp [Ygm]
@[simp] theorem mxV_i : mxV (.d (.int kd i)) (.d (.int kd' i')) = .d (.int kd (if i' > i then i' else i)) := by simp only [mxV]
@[simp] theorem mxS_i : mxS (.d (.int kd i)) (.d (.int kd' i')) = True := by simp [mxS,mxK,mxV]
@[simp] theorem binV_i : X70 o (.d (.int kd i)) (.d (.int kd' i')) = Xbt o kd i i' := by simp only [X70]
@[simp] theorem binV_s : X70 o (.d (.str s)) (.d (.str s')) = X54 o s s' := by simp only [X70]
@[simp] theorem intV_add : Xbt .add kd i i' = .d (.int kd (kd.wrap (i + i'))) := by simp only [Xbt]
@[simp] theorem intV_sub : Xbt .sub kd i i' = .d (.int kd (kd.wrap (i - i'))) := by simp only [Xbt]
@[simp] theorem intV_mul : Xbt .mul kd i i' = .d (.int kd (kd.wrap (i * i'))) := by simp only [Xbt]
@[simp] theorem intV_eql : Xbt .eql kd i i' = .d (.bool (i == i')) := by simp only [Xbt]
@[simp] theorem intV_neq : Xbt .neq kd i i' = .d (.bool (i != i')) := by simp only [Xbt]
@[simp] theorem intV_lss : Xbt .lss kd i i' = .d (.bool (decide (i < i'))) := by simp only [Xbt]
@[simp] theorem intV_leq : Xbt .leq kd i i' = .d (.bool (decide (i ≤ i'))) := by simp only [Xbt]
@[simp] theorem intV_gtr : Xbt .gtr kd i i' = .d (.bool (decide (i' < i))) := by simp only [Xbt]
@[simp] theorem intV_geq : Xbt .geq kd i i' = .d (.bool (decide (i' ≤ i))) := by simp only [Xbt]
@[simp] theorem strV_eql : X54 .eql s s' = .d (.bool (s == s')) := by simp only [X54]
@[simp] theorem strV_neq : X54 .neq s s' = .d (.bool (s != s')) := by simp only [X54]
def Yhv (o : BinOp) (i : Int) : Prop := match o with
 | .quo | .rem => i ≠ 0
 | .shl | .shr => 0 ≤ i
 | _ => True
@[simp] theorem binS_i : X3k o (.d (.int kd i)) (.d (.int kd i')) = Yhv o i' := by cases o <;> simp [X3k,Yhv,Xzr,Xbt]
attribute [simp] Yhv
@[simp] theorem binS_eql : X3k .eql (.d (.str s)) (.d (.str s')) = True := by simp [X3k]
@[simp] theorem binS_neq : X3k .neq (.d (.str s)) (.d (.str s')) = True := by simp [X3k]
@[simp] theorem isnilV_n : Xad b (.d .nili) = .d (.bool b) := by simp only [Xad]
@[simp] theorem isnilS_n : Xfd b (.d .nili) = True := by simp [Xfd]
@[simp] theorem isnilV_di : Xad b (.d (.iface k d)) = .d (.bool (!b)) := by simp only [Xad]
@[simp] theorem isnilS_di : Xfd b (.d (.iface k d)) = True := by simp [Xfd]
@[simp] theorem fnilV_n : Xgh b (.d .nilf) = .d (.bool b) := by simp only [Xgh]
@[simp] theorem fnilV_f (l l' : List V) : Xgh b (.fn k l l') = .d (.bool (!b)) := by simp only [Xgh]
@[simp] theorem fnilS_n : Xrw b (.d .nilf) = True := by simp [Xrw]
@[simp] theorem fnilS_f (l l' : List V) : Xrw b (.fn k l l') = True := by simp [Xrw]
@[simp] theorem usdV_s : Yay (.sl k n) = .sd k n := by simp only [Yay]
@[simp] theorem usdV_n : Yay (.d .nils) = .d .nilp := by simp only [Yay]
@[simp] theorem usdS_s : Ybl ob (.sl k n) = ∃ E sz xs,lookO ob k = some (.arr E sz xs) ∧ sz ≠ 0 ∧ n = xs.length ∧ xs ≠ [] := by simp [Ybl]
@[simp] theorem usdS_n : Ybl ob (.d .nils) = True := by simp [Ybl]
@[simp] theorem cviV_i : X8k kd (.d (.int kd' i)) = .d (.int kd (kd.wrap i)) := by simp only [X8k]
@[simp] theorem cviS_i : Ygf kd (.d (.int kd' i)) = True := by simp [Ygf]
@[simp] theorem idxV_s : Ycv (.d (.str s)) (.d (.int kd i)) = .d (.int .u8 (s.getD i.toNat 0).toNat) := by simp only [Ycv]
@[simp] theorem idxS_s : idxS (.d (.str s)) (.d (.int kd i)) = (0 ≤ i ∧ i < s.length) := by simp [idxS]
@[simp] theorem idxAV_l : Xjl m (.d (.list n xs)) (.d (.int kd i)) = .d (.ref (xs.getD i.toNat default)) := by simp only [Xjl]
@[simp] theorem idxAS_l : Xjk ob n (.d (.list n xs)) (.d (.int kd i)) = (0 ≤ i ∧ i < xs.length) := by simp [Xjk]
@[simp] theorem idxPV_p : Xgm (.ptr j p) (.d (.int kd i)) = .ptr j (p ++ [i.toNat]) := by simp only [Xgm]
@[simp] theorem idxPV_c : Xgm (.d (.ref (.agg xs))) (.d (.int kd i)) = .d (.ref (xs.getD i.toNat default)) := by simp only [Xgm]
@[simp] theorem idxPS_p : Xl1 ob k n (.ptr j p) (.d (.int kd i)) = ((0 ≤ i ∧ i < k) ∧ ∃ ks,Zj (atO ob j p) = some ks ∧ ks.length = k ∧ ∀ k ∈ ks,k.size = n) := by simp [Xl1]
@[simp] theorem X84 : Xl1 ob k n (.d (.ref (.agg xs))) (.d (.int kd i)) = ((0 ≤ i ∧ i < k) ∧ xs.length = k ∧ ∀ x ∈ xs,x.sz = n) := by simp [Xl1]
@[simp] theorem fldAV_p : Yo k n (.ptr j p) = .ptr j (p ++ [k]) := by simp only [Yo]
@[simp] theorem fldAV_c : Yo k n (.d (.ref (.agg xs))) = .d (.ref (xs.getD k default)) := by simp only [Yo]
def Xp5 (f fo : Nat) : Option (List V) → Prop
 | some ks => f < ks.length ∧ Sh.sizes ((ks.take f).map V.shape) = fo
 | none => False
@[simp] theorem fldASo_s : Xp5 k n (some vs) = (k < vs.length ∧ Sh.sizes ((vs.take k).map V.shape) = n) := by simp only [Xp5]
@[simp] theorem fldAS_p : Qh ob k n (.ptr j p) = Xp5 k n (Zj (atO ob j p)) := by
 simp only [Qh,U2,Xp5]; cases Zj (atO ob j p) <;> simp [Qg]
@[simp] theorem fldAS_c : Qh ob k n (.d (.ref (.agg xs))) = (k < xs.length ∧ D.szs (xs.take k) = n) := by simp [Qh]
@[simp] theorem fldV_s : Ya9 k (some vs) = vs.getD k .any := by simp only [Ya9]
@[simp] theorem fldS_s : Ygi k j n b (some vs) = (k < vs.length ∧ Sh.sizes ((vs.take k).map V.shape) = j ∧ (vs.getD k .any).size = n ∧ (vs.getD k .any).isAgg = b) := by simp only [Ygi,Xzn,Ya9,and_true]
@[simp] theorem ldVo_s : X32 (some v) = v := by simp only [X32]
@[simp] theorem ldV_p : ldV ob (.ptr j p) = X32 (atO ob j p) := by simp only [ldV]
@[simp] theorem ldV_c : ldV ob (.d (.ref d)) = .d d := by simp only [ldV]
def Ybe (n : Nat) (b : Bool) : Option V → Prop
 | some v => v.size = n ∧ v.isAgg = b
 | none => False
@[simp] theorem ldSo_s : Ybe n b (some v) = (v.size = n ∧ v.isAgg = b) := by simp only [Ybe]
@[simp] theorem ldS_p : ldS ob n b (.ptr j p) = Ybe n b (atO ob j p) := by
 simp only [ldS,ldK,ldV]; cases atO ob j p <;> simp [Xgn,Ybe,X32]
@[simp] theorem ldS_c : ldS ob n b (.d (.ref d)) = (d.sz = n ∧ (V.d d).isAgg = b) := by simp [ldS]
@[simp] theorem nilcS_p : Jo (.ptr j p) = True := by simp [Jo]
@[simp] theorem nilcS_c : Jo (.d (.ref d)) = True := by simp [Jo]
@[simp] theorem lenSV_s : Xl4 (.d (.str s)) = .d (.int .i64 s.length) := by simp only [Xl4]
@[simp] theorem lenSS_s : X2j (.d (.str s)) = True := by simp [X2j]
@[simp] theorem lenLV_l : Xep (.d (.list n xs)) = .d (.int .i64 xs.length) := by simp only [Xep]
@[simp] theorem lenLV_n : Xep (.d .nils) = .d (.int .i64 0) := by simp only [Xep]
@[simp] theorem lenLV_o : Xep (.sl j n) = .d (.int .i64 n) := by simp only [Xep]
@[simp] theorem lenLS_l : Xgo ob (.d (.list n xs)) = True := by simp [Xgo]
@[simp] theorem lenLS_n : Xgo ob (.d .nils) = True := by simp [Xgo]
@[simp] theorem lenLS_o : Xgo ob (.sl j n) = ((∃ E z xs,lookO ob j = some (.arr E z xs) ∧ n = xs.length) ∨ ∃ E z xs,lookO ob j = some (.vec E z xs) ∧ n = xs.length) := by simp [Xgo]
@[simp] theorem slcSV_sn : Xat (some (.d (.int kd i))) none (.d (.str s)) = .d (.str (s.drop i.toNat)) := by simp [Xat,Xzl]
@[simp] theorem slcSV_ns : Xat none (some (.d (.int kd i))) (.d (.str s)) = .d (.str (s.take i.toNat)) := by simp [Xat,Xzl]
@[simp] theorem slcSV_ss : Xat (some (.d (.int kd i))) (some (.d (.int kd' i'))) (.d (.str s)) = .d (.str ((s.take i'.toNat).drop i.toNat)) := by simp only [Xat,Xzl]
@[simp] theorem slcSS_sn : Xcd (some (.d (.int kd i))) none (.d (.str s)) = (0 ≤ i ∧ i ≤ s.length) := by simp [Xcd,Xat,Xzl]
@[simp] theorem slcSS_ns : Xcd none (some (.d (.int kd i))) (.d (.str s)) = (0 ≤ i ∧ i ≤ s.length) := by simp [Xcd,Xat,Xzl]
@[simp] theorem slcSS_ss : Xcd (some (.d (.int kd i))) (some (.d (.int kd' i'))) (.d (.str s)) = ((0 ≤ i' ∧ i' ≤ s.length) ∧ 0 ≤ i ∧ i ≤ i') := by simp [Xcd,Xat,Xzl]
@[simp] theorem slcLV_sn : Xse (some (.d (.int kd i))) none (.d (.list n xs)) = .d (.list n (xs.drop i.toNat)) := by simp [Xse,Xzl]
@[simp] theorem slcLS_sn : X23 n (some (.d (.int kd i))) none (.d (.list n xs)) = (0 ≤ i ∧ i ≤ xs.length) := by simp [X23,Xse,Xzl]
@[simp] theorem extV_t : Ya8 n (.tup vs) = vs.getD n .any := by simp only [Ya8]
@[simp] theorem extS_t : Ygh n (.tup vs) = (n < vs.length) := by simp [Ygh,Ya8]
@[simp] theorem tasV_dy (d' : D) : X55 k d (.d (.iface k d')) = .tup [.d d',.d (.bool true)] := by simp [X55]
@[simp] theorem tasV_dn (d' : D) (h : (j == k) = false) : X55 k d (.d (.iface j d')) = .tup [.d d,.d (.bool false)] := by simp at h; simp [X55,h]
@[simp] theorem tasS_d (d' : D) : Ygp k d (.d (.iface j d')) = True := by by_cases h : j = k <;> simp [Ygp,X3a,X55,h]
@[simp] theorem consV_t : Xum v (.tup vs) = .tup (v :: vs) := by simp only [Xum]
@[simp] theorem callV_s (F : Fn) : X0u (some F) (.tup vs) = F.val vs := by simp only [X0u]
@[simp] theorem callP_s (F : Fn) : X0t (some F) (.tup vs) = F.pre vs := by simp only [X0t]
@[simp] theorem lookT_eq (F : Fn) : Xai ((k,F) :: T) k = some F := by simp [Xai]
@[simp] theorem lookT_ne (F : Fn) (h : (j == k) = false) : Xai ((j,F) :: T) k = Xai T k := by simp at h; simp [Xai,h]
@[simp] theorem isB_b : isB c (.d (.bool b)) = (b == c) := by simp only [isB]
@[simp] theorem boolV_b : Xc4 (.d (.bool b)) = True := by simp only [Xc4]
@[simp] theorem whenV_t : Xif true v = v := by simp [Xif]
@[simp] theorem whenV_f : Xif false v = .undef := by simp [Xif]
@[simp] theorem holdsB_nil : Zx T sl ob [] = true := by simp [Zx]
@[simp] theorem holdsB_cons (l : List (E × Bool)) : Zx T sl ob ((x,b) :: l) = (isB b (x.val T sl ob) && Zx T sl ob l) := by simp [Zx]
-- folded statements
@[simp] theorem zu (KS : Xb → Objs → Prop) (PS : V → Xb → Objs → Prop) : Ud P T KS PS [] sl ob = KS sl ob := by simp only [Ud]
@[simp] theorem zq (KS : Xb → Objs → Prop) (PS : V → Xb → Objs → Prop) (q : List (E × Bool)) (l : List It2) : Ud P T KS PS (.chk q x :: l) sl ob = ((Zx T sl ob q = true → x.ok T sl ob) ∧ Ud P T KS PS l sl ob) := by simp only [Ud]
@[simp] theorem zt (KS : Xb → Objs → Prop) (PS : V → Xb → Objs → Prop) (q : List (E × Bool)) (l : List It2) : Ud P T KS PS (.lt k q x :: l) sl ob = ((Zx T sl ob q = true → x.ok T sl ob) ∧ Ud P T KS PS l ((k,Xif (Zx T sl ob q) (x.val T sl ob)) :: sl) ob) := by simp only [Ud]
@[simp] theorem zw (KS : Xb → Objs → Prop) (PS : V → Xb → Objs → Prop) (dd : Option Nat) (e : I) (l : List It2) : Ud P T KS PS (.op dd e :: l) sl ob = e.wp P sl ob (fun v ob' => Ud P T KS PS l (put sl dd v) ob') (fun v ob' => PS v sl ob') := by simp only [Ud]
@[simp] theorem zr (KS : Xb → Objs → Prop) (PS : V → Xb → Objs → Prop) (q : List (E × Bool)) (dd : Option Nat) (e : I) (l : List It2) : Ud P T KS PS (.gop q dd e :: l) sl ob = ((Zx T sl ob q = true → e.wp P sl ob (fun v ob' => Ud P T KS PS l (put sl dd v) ob') (fun v ob' => PS v sl ob')) ∧ (Zx T sl ob q = false → Ud P T KS PS l (put sl dd .undef) ob)) := by simp only [Ud]
@[simp] theorem keepE_nil : U3 T sl ob [] = [] := by simp only [U3]
@[simp] theorem keepE_cons (l : List (Nat × E)) : U3 T sl ob ((k,x) :: l) = (k,x.val T sl ob) :: U3 T sl ob l := by simp only [U3]
@[simp] theorem keepOk_nil : W9 T sl ob [] = True := by simp only [W9]
@[simp] theorem keepOk_cons (l : List (Nat × E)) : W9 T sl ob ((k,x) :: l) = (x.ok T sl ob ∧ W9 T sl ob l) := by simp only [W9]
variable (Q : Vx) (s1 s2 : S2)
@[simp] theorem ql (l : List It2) (kp : List (Nat × E)) (pk : List Nat) : Zc P T (.rg l kp pk) Q sl ob = Ud P T (fun sl ob => W9 T sl ob kp ∧ Q .normal (U3 T sl ob kp) ob) (fun v sl ob => Q (.panic v) (Xe sl pk) ob) l sl ob := by simp only [Zc]
@[simp] theorem qn : Zc P T (.seq s1 s2) Q sl ob = Zc P T s1 (Vi (Zc P T s2 Q) Q) sl ob := by simp only [Zc]
@[simp] theorem qo : Zc P T .skip Q sl ob = Q .normal sl ob := by simp only [Zc]
@[simp] theorem qi : Zc P T (.cond a s1 s2) Q sl ob = Xa4 (Zc P T s1 Q sl ob) (Zc P T s2 Q sl ob) (a.ev sl) := by simp only [Zc]
@[simp] theorem qh : Zc P T (.block n s1) Q sl ob = Zc P T s1 (Zn n Q) sl ob := by simp only [Zc]
@[simp] theorem cwp2_loop (kp : List Nat) : Zc P T (.loop kp s1) Q sl ob = ALoop kp (Zc P T s1) Q sl ob := by simp only [Zc]
@[simp] theorem qj : Zc P T (.exit n) Q sl ob = Q (.exit n) sl ob := by simp only [Zc]
@[simp] theorem qk : Zc P T .ret Q sl ob = Q .ret sl ob := by simp only [Zc]
end
@[congr] theorem rwp2_congr {P : Prg} {T : Tab} {KS : Xb → Objs → Prop} {PS : V → Xb → Objs → Prop} {l : List It2} {sl sl' : Xb} {ob ob' : Objs} (h : sl = sl') (h' : ob = ob') : Ud P T KS PS l sl ob = Ud P T KS PS l sl' ob' := by rw [h,h']
@[congr] theorem cwp2_congr {P : Prg} {T : Tab} {s : S2} {Q : Vx} {sl sl' : Xb} {ob ob' : Objs} (h : sl = sl') (h' : ob = ob') : Zc P T s Q sl ob = Zc P T s Q sl' ob' := by rw [h,h']
@[congr] theorem E_val_congr {T : Tab} {sl : Xb} {ob : Objs} {e : E} : E.val T sl ob e = E.val T sl ob e := rfl
@[congr] theorem E_ok_congr {T : Tab} {sl : Xb} {ob : Objs} {e : E} : E.ok T sl ob e = E.ok T sl ob e := rfl
end Go.Ab
