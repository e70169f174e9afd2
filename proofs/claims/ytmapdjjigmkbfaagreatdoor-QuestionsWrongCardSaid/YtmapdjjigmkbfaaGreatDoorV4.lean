/- Texts of this claim joined by a program, part 4 of 15; the last is: The equations by which folded statements are walked. Over any program; no condition. -/
import Derived.Test.YtmapdjjigmkbfaaGreatDoorV3
import Derived.IntWalk
set_option linter.unusedSimpArgs false
set_option linter.unusedVariables false
set_option linter.unusedSectionVars false
set_option linter.defProp false
/- Functions: what is shown of a body is a fact on the call. Over any program; no condition. -/
namespace Go.Ab
open Go

inductive RV where
 | t (k : Nat)
 | c (k n : Nat) (ag : Bool)

def RV.chk (P : Program) : ResultVar → RV → Bool
 | .tmp j,.t k => j == k
 | .cell a ty,.c k n ag => a == k && X9 P ty == some n && (P.underlying ty).isSome && agT P ty == ag
 | _,_ => false
def Q1 (P : Program) : List ResultVar → List RV → Bool
 | [],[] => true
 | x :: r,y :: s => y.chk P x && Q1 P r s
 | _,_ => false

def RV.wp (sl : Xb) (ob : Objs) (K : V → Prop) : RV → Prop
 | .t k => K (look sl k)
 | .c k n ag => ldK ob n ag K (look sl k)
def Vn (sl : Xb) (ob : Objs) : List RV → (List V → Prop) → Prop
 | [],K => K []
 | x :: r,K => x.wp sl ob fun v => Vn sl ob r fun vs => K (v :: vs)

def V3 : List V → V
 | [v] => v
 | vs => .tup vs

def W9 (K : List D → Objs → Prop) : Option (List D × Objs) → Prop
 | some (l,ob) => K l ob
 | none => False

def Xa4 (rs : List RV) (K : V → Prop) : Vp
 | .normal,sl,ob => Vn sl ob rs fun vs => W9 (fun l _ => K (V3 (l.map .d))) (V.givs ob vs)
 | .ret,sl,ob => Vn sl ob rs fun vs => W9 (fun l _ => K (V3 (l.map .d))) (V.givs ob vs)
 | .exit _,_,_ => False
 | .panic _,_,_ => False

def gvO (v : V) (ob : Objs) (K : V → Objs → Prop) : Option (D × Objs) → Prop
 | some (d,ob') => K (.d d) ob'
 | none => K v ob
def Xft : List V → Objs → (List V → Objs → Prop) → Prop
 | [],ob,K => K [] ob
 | v :: r,ob,K => gvO v ob (fun v' ob' => Xft r ob' fun vs ob'' => K (v' :: vs) ob'') (V.giv ob v)
def Xv (n : Nat) (K : Objs → Prop) (vs : List V) (ob : Objs) : Prop :=
 ∃ kp : List Nat,V.mens (young n kp) vs = false ∧ noMenO (young n kp) (Xw (young n kp) ob) = true ∧ K (Xw (young n kp) ob)
def V6 (n : Nat) (rs : List RV) (K : Out → Objs → Prop) : Vp
 | .normal,sl,ob => Vn sl ob rs fun vs => Xft vs ob fun vs ob => Xv n (K (.ret (V3 vs))) vs ob
 | .ret,sl,ob => Vn sl ob rs fun vs => Xft vs ob fun vs ob => Xv n (K (.ret (V3 vs))) vs ob
 | .panic v,_,ob => Xv n (K (.panic v)) [v] ob
 | .exit _,_,_ => False

def Jg (k : Nat) : List V → Xb
 | [] => []
 | v :: r => (k,v) :: Jg (k + 1) r

def Yh (P : Program) (f n : Nat) (s : S) (rs : List RV) : Bool := match P.funcs[f]? with
 | some fn => match fn.body with
  | some code => decide (n ≤ fn.ntmps) && S.chk P fn.ntmps code s && Q1 P fn.results.toList rs
  | none => false
 | none => false

section
variable {P : Program} {w : World} {ρ : Env}

def Xe3 (a : Act) (r : ResultVar) : Sem Value := match r with
 | .tmp t => pure (a.tmps.getD t undef)
 | .cell x t => do loadVar t (← asAddr (a.tmps.getD x undef))

theorem Xjm {a : Act} {sl : Xb} {ob : Objs} (hs : SM w ρ sl a) (hO : OM w ρ ob) : ∀ (xs : List ResultVar) (rs : List RV) (K : List V → Prop),Q1 P xs rs = true → Vn sl ob rs K →
  ∃ vs us,K vs ∧ V.reps w ρ vs us ∧ (xs.mapM (Xe3 a)).run P w = .ok us w
 | [],[],K,_,h => ⟨[],[],h,by simp [V.reps],by simp⟩
 | x :: r,y :: s,K,hc,h => by
  simp only [Q1,Bool.and_eq_true] at hc
  simp only [Vn] at h
  have one : ∃ v u,Vn sl ob s (fun vs => K (v :: vs)) ∧ v.rep w ρ u ∧ (Xe3 a x).run P w = .ok u w := by
   cases x with
   | tmp t =>
    cases y with
    | t k => simp [RV.chk] at hc; obtain ⟨rfl,_⟩ := hc; exact ⟨_,_,h,hs t,by simp [Xe3]⟩
    | c k n ag => simp [RV.chk] at hc
   | cell z t =>
    cases y with
    | t k => simp [RV.chk] at hc
    | c k n ag =>
     simp only [RV.chk,Bool.and_eq_true,beq_iff_eq] at hc
     obtain ⟨⟨⟨⟨rfl,h1⟩,h2⟩,h3⟩,_⟩ := hc
     simp only [RV.wp] at h
     obtain ⟨v,y,hK,hr,hrun⟩ := Xcg (P := P) (a := a) (n := n) (ag := ag) (x := .t z) (op := .load t (.tmp z)) hs hO (by simp [C.chk,h1,h2,h3,A.chk]) (by simpa [A.ev] using h)
     refine ⟨y,v,hK,hr,?_⟩
     have := hrun ⟨none,.load t (.tmp z),0, "", #[],none⟩ rfl w (fun _ => Ext.refl w)
     simp only [execOp,Act.eval,Sem.run_bind,Instr.loadAt] at this
     simp only [Xe3,Sem.run_bind]
     generalize hv : a.tmps.getD z undef = pv at *
     cases pv with
     | pointer ad =>
      cases ad with
      | none => simp [Instr.sureAddr] at this
      | some ad =>
       simp only [Instr.sureAddr,Sem.run_pure,Result.andThen_ok] at this
       simp only [asAddr,Sem.run_pure,Result.andThen_ok]
       revert this
       generalize (loadVar t ad).run P w = res
       intro this
       cases res with
       | ok x w' => simp at this; obtain ⟨rfl,rfl⟩ := this; rfl
       | halt x w' => simp at this
     | _ => simp [Instr.sureAddr] at this
  obtain ⟨v,u,h1,h2,h3⟩ := one
  obtain ⟨vs,us,k,h4,h5⟩ := Xjm hs hO r s _ hc.2 h1
  refine ⟨v :: vs,u :: us,k,?_,?_⟩
  ·simp only [V.reps]; exact ⟨u,us,rfl,h2,h4⟩
  ·simp only [List.mapM_cons,Sem.run_bind,h3,Result.andThen_ok,h5,Sem.run_pure]
 | [],_ :: _,_,hc,_ => by simp [Q1] at hc
 | _ :: _,[],_,hc,_ => by simp [Q1] at hc

def Xwb : List Value → Value
 | [u] => u
 | us => .tuple us.toArray

theorem Uj {fn : Func} {a : Act} {sl : Xb} {ob : Objs} {rs : List RV} {K : List V → Prop} (hs : SM w ρ sl a) (hO : OM w ρ ob) (hc : Q1 P fn.results.toList rs = true) (h : Vn sl ob rs K) :
  ∃ vs us,K vs ∧ V.reps w ρ vs us ∧ (results fn a.tmps).run P w = .ok (Xwb us) w := by
 obtain ⟨vs,us,k,h1,h2⟩ := Xjm (P := P) hs hO _ _ _ hc h
 refine ⟨vs,us,k,h1,?_⟩
 have h3 : (fn.results.mapM (Xe3 a)).run P w = .ok us.toArray w := by
  rw [Array.mapM_eq_mapM_toList]
  simp only [Sem.run_map,h2,Result.andThen_ok]
 have h4 : results fn a.tmps = (fn.results.mapM (Xe3 a) >>= fun vs => pure (if h : vs.size = 1 then vs[0] else .tuple vs)) := rfl
 rw [h4,Sem.run_bind]
 simp only [h3,Result.andThen_ok,Sem.run_pure]
 congr 1
 cases us with
 | nil => simp [Xwb]
 | cons u r =>
  cases r with
  | nil => simp [Xwb]
  | cons u' r' => simp [Xwb]

theorem Xad {vs : List V} {us : List Value} (h : V.reps w ρ vs us) : (V3 vs).rep w ρ (Xwb us) := by
 cases vs with
 | nil =>
  simp only [V.reps] at h; subst h
  rw [show V3 [] = .tup [] from rfl,rep_tup]; exact ⟨[],rfl,by simp [V.reps]⟩
 | cons v r =>
  simp only [V.reps] at h
  obtain ⟨u,us',rfl,h1,h2⟩ := h
  cases r with
  | nil => simp only [V.reps] at h2; subst h2; exact h1
  | cons v' r' =>
   have h2' := h2
   simp only [V.reps] at h2
   obtain ⟨u',us'',rfl,h3,h4⟩ := h2
   show (V.tup _).rep w ρ _
   rw [rep_tup]
   refine ⟨_,rfl,?_⟩
   simp only [V.reps]
   exact ⟨u,_,rfl,h1,u',us'',rfl,h3,h4⟩

theorem Xax : ∀ (vs : List V) (us : List Value) {ρ : Env} {ob ob' : Objs} {l : List D},OM w ρ ob → V.reps w ρ vs us → V.givs ob vs = some (l,ob') → ∃ ρ',Tr w ρ w ρ' ∧ OM w ρ' ob' ∧ V.reps w ρ' (l.map .d) us
 | [],us,ρ,ob,ob',l,hO,h,e => by
  simp only [V.givs,Option.some.injEq,Prod.mk.injEq] at e
  obtain ⟨rfl,rfl⟩ := e
  exact ⟨ρ,Tr.refl _ _,hO,by simpa only [List.map_nil,V.reps] using h⟩
 | x :: r,us,ρ,ob,ob',l,hO,h,e => by
  simp only [V.givs] at e
  simp only [V.reps] at h
  obtain ⟨u,us',rfl,h1,h2⟩ := h
  split at e
  ·rename_i dd ob1 hg
   obtain ⟨ρ1,t1,o1,hr⟩ := Xb6 hO (u := u) h1 hg
   cases hg2 : V.givs ob1 r with
   | none => simp [hg2,Uw] at e
   | some q =>
    obtain ⟨l2,ob2⟩ := q
    simp only [hg2,Uw,Option.some.injEq,Prod.mk.injEq] at e
    obtain ⟨rfl,rfl⟩ := e
    obtain ⟨ρ2,t2,o2,hr2⟩ := Xax r us' o1 (V.reps_tr t1 _ _ h2) hg2
    exact ⟨ρ2,t1.trans t2,o2,by simp only [List.map_cons,V.reps]; exact ⟨u,us',rfl,V.rep_tr t2 hr,hr2⟩⟩
  ·cases e
theorem Xc0 : ∀ (vs : List V) (us : List Value) {ρ : Env} {ob : Objs} {K : List V → Objs → Prop},OM w ρ ob → V.reps w ρ vs us → Xft vs ob K → ∃ vs' ob' ρ',K vs' ob' ∧ Tr w ρ w ρ' ∧ OM w ρ' ob' ∧ V.reps w ρ' vs' us
 | [],us,ρ,ob,K,hO,h,e => by
  simp only [Xft] at e
  exact ⟨[],ob,ρ,e,Tr.refl _ _,hO,h⟩
 | x :: r,us,ρ,ob,K,hO,h,e => by
  simp only [Xft] at e
  simp only [V.reps] at h
  obtain ⟨u,us',rfl,h1,h2⟩ := h
  cases hg : V.giv ob x with
  | none =>
   simp only [hg,gvO] at e
   obtain ⟨vs',ob',ρ',k,t,o,hr⟩ := Xc0 r us' hO h2 e
   exact ⟨_,ob',ρ',k,t,o,by simp only [V.reps]; exact ⟨u,us',rfl,V.rep_tr (u := u) t h1,hr⟩⟩
  | some q =>
   obtain ⟨dd,ob1⟩ := q
   simp only [hg,gvO] at e
   obtain ⟨ρ1,t1,o1,hr⟩ := Xb6 hO (u := u) h1 hg
   obtain ⟨vs',ob',ρ',k,t,o,hr2⟩ := Xc0 r us' o1 (V.reps_tr t1 _ _ h2) e
   exact ⟨_,ob',ρ',k,t1.trans t,o,by simp only [V.reps]; exact ⟨u,us',rfl,V.rep_tr t hr,hr2⟩⟩

theorem Jh {vs : List V} {us : List Value} (h : V.reps w ρ vs us) : ∀ (k : Nat) (t : Array Value),(∀ i (hi : i < us.length),t.getD (k + i) undef = us[i]) → ∀ j,(look (Jg k vs) j).rep w ρ (t.getD j undef) := by
 induction vs generalizing us with
 | nil => intro k t _ j; exact Xdg
 | cons v r ih =>
  simp only [V.reps] at h
  obtain ⟨u,us',rfl,h1,h2⟩ := h
  intro k t ht j
  simp only [Jg,look]
  split
  ·rename_i e; subst e
   have := ht 0 (by simp)
   simp only [Nat.add_zero,List.getElem_cons_zero] at this
   rw [this]; exact h1
  ·refine ih h2 (k + 1) t (fun i hi => ?_) j
   have := ht (i + 1) (by simpa using hi)
   simp only [List.getElem_cons_succ] at this
   rw [← this]; congr 1; omega

theorem U3 {ρ1 : Env} (mo : Xhn w (own ρ) w (own ρ1)) : ∀ (vs : List V) (us : List Value) (ds : List D),vs = ds.map .d → V.reps w ρ vs us → V.reps w ρ1 vs us
 | [],us,ds,_,h => by simpa [V.reps] using h
 | v :: r,us,[],e,h => by simp at e
 | v :: r,us,d :: ds,e,h => by
  simp only [List.map_cons,List.cons.injEq] at e
  obtain ⟨rfl,e⟩ := e
  simp only [V.reps] at h ⊢
  obtain ⟨u,us',rfl,h1,h2⟩ := h
  refine ⟨u,us',rfl,?_,U3 mo r us' ds e h2⟩
  rcases h1 with h1 | ⟨p,x,q,r⟩ | ⟨p,r⟩
  ·cases h1
  ·exact .inr (.inl ⟨p,x,q,by simp only [V.repC] at r ⊢; exact D.rep_mono mo d x r⟩)
  ·exact .inr (.inr ⟨p,by simp only [V.repC] at r ⊢; exact D.rep_mono mo d _ r⟩)

theorem Z5 : ∀ {vs : List V} {us : List Value},V.reps w ρ vs us → us.length = vs.length
 | [],us,h => by simp [V.reps] at h; simp [h]
 | v :: r,us,h => by
  simp only [V.reps] at h
  obtain ⟨u,us',rfl,_,h2⟩ := h
  simp [Z5 h2]

theorem Xe1 {P : Prg} (hm : P.p.follows .mixedOrders = true) {f : Nat} {s : S} {rs : List RV} {ds : List D} {ob0 : Objs} {K : V → Prop} (hc : Yh P.p f ds.length s rs = true)
  (h : cwp P s (Xa4 rs K) (Jg 0 (ds.map .d)) []) : PCall P f (ds.map .d) ob0 K := by
 unfold Yh at hc
 split at hc
 ·rename_i fn hf
  split at hc
  ·rename_i code hb
   simp only [Bool.and_eq_true,decide_eq_true_eq] at hc
   obtain ⟨⟨hn,h1⟩,h2⟩ := hc
   refine ⟨fun w ρ args hO hg hr => calls_of_wp hf hb ?_⟩
   let ρ0 : Env := ⟨fun _ => none,own ρ,ρ.gl⟩
   let c : Ctx := ⟨w,fun _ => False,fn.ntmps,[],P.g,fun _ => none,[]⟩
   have hnone : ∀ b,¬ Xo3 ρ0 b := fun b ⟨_,_,h,_⟩ => by cases h
   have hlt : ∀ b,own ρ b → b < w.heap.size := fun b h => h.elim (fun ⟨_,_,h1,h2⟩ => Qf hO h1 h2) (hO.xlt b)
   have mo : Xhn w (own ρ) w (own ρ0) := fun b h1 _ => ⟨rfl,fun h2 => h2.elim (hnone b) h1⟩
   have hr0 := U3 mo _ _ ds rfl hr
   have hlen : args.length = ds.length := by simpa using Z5 hr
   have m : Mod c (own ρ) ρ0 (Jg 0 (ds.map .d)) [] { tmps := args.toArray ++ Array.replicate (fn.ntmps - args.toArray.size) undef,defers := [] } w := by
    refine ⟨⟨Nat.le_refl _,fun _ _ _ => rfl,fun b h => absurd h (hnone b),rfl,rfl,rfl,(fun id o h => by cases h),(fun p hp => by cases hp)⟩,⟨fun j x hx => (by simp [lookO] at hx),fun j o hj => (by cases hj),fun i j o p b hi => (by cases hi),fun b hb => hlt b hb,fun b o hb => ⟨(hO.glb b o hb).1,fun h => h.elim (hnone b) (hO.glb b o hb).2⟩,fun b hb => absurd hb (hnone b),trivial⟩,?_,?_,rfl,rfl,hg⟩
    ·refine Jh hr0 0 _ (fun i hi => ?_)
     simp [Array.getElem?_append,hi]
    ·simp [c]; omega
   refine wp_mono (Yx hm rfl code s _ _ _ ρ0 _ w h1 h m) ?_
   rintro e a' w' ⟨ae,sl',ob',ρ',hq,he,m'⟩
   have hfin : Vn sl' ob' rs (fun vs => W9 (fun l _ => K (V3 (l.map .d))) (V.givs ob' vs)) → a'.defers = [] ∧ ∃ v,(results fn a'.tmps).run P.p w' = .ok v w' ∧ ∃ x u,K x ∧ Ending.returned v = .returned u ∧ x.rep w' ρ u ∧ Ext w w' := by
    intro hq
    obtain ⟨vs,us,hk,hrep,hrun⟩ := Uj (P := P.p) (fn := fn) m'.sm m'.om h2 hq
    cases hgv : V.givs ob' vs with
    | none => simp [hgv,W9] at hk
    | some q =>
     obtain ⟨l,ob2⟩ := q
     simp only [hgv,W9] at hk
     obtain ⟨ρ2,t2,o2,hr2⟩ := Xax vs us m'.om hrep hgv
     have mo2 : Xhn w' (own ρ2) w' (own ρ) := fun b h1 _ => ⟨rfl,fun h2 => h1 (.inr (by rw [t2.xo,m'.xo]; exact h2))⟩
     have hrep' := U3 mo2 _ _ l rfl hr2
     have hext : Ext w w' := ⟨m'.base.size,fun b hb => m'.base.keep b hb (fun h => h),m'.base.tape,m'.base.os,m'.base.out⟩
     exact ⟨m'.df,Xwb us,hrun,V3 (l.map .d),Xwb us,hk,rfl,Xad hrep',hext⟩
   cases ae with
   | normal =>
    cases e <;> simp only [exM] at he
    exact hfin hq
   | ret =>
    cases e <;> simp only [exM] at he
    exact hfin hq
   | exit n => exact hq.elim
   | panic v => exact hq.elim
  ·simp at hc
 ·simp at hc

theorem Xji {ids : Nat → Bool} {vs : List V} {us : List Value} (hm : V.mens ids vs = false) (h : V.reps w ρ vs us) : V.reps w (ρ.del ids) vs us := V.reps_del vs us hm h

def Ob.noMen (ids : Nat → Bool) : Ob → Prop
 | .box _ t => V.men ids t = false
 | .vec _ _ xs => V.mens ids xs = false
 | .map es => Jb ids es = false
 | _ => True
theorem W3 {ids : Nat → Bool} : ∀ (ob : Objs),(∀ e ∈ ob,e.2.noMen ids) → noMenO ids ob = true
 | [],_ => rfl
 | (j,.box E t) :: r,h => by
  simp only [noMenO,Bool.and_eq_true,Bool.not_eq_true']
  exact ⟨h (j,.box E t) (by simp),W3 r fun e he => h e (by simp [he])⟩
 | (j,.vec E z t) :: r,h => by
  simp only [noMenO,Bool.and_eq_true,Bool.not_eq_true']
  exact ⟨h (j,.vec E z t) (by simp),W3 r fun e he => h e (by simp [he])⟩
 | (j,.map t) :: r,h => by
  simp only [noMenO,Bool.and_eq_true,Bool.not_eq_true']
  exact ⟨h (j,.map t) (by simp),W3 r fun e he => h e (by simp [he])⟩
 | (j,.arr _ _ _) :: r,h => by simp only [noMenO]; exact W3 r fun e he => h e (by simp [he])
 | (j,.gone) :: r,h => by simp only [noMenO]; exact W3 r fun e he => h e (by simp [he])
theorem Xix {ids : Nat → Bool} (hd : ∀ id o,ρ.m id = some o → ids id = false) : ∀ (l : List (D × V)) (es : List MapEntry),Y7 w ρ l es → Jb ids l = false
 | [],_,_ => rfl
 | (k,v) :: r,es,h => by
  obtain ⟨e,es',_,_,h3,h4⟩ := h
  simp only [Jb,V.men_temp hd h3,Xix hd r es' h4,Bool.or_self]
theorem Xch.noMen {ids : Nat → Bool} (hd : ∀ id o,ρ.m id = some o → ids id = false) {j : Nat} {x : Ob} (h : Xch w ρ j x) : x.noMen ids := by
 cases x with
 | box E t => obtain ⟨b,cs,_,_,h3⟩ := h; exact V.men_dom hd _ _ h3
 | vec E sz xs =>
  rcases h with ⟨_,rfl⟩ | ⟨b,cap,cs,sp,_,_,h3,_⟩
  ·rfl
  ·exact V.menCs_dom hd _ _ h3
 | map es => obtain ⟨b,l,clk,_,_,h3⟩ := h; exact Xix hd _ _ h3
 | arr E sz xs => trivial
 | gone => trivial
theorem Xed {P : Prg} (hm : P.p.follows .mixedOrders = true) {f : Nat} {s : S} {rs : List RV} {vs : List V} {ob : Objs} {K : Out → Objs → Prop} (hc : Yh P.p f vs.length s rs = true)
  (h : cwp P s (V6 (fresh ob) rs K) (Jg 0 vs) ob) : ACall P f vs ob K := by
 unfold Yh at hc
 split at hc
 ·rename_i fn hf
  split at hc
  ·rename_i code hb
   simp only [Bool.and_eq_true,decide_eq_true_eq] at hc
   obtain ⟨⟨hn,h1⟩,h2⟩ := hc
   refine ⟨fun w ρ args hO hg hr => calls_of_wp hf hb ?_⟩
   let c : Ctx := ⟨w,Xo3 ρ,fn.ntmps,[],P.g,ρ.m,[]⟩
   have hlen : args.length = vs.length := by simpa using Z5 hr
   have m : Mod c ρ.xo ρ (Jg 0 vs) ob { tmps := args.toArray ++ Array.replicate (fn.ntmps - args.toArray.size) undef,defers := [] } w := by
    refine ⟨⟨Nat.le_refl _,fun _ _ _ => rfl,fun b h => .inr h,rfl,rfl,rfl,fun id o h => ⟨o,h,.refl o⟩,(fun p hp => by cases hp)⟩,hO,?_,?_,rfl,rfl,hg⟩
    ·refine Jh hr 0 _ (fun i hi => ?_)
     simp [Array.getElem?_append,hi]
    ·simp [c]; omega
   refine wp_mono (Yx hm rfl code s _ _ _ ρ _ w h1 h m) ?_
   rintro e a' w' ⟨ae,sl',ob',ρ',hq,he,m'⟩
   have old : ∀ kp id o,ρ.m id = some o → young (fresh ob) kp id = false := fun kp id o h0 => by
    obtain ⟨x,hx⟩ := hO.dom id o h0
    have hlt : ¬ fresh ob ≤ id := fun hle => by rw [Yj _ _ hle] at hx; cases hx
    simp [young,hlt]
   have tr : ∀ {ρ2 : Env},Tr w' ρ' w' ρ2 → ∀ kp,Tr w ρ w' (ρ2.del (young (fresh ob) kp)) := fun {ρ2} t kp => by
    have b2 := m'.base.tr t
    refine ⟨b2.size,fun b h1 h2 => b2.keep b h2 h1,fun b h1 => (b2.owns b (Qp h1)).symm,?_,?_,fun id o h1 => ?_,b2.tape,b2.os,b2.out⟩
    ·show ρ2.xo = ρ.xo; rw [t.xo,m'.xo]
    ·show ρ2.gl = ρ.gl; rw [t.gl,m'.gl,hg]
    ·obtain ⟨o',h3,h4⟩ := b2.same id o h1
     exact ⟨o',by simp only [Env.del,old kp id o h1]; exact h3,h4⟩
   have hfin : Vn sl' ob' rs (fun vs => Xft vs ob' fun vs ob' => Xv (fresh ob) (K (.ret (V3 vs))) vs ob') → a'.defers = [] ∧ ∃ v,(results fn a'.tmps).run P.p w' = .ok v w' ∧ ∃ out ob2 ρ2,K out ob2 ∧ Xr2 w' ρ2 (.returned v) out ∧ OM w' ρ2 ob2 ∧ Tr w ρ w' ρ2 := by
    intro hq
    obtain ⟨vs,us,hk,hrep,hrun⟩ := Uj (P := P.p) (fn := fn) m'.sm m'.om h2 hq
    obtain ⟨vs',ob2,ρ2,⟨kp,k1,k2,k3⟩,t2,o2,hr2⟩ := Xc0 vs us m'.om hrep hk
    exact ⟨m'.df,Xwb us,hrun,.ret (V3 vs'),_,_,k3,Xad (Xji k1 hr2),o2.del k2,tr t2 kp⟩
   cases ae with
   | normal =>
    cases e <;> simp only [exM] at he
    exact hfin hq
   | ret =>
    cases e <;> simp only [exM] at he
    exact hfin hq
   | exit n => exact hq.elim
   | panic v =>
    cases e <;> simp only [exM] at he
    obtain ⟨u,rfl,hu⟩ := he
    obtain ⟨kp,k1,k2,k3⟩ := hq
    simp only [V.mens,Bool.or_false] at k1
    exact ⟨m'.df,.panic v,_,_,k3,⟨u,rfl,V.rep_del k1 hu⟩,m'.om.del k2,tr (Tr.refl _ _) kp⟩
  ·simp at hc
 ·simp at hc

theorem ACall.of_wf {P : Prg} {f : Nat} {vs : List V} {ob : Objs} {K : Out → Objs → Prop} (h : (∀ kp,V.mens (young (fresh ob) kp) vs = false) → (∀ kp,noMenO (young (fresh ob) kp) ob = true) → ACall P f vs ob K) : ACall P f vs ob K := by
 refine ⟨fun w ρ args hO hg hr => ?_⟩
 have old : ∀ kp id o,ρ.m id = some o → young (fresh ob) kp id = false := fun kp id o h0 => by
  obtain ⟨x,hx⟩ := hO.dom id o h0
  have hlt : ¬ fresh ob ≤ id := fun hle => by rw [Yj _ _ hle] at hx; cases hx
  simp [young,hlt]
 exact (h (fun kp => V.mens_dom (old kp) _ _ hr) (fun kp => W3 ob fun e he => (hO.one e.1 _ (hO.once.look e he)).noMen (old kp))).run w ρ args hO hg hr

theorem X0q {P : Prg} {p : Program} (hP : P.p = p) (hm : p.follows .mixedOrders = true) {f : Nat} {s : S} {rs : List RV} {ds : List D} {ob0 : Objs} {K : V → Prop} (hc : Yh p f ds.length s rs = true)
  (h : cwp P s (Xa4 rs K) (Jg 0 (ds.map .d)) []) : PCall P f (ds.map .d) ob0 K := by
 subst hP
 exact Xe1 hm hc h
end
end Go.Ab
/- The equations by which an abstract state is walked. Over any program; no condition. -/
namespace Go.Ab
open Go
section
variable (P : Prg) (K : V → Prop) (KO : V → Objs → Prop) (Pn : V → Objs → Prop) (Q : Vp) (next : Xb → Objs → Prop) (sl : Xb) (ob : Objs) (r : Xb) (ro : Objs) (v v' : V) (x y z : A) (k j n : Nat) (b c : Bool) (m m' : Int) (kd kd' : IntKind) (s s' : List UInt8) (xs : List D) (vs : List V) (d : D)
@[simp] theorem Xk1 : look ((k,v) :: r) k = v := by simp [look]
@[simp] theorem Xt4 (h : (j == k) = false) : look ((j,v) :: r) k = look r k := by simp at h; simp [look,h]
@[simp] theorem lookO_eq (o : Ob) : lookO ((k,o) :: ro) k = some o := by simp [lookO]
@[simp] theorem Xn (o : Ob) (h : (j == k) = false) : lookO ((j,o) :: ro) k = lookO ro k := by simp at h; simp [lookO,h]
@[simp] theorem Xwh (o o' : Ob) : setO ((k,o) :: ro) k o' = (k,o') :: ro := by simp [setO]
@[simp] theorem Yo (o o' : Ob) (h : (j == k) = false) : setO ((j,o) :: ro) k o' = (j,o) :: setO ro k o' := by simp at h; simp [setO,h]
@[simp] theorem put_some : put sl (some k) v = (k,v) :: sl := by simp only [put]
@[simp] theorem put_none : put sl none v = sl := by simp only [put]
@[simp] theorem Ydw : A.ev sl (.t k) = look sl k := by simp only [A.ev]
@[simp] theorem ev_int : A.ev sl (.int kd m) = .d (.int kd m) := by simp only [A.ev]
@[simp] theorem ev_bool : A.ev sl (.bool b) = .d (.bool b) := by simp only [A.ev]
@[simp] theorem ev_str : A.ev sl (.str s) = .d (.str s) := by simp only [A.ev]
@[simp] theorem ev_nils : A.ev sl .nils = .d .nils := by simp only [A.ev]
@[simp] theorem ev_nili : A.ev sl .nili = .d .nili := by simp only [A.ev]
@[simp] theorem ev_fn : A.ev sl (.fn k) = .fn k [] [] := by simp only [A.ev]
-- calm operations
@[simp] theorem wp_mv : C.wp sl ob K (.mv x) = K (x.ev sl) := by simp only [C.wp]
@[simp] theorem X7r : Xa3 K (.d (.bool true)) v v' = K v := by unfold Xa3; split <;> simp_all
@[simp] theorem X7q : Xa3 K (.d (.bool false)) v v' = K v' := by unfold Xa3; split <;> simp_all
@[simp] theorem wp_not : C.wp sl ob K (.not x) = Xvo K (x.ev sl) := by simp only [C.wp]
@[simp] theorem notK_b : Xvo K (.d (.bool b)) = K (.d (.bool (!b))) := by simp only [Xvo]
@[simp] theorem wp_bin (op : BinOp) : C.wp sl ob K (.bin op x y) = Xn8 op K (x.ev sl) (y.ev sl) := by simp only [C.wp]
@[simp] theorem binK_i (op : BinOp) : Xn8 op K (.d (.int kd m)) (.d (.int kd' m')) = Xxj op kd kd' m m' K := by simp only [Xn8]
@[simp] theorem binK_s (op : BinOp) : Xn8 op K (.d (.str s)) (.d (.str s')) = Xpd op s s' K := by simp only [Xn8]
@[simp] theorem strK_add : Xpd .add s s' K = (s.length + s'.length ≤ 9223372036854775807 ∧ K (.d (.str (s ++ s')))) := by simp [Xpd]
@[simp] theorem strK_eql : Xpd .eql s s' K = K (.d (.bool (s == s'))) := by simp [Xpd]
@[simp] theorem strK_neq : Xpd .neq s s' K = K (.d (.bool (s != s'))) := by simp [Xpd]
@[simp] theorem wp_isnil : C.wp sl ob K (.isnil b x) = Vx b K (x.ev sl) := by simp only [C.wp]
@[simp] theorem isnilK_n : Vx b K (.d .nili) = K (.d (.bool b)) := by simp only [Vx]
@[simp] theorem isnilK_di : Vx b K (.d (.iface k d)) = K (.d (.bool (!b))) := by simp only [Vx]
@[simp] theorem wp_fnil : C.wp sl ob K (.fnil b x) = Xav b K (x.ev sl) := by simp only [C.wp]
@[simp] theorem fnilK_n : Xav b K (.d .nilf) = K (.d (.bool b)) := by simp only [Xav]
@[simp] theorem fnilK_f (l1 l2 : List V) : Xav b K (.fn k l1 l2) = K (.d (.bool (!b))) := by simp only [Xav]
@[simp] theorem mkiV_d : X0l k (.d d) = .d (.iface k d) := by simp only [X0l]
@[simp] theorem mkfV_eq (l1 l2 : List V) : X1y k l1 l2 = X7h k l1 l2 (V.allD l1) (V.allD l2) := by simp only [X1y]
@[simp] theorem mkfO_n1 (l1 l2 : List V) (o : Option (List D)) : X7h k l1 l2 none o = .fn k l1 l2 := by cases o <;> simp only [X7h]
@[simp] theorem mkfO_n2 (l1 l2 : List V) (o : Option (List D)) : X7h k l1 l2 o none = .fn k l1 l2 := by cases o <;> simp only [X7h]
@[simp] theorem wp_cvi : C.wp sl ob K (.cvi kd x) = Xsu kd K (x.ev sl) := by simp only [C.wp]
@[simp] theorem cviK_i : Xsu kd K (.d (.int kd' m)) = K (.d (.int kd (kd.wrap m))) := by simp only [Xsu]
@[simp] theorem wp_idx : C.wp sl ob K (.idx x y) = Xxi K (x.ev sl) (y.ev sl) := by simp only [C.wp]
@[simp] theorem idxK_s : Xxi K (.d (.str s)) (.d (.int kd m)) = ((0 ≤ m ∧ m < s.length) ∧ K (.d (.int .u8 (s.getD m.toNat 0).toNat))) := by simp only [Xxi]
@[simp] theorem wp_idxA : C.wp sl ob K (.idxA n x y) = Q8 ob n K (x.ev sl) (y.ev sl) := by simp only [C.wp]
@[simp] theorem idxAK_l : Q8 ob n K (.d (.list n xs)) (.d (.int kd m)) = ((0 ≤ m ∧ m < xs.length) ∧ K (.d (.ref (xs.getD m.toNat default)))) := by simp [Q8]
@[simp] theorem wp_idxP : C.wp sl ob K (.idxP k n x y) = Xbt ob k n K (x.ev sl) (y.ev sl) := by simp only [C.wp]
@[simp] theorem idxPK_p (p : List Nat) : Xbt ob k n K (.ptr j p) (.d (.int kd m)) = ((0 ≤ m ∧ m < k) ∧ (∃ ks,Zg (atO ob j p) = some ks ∧ ks.length = k ∧ ∀ k ∈ ks,k.size = n) ∧ K (.ptr j (p ++ [m.toNat]))) := by simp only [Xbt]
@[simp] theorem idxPK_c : Xbt ob k n K (.d (.ref (.agg xs))) (.d (.int kd m)) = ((0 ≤ m ∧ m < k) ∧ xs.length = k ∧ (∀ x ∈ xs,x.sz = n) ∧ K (.d (.ref (xs.getD m.toNat default)))) := by simp only [Xbt]
@[simp] theorem wp_fldA : C.wp sl ob K (.fldA k n x) = Ux ob k n K (x.ev sl) := by simp only [C.wp]
@[simp] theorem fldAK_p (p : List Nat) : Ux ob k n K (.ptr j p) = U8 j p k n K (Zg (atO ob j p)) := by simp only [Ux]
@[simp] theorem fldAKo_s (p : List Nat) : U8 j p k n K (some vs) = (k < vs.length ∧ Sh.sizes ((vs.take k).map V.shape) = n ∧ K (.ptr j (p ++ [k]))) := by simp only [U8]
@[simp] theorem fldAK_c : Ux ob k n K (.d (.ref (.agg xs))) = (k < xs.length ∧ D.szs (xs.take k) = n ∧ K (.d (.ref (xs.getD k default)))) := by simp only [Ux]
@[simp] theorem wp_fld : C.wp sl ob K (.fld k j n b x) = Xxg k j n b K (x.ev sl).kids := by simp only [C.wp]
@[simp] theorem wp_ld : C.wp sl ob K (.ld n b x) = ldK ob n b K (x.ev sl) := by simp only [C.wp]
@[simp] theorem ldK_p (p : List Nat) : ldK ob n b K (.ptr j p) = Xfx n b K (atO ob j p) := by simp only [ldK]
@[simp] theorem ldKo_s : Xfx n b K (some v) = (v.size = n ∧ v.isAgg = b ∧ K v) := by simp only [Xfx]
@[simp] theorem ldK_c : ldK ob n b K (.d (.ref d)) = (d.sz = n ∧ (V.d d).isAgg = b ∧ K (.d d)) := by simp only [ldK]
@[simp] theorem wp_nilc : C.wp sl ob K (.nilc x) = U0 K (x.ev sl) := by simp only [C.wp]
@[simp] theorem nilcK_p (p : List Nat) : U0 K (.ptr j p) = K (.ptr j p) := by simp only [U0]
@[simp] theorem nilcK_c : U0 K (.d (.ref d)) = K (.d (.ref d)) := by simp only [U0]
@[simp] theorem wp_lenS : C.wp sl ob K (.lenS x) = Xc3 K (x.ev sl) := by simp only [C.wp]
@[simp] theorem lenSK_s : Xc3 K (.d (.str s)) = K (.d (.int .i64 s.length)) := by simp only [Xc3]
@[simp] theorem wp_lenL : C.wp sl ob K (.lenL x) = J2 ob K (x.ev sl) := by simp only [C.wp]
@[simp] theorem lenLK_l : J2 ob K (.d (.list n xs)) = K (.d (.int .i64 xs.length)) := by simp only [J2]
@[simp] theorem lenLK_n : J2 ob K (.d .nils) = K (.d (.int .i64 0)) := by simp only [J2]
@[simp] theorem lenLK_o : J2 ob K (.sl j n) = (((∃ E z xs,lookO ob j = some (.arr E z xs) ∧ n = xs.length) ∨ ∃ E z xs,lookO ob j = some (.vec E z xs) ∧ n = xs.length) ∧ K (.d (.int .i64 n))) := by simp only [J2]
@[simp] theorem wp_slcS (lo hi : Option A) : C.wp sl ob K (.slcS x lo hi) = Xea (lo.map (A.ev sl)) (hi.map (A.ev sl)) K (x.ev sl) := by simp only [C.wp]
@[simp] theorem slcSK_s (lo hi : Option V) : Xea lo hi K (.d (.str s)) = Ji s.length (fun l h => K (.d (.str ((s.take h).drop l)))) lo hi := by simp only [Xea]
@[simp] theorem wp_slcL (lo hi : Option A) : C.wp sl ob K (.slcL n x lo hi) = Xd8 n (lo.map (A.ev sl)) (hi.map (A.ev sl)) K (x.ev sl) := by simp only [C.wp]
@[simp] theorem slcLK_l (lo hi : Option V) : Xd8 n lo hi K (.d (.list n xs)) = Ji xs.length (fun l h => K (.d (.list n ((xs.take h).drop l)))) lo hi := by simp [Xd8]
@[simp] theorem bndK_sn (KK : Nat → Nat → Prop) : Ji n KK (some (.d (.int kd m))) none = ((0 ≤ m ∧ m ≤ n) ∧ KK m.toNat n) := by simp only [Ji]
@[simp] theorem bndK_ns (KK : Nat → Nat → Prop) : Ji n KK none (some (.d (.int kd m))) = ((0 ≤ m ∧ m ≤ n) ∧ KK 0 m.toNat) := by simp only [Ji]
@[simp] theorem bndK_ss (KK : Nat → Nat → Prop) : Ji n KK (some (.d (.int kd m))) (some (.d (.int kd' m'))) = ((0 ≤ m' ∧ m' ≤ n) ∧ (0 ≤ m ∧ m ≤ m') ∧ KK m.toNat m'.toNat) := by simp only [Ji]
@[simp] theorem wp_ext : C.wp sl ob K (.ext x n) = Xhq n K (x.ev sl) := by simp only [C.wp]
@[simp] theorem extK_t : Xhq n K (.tup vs) = (n < vs.length ∧ K (vs.getD n .any)) := by simp only [Xhq]
@[simp] theorem wp_bld (ps : List (Nat × A)) : C.wp sl ob K (.bld xs ps) = Jf (xs.map .d) (ps.map fun p => (p.1,p.2.ev sl)) fun ks => K (V.mk ks) := by simp only [C.wp]
@[simp] theorem bldK_n (KL : List V → Prop) : Jf vs [] KL = KL vs := by simp only [Jf]
@[simp] theorem bldK_c (KL : List V → Prop) (l : List (Nat × V)) : Jf vs ((k,v) :: l) KL = (k < vs.length ∧ v.shape = (vs.getD k .any).shape ∧ v ≠ .any ∧ Jf (vs.set k v) l KL) := by simp only [Jf]
@[simp] theorem wp_mkf (l l' : List A) : C.wp sl ob K (.mkf k l l') = K (X1y k (l.map (A.ev sl)) (l'.map (A.ev sl))) := by simp only [C.wp]
@[simp] theorem wp_mki : C.wp sl ob K (.mki k x) = K (X0l k (x.ev sl)) := by simp only [C.wp]
@[simp] theorem wp_tas : C.wp sl ob K (.tas k d x) = X04 k d K (x.ev sl) := by simp only [C.wp]
-- trees
@[simp] theorem kids_agg : V.kids (.agg vs) = some vs := by simp only [V.kids]
@[simp] theorem kids_d : V.kids (.d (.agg xs)) = some (xs.map .d) := by simp only [V.kids]
@[simp] theorem kidsO_s : Zg (some v) = v.kids := by simp only [Zg]
def atB (p : List Nat) : Option Ob → Option V
 | some (.box _ t) => t.at p
 | _ => none
@[simp] theorem atO_b (p : List Nat) : atO ob k p = atB p (lookO ob k) := by
 unfold atO atB
 cases lookO ob k with
 | none => rfl
 | some o => cases o <;> rfl
@[simp] theorem atB_s (p : List Nat) (E : Nat) : atB p (some (.box E v)) = v.at p := by simp only [atB]
@[simp] theorem at_nil : V.at v [] = some v := by simp [V.at]
def Xhx (i : Nat) (p : List Nat) : Option (List V) → Option V
 | some ks => atKid' p ks[i]?
 | none => none
where atKid' (p : List Nat) : Option V → Option V
 | some k => V.at k p
 | none => none
@[simp] theorem at_cons (p : List Nat) : V.at v (k :: p) = Xhx k p v.kids := by
 simp only [V.at,Xhx]
 cases v.kids with
 | none => rfl
 | some ks => simp only [Xhx.atKid']; cases ks[k]? <;> rfl
@[simp] theorem atKid_s (p : List Nat) : Xhx k p (some vs) = Xhx.atKid' p vs[k]? := by simp only [Xhx]
@[simp] theorem atKid'_s (p : List Nat) : Xhx.atKid' p (some v) = V.at v p := by simp only [Xhx.atKid']
@[simp] theorem set_nil : V.set v [] v' = some v' := by simp [V.set]
def Ut (i : Nat) (p : List Nat) (x : V) : Option (List V) → Option V
 | some ks => setKid1 i p x ks ks[i]?
 | none => none
where
 setKid1 (i : Nat) (p : List Nat) (x : V) (ks : List V) : Option V → Option V
 | some k => setKid2 i ks (V.set k p x)
 | none => none
 setKid2 (i : Nat) (ks : List V) : Option V → Option V
 | some k' => some (V.mk (ks.set i k'))
 | none => none
@[simp] theorem set_cons (p : List Nat) : V.set v (k :: p) v' = Ut k p v' v.kids := by
 simp only [V.set,Ut]
 cases v.kids with
 | none => rfl
 | some ks =>
  simp only [Ut.setKid1]
  cases ks[k]? with
  | none => rfl
  | some y => simp only [Ut.setKid2]; cases V.set y p v' <;> rfl
@[simp] theorem setKid_s (p : List Nat) : Ut k p v (some vs) = Ut.setKid1 k p v vs vs[k]? := by simp only [Ut]
@[simp] theorem setKid1_s (p : List Nat) : Ut.setKid1 k p v vs (some v') = Ut.setKid2 k vs (V.set v' p v) := by simp only [Ut.setKid1]
@[simp] theorem setKid2_s : Ut.setKid2 k vs (some v) = some (V.mk (vs.set k v)) := by simp only [Ut.setKid2]
@[simp] theorem allD_nil : V.allD [] = some [] := by simp [V.allD]
def Xbs (x : D) : Option (List D) → Option (List D)
 | some l => some (x :: l)
 | none => none
@[simp] theorem allD_cons : V.allD (.d d :: vs) = Xbs d (V.allD vs) := by simp only [V.allD]; cases V.allD vs <;> rfl
@[simp] theorem consD_s : Xbs d (some xs) = some (d :: xs) := by simp only [Xbs]
@[simp] theorem consD_n : Xbs d none = none := by simp only [Xbs]
@[simp] theorem allD_map : V.allD (xs.map .d) = some xs := by induction xs with | nil => rfl | cons x r ih => simp [ih]
@[simp] theorem allD_fn (a1 a2 : List V) : V.allD (.fn k a1 a2 :: vs) = none := by simp only [V.allD]
@[simp] theorem allD_sl : V.allD (.sl k n :: vs) = none := by simp only [V.allD]
@[simp] theorem allD_agg (l : List V) : V.allD (.agg l :: vs) = none := by simp only [V.allD]
@[simp] theorem allD_ptr (p : List Nat) : V.allD (.ptr k p :: vs) = none := by simp only [V.allD]
def mkO (vs : List V) : Option (List D) → V
 | some l => .d (.agg l)
 | none => .agg vs
@[simp] theorem Yhl : V.mk vs = mkO vs (V.allD vs) := by unfold V.mk mkO; cases V.allD vs <;> rfl
@[simp] theorem mkO_s : mkO vs (some xs) = .d (.agg xs) := by simp only [mkO]
@[simp] theorem mkO_n : mkO vs none = .agg vs := by simp only [mkO]
-- sizes,shapes
attribute [simp] D.sz D.szs Sh.size Sh.sizes D.shape D.shapes V.shape V.shapes V.isAgg V.sto V.stos V.size V.men V.mens
-- operations on memory
@[simp] theorem qx (e : C) : I.wp P sl ob KO Pn (.c e) = e.wp sl ob (fun v => KO v ob) := by simp only [I.wp]
@[simp] theorem qw : I.wp P sl ob KO Pn (.box k x) = Xra k ob KO (x.ev sl) := by simp only [I.wp]
@[simp] theorem qr : I.wp P sl ob KO Pn (.alloc k d) = Xra k ob KO (.d d) := by simp only [I.wp]
@[simp] theorem boxK_eq : Xra k ob KO v = (v.sto = true ∧ KO (.ptr (fresh ob) []) ((fresh ob,.box k v) :: ob)) := by simp only [Xra]
@[simp] theorem qu (ps : List (Nat × A)) : I.wp P sl ob KO Pn (.bls n xs ps) = Jf (xs.map .d) (ps.map fun p => (p.1,p.2.ev sl)) (fun ks => dK (fun l => KO (.d (.list n l)) ob) (V.allD ks)) := by simp only [I.wp]
@[simp] theorem dK_s (KD : List D → Prop) : dK KD (some xs) = KD xs := by simp only [dK]
@[simp] theorem qt (ps : List (Nat × A)) : I.wp P sl ob KO Pn (.blo j n xs ps) = Jf (xs.map .d) (ps.map fun p => (p.1,p.2.ev sl)) (fun ks => dK (fun l => KO (.sl (fresh ob) l.length) ((fresh ob,.arr j n l) :: ob)) (V.allD ks)) := by simp only [I.wp]
@[simp] theorem zi : I.wp P sl ob KO Pn (.st n x y) = stK ob n (y.ev sl) KO (x.ev sl) := by simp only [I.wp]
@[simp] theorem stK_p (p : List Nat) : stK ob n v KO (.ptr k p) = stKo ob k p n v KO (lookO ob k) := by simp only [stK]
@[simp] theorem stKo_s (p : List Nat) (t : V) (E : Nat) : stKo ob k p n v KO (some (.box E t)) = Xw1 ob k p n E v t KO (t.at p) := by simp only [stKo]
def X8p (ob : Objs) (id E : Nat) (K : V → Objs → Prop) : Option V → Prop
 | some t' => K .undef (setO ob id (.box E t'))
 | none => False
@[simp] theorem stKt_s (p : List Nat) (t : V) (E : Nat) : Xw1 ob k p n E v t KO (some v') = (v.shape = v'.shape ∧ v'.size = n ∧ v.sto = true ∧ X8p ob k E KO (t.set p v)) := by
 simp only [Xw1]; cases t.set p v <;> simp [X8p]
@[simp] theorem stKs_s (E : Nat) : X8p ob k E KO (some v) = KO .undef (setO ob k (.box E v)) := by simp only [X8p]
@[simp] theorem qs (E sz B : Nat) : I.wp P sl ob KO Pn (.app E sz B x y) = Xwz sz (fun ys => Xdv E sz B ob ys KO (x.ev sl)) (y.ev sl) := by simp only [I.wp]
@[simp] theorem srcK_l (KD : List D → Prop) : Xwz n KD (.d (.list n xs)) = KD xs := by simp [Xwz]
@[simp] theorem appK_s (E sz B : Nat) : Xdv E sz B ob xs KO (.sl k n) = Xdx k E sz B n ob xs KO (lookO ob k) := by simp [Xdv]
@[simp] theorem appK_n (E sz B : Nat) : Xdv E sz B ob xs KO (.d .nils) = ((2 * xs.length + 192) * B ≤ 281474976710656 ∧ KO (.sl (fresh ob) xs.length) ((fresh ob,.arr E sz xs) :: ob)) := by simp only [Xdv]
@[simp] theorem appKo_s (E sz B : Nat) (ys : List D) : Xdx k E sz B n ob xs KO (some (.arr E sz ys)) = (n = ys.length ∧ (2 * (ys.length + xs.length) + 192) * B ≤ 281474976710656 ∧ KO (.sl k (ys.length + xs.length)) (setO ob k (.arr E sz (ys ++ xs)))) := by simp [Xdx]
@[simp] theorem iwp_appS (E B : Nat) : I.wp P sl ob KO Pn (.appS E B x y) = Xhe (fun ys => Xdv E 1 B ob ys KO (x.ev sl)) (y.ev sl) := by simp only [I.wp]
@[simp] theorem srcSK_s (KD : List D → Prop) : Xhe KD (.d (.str s)) = KD (bytesD s) := by simp only [Xhe]
@[simp] theorem zd : I.wp P sl ob KO Pn (.mvf x) = Xig KO (V.giv ob (x.ev sl)) := by simp only [I.wp]
@[simp] theorem zb : I.wp P sl ob KO Pn (.ldf n b x) = X0a n b ob KO (x.ev sl) := by simp only [I.wp]
@[simp] theorem ze (E sz : Nat) (p : List Nat) : I.wp P sl ob KO Pn (.mvg E sz y x p) = Xj2 ob E sz p (y.ev sl) KO (x.ev sl) := by simp only [I.wp]
@[simp] theorem zf (l : List (Nat × Nat × List Nat)) : I.wp P sl ob KO Pn (.mvn y x l) = X10 (y.ev sl) KO (x.ev sl) l ob := by simp only [I.wp]
@[simp] theorem mvgK_p (E sz : Nat) (p q : List Nat) : Xj2 ob E sz p v KO (.ptr k q) = Xd3 ob k (q ++ p) E sz v KO (lookO ob k) := by simp only [Xj2]
@[simp] theorem mvgKt_s (E E0 sz : Nat) (p : List Nat) (t : V) : Xd3 ob k p E sz v KO (some (.box E0 t)) = ((t.at p = some (.d .nils) ∧ Xiz ob k E0 E sz v KO (t.set p (.sl (fresh ob) 0))) ∨ ((∃ i n,t.at p = some (.sl i n)) ∧ KO v ob)) := by simp only [Xd3]
@[simp] theorem mvgKs_s (E E0 sz : Nat) (t : V) : Xiz ob k E0 E sz v KO (some t) = KO v ((fresh ob,.arr E sz []) :: setO ob k (.box E0 t)) := by simp only [Xiz]
@[simp] theorem iwp_cvb : I.wp P sl ob KO Pn (.cvb x) = Xst ob KO (x.ev sl) := by simp only [I.wp]
@[simp] theorem cvbK_s : Xst ob KO (.sl k n) = Xfl k n ob KO (lookO ob k) := by simp only [Xst]
@[simp] theorem cvbKo_s (E sz : Nat) : Xfl k n ob KO (some (.arr E sz xs)) = (sz ≠ 0 ∧ n = xs.length ∧ xs ≠ [] ∧ KO (.d (.list sz xs)) (setO ob k .gone)) := by simp only [Xfl]
@[simp] theorem wp_usd : C.wp sl ob K (.usd x) = Xq3 ob K (x.ev sl) := by simp only [C.wp]
@[simp] theorem usdK_s : Xq3 ob K (.sl k n) = ((∃ E sz xs,lookO ob k = some (.arr E sz xs) ∧ sz ≠ 0 ∧ n = xs.length ∧ xs ≠ []) ∧ K (.sd k n)) := by simp only [Xq3]
@[simp] theorem usdK_n : Xq3 ob K (.d .nils) = K (.d .nilp) := by simp only [Xq3]
@[simp] theorem iwp_ustr (E : Nat) : I.wp P sl ob KO Pn (.ustr E x y) = Xa6 E ob KO (x.ev sl) (y.ev sl) := by simp only [I.wp]
@[simp] theorem ustrK_s (E : Nat) : Xa6 E ob KO (.sd k n) (.d (.int .i64 m)) = Xag k n m E ob KO (lookO ob k) := by simp only [Xa6]
@[simp] theorem ustrK_n (E : Nat) : Xa6 E ob KO (.d .nilp) (.d (.int .i64 m)) = (m = 0 ∧ KO (.d (.str [])) ob) := by simp only [Xa6]
@[simp] theorem ustrKo_s (E E' sz : Nat) : Xag k n m E ob KO (some (.arr E' sz xs)) = (E' = E ∧ sz = 1 ∧ n = xs.length ∧ m = n ∧ n ≤ 9223372036854775807 ∧ xs ≠ [] ∧ ∃ s,xs = bytesD s ∧ KO (.d (.str s)) (setO ob k .gone)) := by simp only [Xag]
-- values given up
@[simp] theorem giv_d : V.giv ob (.d d) = some (d,ob) := by simp only [V.giv]
@[simp] theorem giv_sl : V.giv ob (.sl k n) = Xxh ob k n (lookO ob k) := by simp only [V.giv]
@[simp] theorem givO_s (E sz : Nat) : Xxh ob k n (some (.arr E sz xs)) = if sz ≠ 0 ∧ n = xs.length then some (.list sz xs,setO ob k .gone) else none := by simp only [Xxh]
@[simp] theorem giv_agg : V.giv ob (.agg vs) = Xhv (V.givs ob vs) := by simp only [V.giv]
@[simp] theorem giv_fn (l1 l2 : List V) : V.giv ob (.fn k l1 l2) = fnG k ob (V.allD l1) (V.allD l2) := by simp only [V.giv]
@[simp] theorem fnG_s (l1 l2 : List D) : fnG k ob (some l1) (some l2) = some (.fn k l1 l2,ob) := by simp only [fnG]
@[simp] theorem givs_nil : V.givs ob [] = some ([],ob) := by simp only [V.givs]
def Xsh (r : List V) : Option (D × Objs) → Option (List D × Objs)
 | some (x,ob1) => Uw x (V.givs ob1 r)
 | none => none
@[simp] theorem givs_cons : V.givs ob (v :: vs) = Xsh vs (V.giv ob v) := by
 simp only [V.givs]; cases V.giv ob v with
 | none => rfl
 | some q => obtain ⟨y,ob1⟩ := q; rfl
@[simp] theorem bindO_s : Xsh vs (some (d,ob)) = Uw d (V.givs ob vs) := by simp only [Xsh]
@[simp] theorem bindO_n : Xsh vs none = none := by simp only [Xsh]
@[simp] theorem consO_s (l : List D) : Uw d (some (l,ob)) = some (d :: l,ob) := by simp only [Uw]
@[simp] theorem consO_n : Uw d none = none := by simp only [Uw]
@[simp] theorem aggO_s (l : List D) : Xhv (some (l,ob)) = some (.agg l,ob) := by simp only [Xhv]
@[simp] theorem givsK_s (KD : List D → Objs → Prop) (l : List D) : W9 KD (some (l,ob)) = KD l ob := by simp only [W9]
@[simp] theorem gvsK_nil (KL : List V → Objs → Prop) : Xft [] ob KL = KL [] ob := by simp only [Xft]
@[simp] theorem gvsK_cons (KL : List V → Objs → Prop) : Xft (v :: vs) ob KL = gvO v ob (fun v' ob' => Xft vs ob' fun vs ob'' => KL (v' :: vs) ob'') (V.giv ob v) := by simp only [Xft]
@[simp] theorem gvO_s : gvO v ob KO (some (d,ro)) = KO (.d d) ro := by simp only [gvO]
-- names
@[simp] theorem fresh_nil : fresh [] = 0 := by simp only [fresh]
@[simp] theorem fresh_cons (o : Ob) : fresh ((k,o) :: ro) = if fresh ro ≤ k then k + 1 else fresh ro := by simp only [fresh]
@[simp] theorem fresh_set (o : Ob) : fresh (setO ob k o) = fresh ob := by
 induction ob with
 | nil => simp [setO]
 | cons e r ih => obtain ⟨i,y⟩ := e; simp only [setO]; split <;> simp [fresh,ih]
@[simp] theorem fresh_ne (h : (lookO ob k).isSome = true) : (fresh ob == k) = false := by
 rw [beq_eq_false_iff_ne]; intro e; rw [← e,Yp] at h; cases h
@[simp] theorem fresh_add_ne (h : (lookO ob k).isSome = true) : (fresh ob + n == k) = false := by
 rw [beq_eq_false_iff_ne]; intro e; rw [← e,Yj ob _ (by omega)] at h; cases h
@[simp] theorem lookO_set_eq (o : Ob) (h : (lookO ob k).isSome = true) : lookO (setO ob k o) k = some o := by
 rw [Xh ob k k (Option.isSome_iff_exists.1 h)]; simp
@[simp] theorem lookO_set_ne (o : Ob) (h : (j == k) = false) : lookO (setO ob j o) k = lookO ob k := by
 by_cases hs : (lookO ob j).isSome = true
 ·rw [Xh ob j k (Option.isSome_iff_exists.1 hs)]; simp at h; rw [if_neg (fun e => h e.symm)]
 ·have hn : lookO ob j = none := by simpa using hs
  have : ∀ (ob : Objs),lookO ob j = none → setO ob j o = ob := fun ob => by
   induction ob with
   | nil => intro _; rfl
   | cons e r ih => obtain ⟨i,y⟩ := e; intro h; simp only [lookO] at h; split at h; cases h; rename_i hne; simp [setO,hne,ih h]
  rw [this ob hn]
@[simp] theorem Xae (o o' : Ob) : setO (setO ob k o) k o' = setO ob k o' := by
 induction ob with
 | nil => rfl
 | cons e r ih =>
  obtain ⟨i,y⟩ := e
  by_cases h : i = k
  ·subst h; simp [setO]
  ·simp [setO,h,ih]
theorem Xjq (o : Ob) (h : lookO ob k = some o) : setO ob k o = ob := by
 induction ob with
 | nil => rfl
 | cons e r ih =>
  obtain ⟨i,y⟩ := e
  simp only [lookO] at h
  split at h
  ·rename_i e; cases h; simp [setO,e]
  ·rename_i e; simp [setO,e,ih h]
-- young objects dropped
@[simp] theorem young_lt (l : List Nat) (h : k < n) : young n l k = false := by simp [young]; omega
@[simp] theorem young_old (l : List Nat) (h : (lookO ob k).isSome = true) : young (fresh ob) l k = false := by
 have : k < fresh ob := by
  rcases Nat.lt_or_ge k (fresh ob) with h1 | h1
  ·exact h1
  ·rw [Yj ob k h1] at h; cases h
 simp [young]; omega
@[simp] theorem V2 : young n [] n = true := by simp [young]
@[simp] theorem young_add : young n [] (n + k) = true := by simp [young]
theorem noMenO_set_box (ids : Nat → Bool) (E : Nat) (h : noMenO ids ob = true) (hv : V.men ids v = false) : noMenO ids (setO ob k (.box E v)) = true := by
 induction ob with
 | nil => rfl
 | cons e r ih =>
  obtain ⟨i,y⟩ := e
  simp only [setO]
  split
  ·cases y <;> simp_all [noMenO]
  ·cases y <;> simp_all [noMenO]
theorem noMenO_set_arr (ids : Nat → Bool) (E z : Nat) (h : noMenO ids ob = true) : noMenO ids (setO ob k (.arr E z xs)) = true := by
 induction ob with
 | nil => rfl
 | cons e r ih =>
  obtain ⟨i,y⟩ := e
  simp only [setO]
  split
  ·cases y <;> simp_all [noMenO]
  ·cases y <;> simp_all [noMenO]
theorem Wa (ids : Nat → Bool) (E : Nat) (h : noMenO ids ob = true) (hl : lookO ob k = some (.box E v)) : V.men ids v = false := Zi ob k E v h hl
@[simp] theorem qy (l : List A) : I.wp P sl ob KO Pn (.call k l) = ACall P k (l.map (A.ev sl)) ob (Xm5 KO Pn) := by simp only [I.wp]
@[simp] theorem qz (l : List A) : I.wp P sl ob KO Pn (.callv x l) = U5 P (l.map (A.ev sl)) ob KO Pn (x.ev sl) := by simp only [I.wp]
@[simp] theorem callvK_f (a1 a2 : List V) : U5 P vs ob KO Pn (.fn k a1 a2) = (Xf P.p k = true ∧ ACall P k (a1 ++ vs ++ a2) ob (Xm5 KO Pn)) := by simp only [U5]
@[simp] theorem callvK_df (a1 a2 : List D) : U5 P vs ob KO Pn (.d (.fn k a1 a2)) = (Xf P.p k = true ∧ ACall P k (a1.map .d ++ vs ++ a2.map .d) ob (Xm5 KO Pn)) := by simp only [U5]
@[simp] theorem zk : Xm5 KO Pn (.ret v) ob = KO v ob := by simp only [Xm5]
@[simp] theorem zj : Xm5 KO Pn (.panic v) ob = Pn v ob := by simp only [Xm5]
@[simp] theorem iwp_panic : I.wp P sl ob KO Pn (.panic x) = J9 ob Pn (x.ev sl) := by simp only [I.wp]
@[simp] theorem panicK_d : J9 ob Pn (.d (.iface k d)) = Pn (.d (.iface k d)) ob := by simp only [J9]
@[simp] theorem zg (E sz : Nat) : I.wp P sl ob KO Pn (.nilo E sz x) = Xg8 E sz ob KO (x.ev sl) := by simp only [I.wp]
@[simp] theorem niloK_n (E sz : Nat) : Xg8 E sz ob KO (.d .nils) = KO (.sl (fresh ob) 0) ((fresh ob,.arr E sz []) :: ob) := by simp only [Xg8]
-- regions and statements
@[simp] theorem keepS_nil : Xd sl [] = [] := by simp only [Xd]
@[simp] theorem keepS_cons (l : List Nat) : Xd sl (k :: l) = (k,look sl k) :: Xd sl l := by simp only [Xd]
@[simp] theorem zh (l : List A) : I.wp P sl ob KO Pn (.pcall k l) = PCall P k (l.map (A.ev sl)) ob (fun v => KO v ob) := by simp only [I.wp]
@[simp] theorem condK_t (Y N : Prop) : Xaq Y N (.d (.bool true)) = Y := by simp [Xaq]
@[simp] theorem condK_f (Y N : Prop) : Xaq Y N (.d (.bool false)) = N := by simp [Xaq]
@[simp low] theorem condK_b (Y N : Prop) : Xaq Y N (.d (.bool b)) = ((b = true → Y) ∧ (b = false → N)) := by simp only [Xaq]
@[simp] theorem zy : Vb next Q .normal sl ob = next sl ob := by simp only [Vb]
@[simp] theorem zx : Vb next Q (.exit n) sl ob = Q (.exit n) sl ob := by simp only [Vb]
@[simp] theorem wc : Vb next Q .ret sl ob = Q .ret sl ob := by simp only [Vb]
@[simp] theorem zz : Vb next Q (.panic v) sl ob = Q (.panic v) sl ob := by simp only [Vb]
@[simp] theorem qb : Zs n Q .normal sl ob = Q .normal sl ob := by simp only [Zs]
@[simp] theorem qa : Zs n Q (.exit n) sl ob = Q .normal sl ob := by simp [Zs]
@[simp] theorem qd : Zs n Q .ret sl ob = Q .ret sl ob := by simp only [Zs]
@[simp] theorem qc : Zs n Q (.panic v) sl ob = Q (.panic v) sl ob := by simp only [Zs]
attribute [simp] Ur noMenO Xw
-- results
@[simp] theorem pureQ_r (rs : List RV) : Xa4 rs K .ret sl ob = Vn sl ob rs fun vs => W9 (fun l _ => K (V3 (l.map .d))) (V.givs ob vs) := by simp only [Xa4]
@[simp] theorem pureQ_p (rs : List RV) : Xa4 rs K (.panic v) sl ob = False := by simp only [Xa4]
@[simp] theorem qe (rs : List RV) (KU : Out → Objs → Prop) : V6 n rs KU .normal sl ob = Vn sl ob rs fun vs => Xft vs ob fun vs ob => Xv n (KU (.ret (V3 vs))) vs ob := by simp only [V6]
@[simp] theorem qg (rs : List RV) (KU : Out → Objs → Prop) : V6 n rs KU .ret sl ob = Vn sl ob rs fun vs => Xft vs ob fun vs ob => Xv n (KU (.ret (V3 vs))) vs ob := by simp only [V6]
@[simp] theorem qf (rs : List RV) (KU : Out → Objs → Prop) : V6 n rs KU (.panic v) sl ob = Xv n (KU (.panic v)) [v] ob := by simp only [V6]
@[simp] theorem resK_nil (KL : List V → Prop) : Vn sl ob [] KL = KL [] := by simp only [Vn]
@[simp] theorem resK_t (KL : List V → Prop) (rs : List RV) : Vn sl ob (.t k :: rs) KL = Vn sl ob rs fun vs => KL (look sl k :: vs) := by simp only [Vn,RV.wp]
@[simp] theorem resK_c (KL : List V → Prop) (rs : List RV) : Vn sl ob (.c k n b :: rs) KL = ldK ob n b (fun v => Vn sl ob rs fun vs => KL (v :: vs)) (look sl k) := by simp only [Vn,RV.wp]
@[simp] theorem retV_1 : V3 [v] = v := by simp only [V3]
@[simp] theorem retV_0 : V3 [] = .tup [] := by simp only [V3]
@[simp] theorem retV_2 : V3 (v :: v' :: vs) = .tup (v :: v' :: vs) := by simp only [V3]
@[simp] theorem argS_nil : Jg k [] = [] := by simp only [Jg]
@[simp] theorem argS_cons : Jg k (v :: vs) = (k,v) :: Jg (k + 1) vs := by simp only [Jg]
end

@[congr] theorem I_wp_congr {P : Prg} {sl : Xb} {ob : Objs} {KO : V → Objs → Prop} {Pn : V → Objs → Prop} {i : I} : I.wp P sl ob KO Pn i = I.wp P sl ob KO Pn i := rfl
@[congr] theorem C_wp_congr {sl : Xb} {ob : Objs} {K : V → Prop} {e : C} : C.wp sl ob K e = C.wp sl ob K e := rfl
@[congr] theorem rwp_congr {P : Prg} {KS : Xb → Objs → Prop} {PS : V → Xb → Objs → Prop} {l : List It} {sl : Xb} {ob : Objs} : rwp P KS PS l sl ob = rwp P KS PS l sl ob := rfl
@[congr] theorem gdK_congr {k : Nat} {b : Bool} {sl : Xb} {Y N : Xb → Prop} {v v' : V} (h0 : v = v') : gdK k b sl Y N v = gdK k b sl Y N v' := by rw [h0]
@[congr] theorem condK_congr {Y N : Prop} {v v' : V} (h0 : v = v') : Xaq Y N v = Xaq Y N v' := by rw [h0]
@[congr] theorem pickK_congr {K : V → Prop} {u u' : V} {v v' : V} {w w' : V} (h0 : u = u') (h1 : v = v') (h2 : w = w') : Xa3 K u v w = Xa3 K u' v' w' := by rw [h0,h1,h2]
@[congr] theorem notK_congr {K : V → Prop} {v v' : V} (h0 : v = v') : Xvo K v = Xvo K v' := by rw [h0]
@[congr] theorem cplK_congr {K : V → Prop} {v v' : V} (h0 : v = v') : X5u K v = X5u K v' := by rw [h0]
@[congr] theorem mxK_congr {K : V → Prop} {u u' v v' : V} (h0 : u = u') (h1 : v = v') : mxK K u v = mxK K u' v' := by rw [h0,h1]
@[congr] theorem negK_congr {K : V → Prop} {v v' : V} (h0 : v = v') : X7k K v = X7k K v' := by rw [h0]
@[congr] theorem cvsK_congr {K : V → Prop} {v v' : V} (h0 : v = v') : X5w K v = X5w K v' := by rw [h0]
@[congr] theorem nilcK_congr {K : V → Prop} {v v' : V} (h0 : v = v') : U0 K v = U0 K v' := by rw [h0]
@[congr] theorem lenSK_congr {K : V → Prop} {v v' : V} (h0 : v = v') : Xc3 K v = Xc3 K v' := by rw [h0]
@[congr] theorem b2sK_congr {K : V → Prop} {v v' : V} (h0 : v = v') : X79 K v = X79 K v' := by rw [h0]
@[congr] theorem s2bK_congr {K : V → Prop} {v v' : V} (h0 : v = v') : X8m K v = X8m K v' := by rw [h0]
@[congr] theorem binK_congr {op : BinOp} {K : V → Prop} {u u' : V} {v v' : V} (h0 : u = u') (h1 : v = v') : Xn8 op K u v = Xn8 op K u' v' := by rw [h0,h1]
@[congr] theorem intK_congr {op : BinOp} {k j : IntKind} {K : V → Prop} {a a' : Int} {b b' : Int} (h0 : a = a') (h1 : b = b') : Xxj op k j a b K = Xxj op k j a' b' K := by rw [h0,h1]
@[congr] theorem strK_congr {op : BinOp} {K : V → Prop} {a a' : List UInt8} {b b' : List UInt8} (h0 : a = a') (h1 : b = b') : Xpd op a b K = Xpd op a' b' K := by rw [h0,h1]
@[congr] theorem beqK_congr {e : Bool} {K : V → Prop} {u u' : V} {v v' : V} (h0 : u = u') (h1 : v = v') : X48 e K u v = X48 e K u' v' := by rw [h0,h1]
@[congr] theorem isnilK_congr {e : Bool} {K : V → Prop} {v v' : V} (h0 : v = v') : Vx e K v = Vx e K v' := by rw [h0]
@[congr] theorem cviK_congr {k : IntKind} {K : V → Prop} {v v' : V} (h0 : v = v') : Xsu k K v = Xsu k K v' := by rw [h0]
@[congr] theorem idxK_congr {K : V → Prop} {u u' : V} {v v' : V} (h0 : u = u') (h1 : v = v') : Xxi K u v = Xxi K u' v' := by rw [h0,h1]
@[congr] theorem idxAK_congr {ob : Objs} {n : Nat} {K : V → Prop} {u u' : V} {v v' : V} (h0 : u = u') (h1 : v = v') : Q8 ob n K u v = Q8 ob n K u' v' := by rw [h0,h1]
@[congr] theorem idxPK_congr {ob : Objs} {k n : Nat} {K : V → Prop} {u u' : V} {v v' : V} (h0 : u = u') (h1 : v = v') : Xbt ob k n K u v = Xbt ob k n K u' v' := by rw [h0,h1]
@[congr] theorem fldAK_congr {ob : Objs} {k n : Nat} {K : V → Prop} {v v' : V} (h0 : v = v') : Ux ob k n K v = Ux ob k n K v' := by rw [h0]
@[congr] theorem fldAKo_congr {j : Nat} {p : List Nat} {k n : Nat} {K : V → Prop} {v v' : Option (List V)} (h0 : v = v') : U8 j p k n K v = U8 j p k n K v' := by rw [h0]
@[congr] theorem fldK_congr {k j n : Nat} {b : Bool} {K : V → Prop} {v v' : Option (List V)} (h0 : v = v') : Xxg k j n b K v = Xxg k j n b K v' := by rw [h0]
@[congr] theorem ldK_congr {ob : Objs} {n : Nat} {b : Bool} {K : V → Prop} {v v' : V} (h0 : v = v') : ldK ob n b K v = ldK ob n b K v' := by rw [h0]
@[congr] theorem ldKo_congr {n : Nat} {b : Bool} {K : V → Prop} {v v' : Option V} (h0 : v = v') : Xfx n b K v = Xfx n b K v' := by rw [h0]
@[congr] theorem lenLK_congr {ob : Objs} {K : V → Prop} {v v' : V} (h0 : v = v') : J2 ob K v = J2 ob K v' := by rw [h0]
@[congr] theorem bndK_congr {n : Nat} {KK : Nat → Nat → Prop} {u u' : Option V} {v v' : Option V} (h0 : u = u') (h1 : v = v') : Ji n KK u v = Ji n KK u' v' := by rw [h0,h1]
@[congr] theorem slcSK_congr {K : V → Prop} {l l' : Option V} {h h' : Option V} {v v' : V} (h0 : l = l') (h1 : h = h') (h2 : v = v') : Xea l h K v = Xea l' h' K v' := by rw [h0,h1,h2]
@[congr] theorem slcLK_congr {n : Nat} {K : V → Prop} {l l' : Option V} {h h' : Option V} {v v' : V} (h0 : l = l') (h1 : h = h') (h2 : v = v') : Xd8 n l h K v = Xd8 n l' h' K v' := by rw [h0,h1,h2]
@[congr] theorem extK_congr {n : Nat} {K : V → Prop} {v v' : V} (h0 : v = v') : Xhq n K v = Xhq n K v' := by rw [h0]
@[congr] theorem bldK_congr {KL : List V → Prop} {u u' : List V} {l l' : List (Nat × V)} (h0 : u = u') (h1 : l = l') : Jf u l KL = Jf u' l' KL := by rw [h0,h1]
@[congr] theorem tasK_congr {k : Nat} {d : D} {K : V → Prop} {v v' : V} (h0 : v = v') : X04 k d K v = X04 k d K v' := by rw [h0]
@[congr] theorem boxK_congr {k : Nat} {ob : Objs} {KO : V → Objs → Prop} {v v' : V} (h0 : v = v') : Xra k ob KO v = Xra k ob KO v' := by rw [h0]
@[congr] theorem stK_congr {ob : Objs} {n : Nat} {KO : V → Objs → Prop} {u u' : V} {v v' : V} (h0 : u = u') (h1 : v = v') : stK ob n u KO v = stK ob n u' KO v' := by rw [h0,h1]
@[congr] theorem stKo_congr {ob : Objs} {k : Nat} {p : List Nat} {n : Nat} {u : V} {KO : V → Objs → Prop} {v v' : Option Ob} (h0 : v = v') : stKo ob k p n u KO v = stKo ob k p n u KO v' := by rw [h0]
@[congr] theorem stKt_congr {ob : Objs} {k : Nat} {p : List Nat} {n E : Nat} {u t : V} {KO : V → Objs → Prop} {v v' : Option V} (h0 : v = v') : Xw1 ob k p n E u t KO v = Xw1 ob k p n E u t KO v' := by rw [h0]
@[congr] theorem stKs_congr {ob : Objs} {k E : Nat} {KO : V → Objs → Prop} {v v' : Option V} (h0 : v = v') : X8p ob k E KO v = X8p ob k E KO v' := by rw [h0]
@[congr] theorem dK_congr {KD : List D → Prop} {v v' : Option (List D)} (h0 : v = v') : dK KD v = dK KD v' := by rw [h0]
@[congr] theorem callvK_congr {P : Prg} {ob : Objs} {KO : V → Objs → Prop} {Pn : V → Objs → Prop} {u u' : List V} {v v' : V} (h0 : u = u') (h1 : v = v') : U5 P u ob KO Pn v = U5 P u' ob KO Pn v' := by rw [h0,h1]
@[congr] theorem panicK_congr {ob : Objs} {Pn : V → Objs → Prop} {v v' : V} (h0 : v = v') : J9 ob Pn v = J9 ob Pn v' := by rw [h0]
@[congr] theorem srcK_congr {n : Nat} {KD : List D → Prop} {v v' : V} (h0 : v = v') : Xwz n KD v = Xwz n KD v' := by rw [h0]
@[congr] theorem appK_congr {E sz B : Nat} {ob : Objs} {xs : List D} {KO : V → Objs → Prop} {v v' : V} (h0 : v = v') : Xdv E sz B ob xs KO v = Xdv E sz B ob xs KO v' := by rw [h0]
@[congr] theorem appKo_congr {k E sz B n : Nat} {ob : Objs} {xs : List D} {KO : V → Objs → Prop} {v v' : Option Ob} (h0 : v = v') : Xdx k E sz B n ob xs KO v = Xdx k E sz B n ob xs KO v' := by rw [h0]
@[congr] theorem niloK_congr {E sz : Nat} {ob : Objs} {KO : V → Objs → Prop} {v v' : V} (h0 : v = v') : Xg8 E sz ob KO v = Xg8 E sz ob KO v' := by rw [h0]
@[congr] theorem srcSK_congr {KD : List D → Prop} {v v' : V} (h0 : v = v') : Xhe KD v = Xhe KD v' := by rw [h0]
@[congr] theorem pnilK_congr {e : Bool} {K : V → Prop} {v v' : V} (h0 : v = v') : Xm9 e K v = Xm9 e K v' := by rw [h0]
@[congr] theorem fnilK_congr {e : Bool} {K : V → Prop} {v v' : V} (h0 : v = v') : Xav e K v = Xav e K v' := by rw [h0]
@[congr] theorem peqK_congr {ob : Objs} {e : Bool} {K : V → Prop} {u u' v v' : V} (h1 : u = u') (h0 : v = v') : X8k ob e K u v = X8k ob e K u' v' := by rw [h0,h1]
@[congr] theorem givK_congr {KO : V → Objs → Prop} {v v' : Option (D × Objs)} (h0 : v = v') : Xig KO v = Xig KO v' := by rw [h0]
@[congr] theorem givsK_congr {KO : List D → Objs → Prop} {v v' : Option (List D × Objs)} (h0 : v = v') : W9 KO v = W9 KO v' := by rw [h0]
@[congr] theorem gvO_congr {u : V} {ob : Objs} {KO : V → Objs → Prop} {v v' : Option (D × Objs)} (h0 : v = v') : gvO u ob KO v = gvO u ob KO v' := by rw [h0]
@[congr] theorem gvsK_congr {KL : List V → Objs → Prop} {u u' : List V} {ob ob' : Objs} (h0 : u = u') (h1 : ob = ob') : Xft u ob KL = Xft u' ob' KL := by rw [h0,h1]
@[congr] theorem leaveK_congr {n : Nat} {K : Objs → Prop} {u u' : List V} {ob ob' : Objs} (h0 : u = u') (h1 : ob = ob') : Xv n K u ob = Xv n K u' ob' := by rw [h0,h1]
@[congr] theorem ldfK_congr {n : Nat} {b : Bool} {ob : Objs} {KO : V → Objs → Prop} {v v' : V} (h0 : v = v') : X0a n b ob KO v = X0a n b ob KO v' := by rw [h0]
@[congr] theorem ldfKo_congr {n : Nat} {b : Bool} {ob : Objs} {KO : V → Objs → Prop} {v v' : Option V} (h0 : v = v') : Xky n b ob KO v = Xky n b ob KO v' := by rw [h0]
@[congr] theorem mvgK_congr {ob : Objs} {E sz : Nat} {p : List Nat} {KO : V → Objs → Prop} {u u' v v' : V} (h1 : u = u') (h0 : v = v') : Xj2 ob E sz p u KO v = Xj2 ob E sz p u' KO v' := by rw [h0,h1]
@[congr] theorem mvgKt_congr {ob : Objs} {k E sz : Nat} {p p' : List Nat} {KO : V → Objs → Prop} {u : V} {v v' : Option Ob} (h1 : p = p') (h0 : v = v') : Xd3 ob k p E sz u KO v = Xd3 ob k p' E sz u KO v' := by rw [h0,h1]
@[congr] theorem mvgKs_congr {ob : Objs} {k E0 E sz : Nat} {KO : V → Objs → Prop} {u : V} {v v' : Option V} (h0 : v = v') : Xiz ob k E0 E sz u KO v = Xiz ob k E0 E sz u KO v' := by rw [h0]
@[congr] theorem cvbK_congr {ob : Objs} {KO : V → Objs → Prop} {v v' : V} (h0 : v = v') : Xst ob KO v = Xst ob KO v' := by rw [h0]
@[congr] theorem cvbKo_congr {k n : Nat} {ob : Objs} {KO : V → Objs → Prop} {v v' : Option Ob} (h0 : v = v') : Xfl k n ob KO v = Xfl k n ob KO v' := by rw [h0]
@[congr] theorem usdK_congr {ob : Objs} {K : V → Prop} {v v' : V} (h0 : v = v') : Xq3 ob K v = Xq3 ob K v' := by rw [h0]
@[congr] theorem ustrK_congr {E : Nat} {ob : Objs} {KO : V → Objs → Prop} {u u' v v' : V} (h1 : u = u') (h0 : v = v') : Xa6 E ob KO u v = Xa6 E ob KO u' v' := by rw [h0,h1]
@[congr] theorem ustrKo_congr {k n : Nat} {m : Int} {E : Nat} {ob : Objs} {KO : V → Objs → Prop} {v v' : Option Ob} (h0 : v = v') : Xag k n m E ob KO v = Xag k n m E ob KO v' := by rw [h0]
@[congr] theorem resK_congr {sl : Xb} {ob : Objs} {rs : List RV} {KL : List V → Prop} : Vn sl ob rs KL = Vn sl ob rs KL := rfl
@[congr] theorem ACall_congr {P : Prg} {f : Nat} {vs vs' : List V} {ob ob' : Objs} {K : Out → Objs → Prop} (h : vs = vs') (h' : ob = ob') : ACall P f vs ob K = ACall P f vs' ob' K := by rw [h,h']
@[congr] theorem PCall_congr {P : Prg} {f : Nat} {vs vs' : List V} {ob ob' : Objs} {K : V → Prop} (h : vs = vs') (h' : ob = ob') : PCall P f vs ob K = PCall P f vs' ob' K := by rw [h,h']
@[congr] theorem ALoop_congr {keep : List Nat} {body : Vp → Xb → Objs → Prop} {Q : Vp} {sl sl' : Xb} {ob ob' : Objs} (h : sl = sl') (h' : ob = ob') : ALoop keep body Q sl ob = ALoop keep body Q sl' ob' := by rw [h,h']

theorem ALoop.of {keep : List Nat} {body : Vp → Xb → Objs → Prop} {Q : Vp} {sl : Xb} {ob : Objs} {ι : Type} (S : ι → Xb) (O : ι → Objs) (I : ι → Prop) (μ : ι → Nat) (i0 : ι) (h0 : I i0) (hs : Xd sl keep = S i0) (ho : ob = O i0)
  (step : ∀ i,I i → body (Vb (sub keep (fresh (O i)) fun sl' ob' => ∃ j,I j ∧ μ j < μ i ∧ sl' = S j ∧ ob' = O j) Q) (S i) (O i)) : ALoop keep body Q sl ob :=
 ⟨⟨ι,S,O,I,μ,i0,h0,hs,ho,step⟩⟩

theorem ALoop.go {keep : List Nat} {body : Vp → Xb → Objs → Prop} {Q : Vp} {sl : Xb} {ob : Objs} {ι : Type} (S : ι → Xb) (O : ι → Objs) (I : ι → Prop) (μ : ι → Nat) (i0 : ι) (h0 : I i0) (hs : Xd sl keep = S i0) (ho : ob = O i0)
  (step : ∀ i,I i → ∀ R : Vp,(∀ kp j sl' ob',I j → μ j < μ i → Xd sl' keep = S j → Xw (young (fresh (O i)) kp) ob' = O j → Ur (young (fresh (O i)) kp) (S j) = true → noMenO (young (fresh (O i)) kp) (O j) = true → R .normal sl' ob') →
   (∀ n sl' ob',Q (.exit n) sl' ob' → R (.exit n) sl' ob') → (∀ sl' ob',Q .ret sl' ob' → R .ret sl' ob') → (∀ v sl' ob',Q (.panic v) sl' ob' → R (.panic v) sl' ob') → body R (S i) (O i)) : ALoop keep body Q sl ob := by
 refine ALoop.of S O I μ i0 h0 hs ho fun i hi => step i hi _ (fun kp j sl' ob' h1 h2 h3 h4 h5 h6 => ?_) (fun _ _ _ h => h) (fun _ _ h => h) (fun _ _ _ h => h)
 simp only [Vb,sub]
 refine ⟨kp,?_⟩
 rw [h3,h4]
 exact ⟨h5,h6,j,h1,h2,rfl,rfl⟩
@[congr] theorem cwp_congr {P : Prg} {s : S} {Q : Vp} {sl sl' : Xb} {ob ob' : Objs} (h : sl = sl') (h' : ob = ob') : cwp P s Q sl ob = cwp P s Q sl' ob' := by rw [h,h']
end Go.Ab
/- Expressions: what an operation that only reads yields, as a value. Over any program; no condition. -/
namespace Go.Ab
open Go

def Xdc : V → V → V → V
 | .d (.bool t),.d (.bool x),.d (.bool y) => .d (.bool (if t then x else y))
 | .d (.bool t),x,y => if t then x else y
 | _,_,_ => .any
def X7l : V → V
 | .d (.bool b) => .d (.bool (!b))
 | _ => .any
def Yhx : V → V
 | .d (.int k n) => .d (.int k (k.wrap (0 - n)))
 | _ => .any
def Ye6 : V → V
 | .d (.int k n) => .d (.int k (Zq .xor k (if k.signed then -1 else k.max) n))
 | _ => .any
def mxV : V → V → V
 | .d (.int k a),.d (.int _ b) => .d (.int k (if b > a then b else a))
 | _,_ => .any
def Xbf (op : BinOp) (k : IntKind) (a b : Int) : V :=
 match op with
 | .add => .d (.int k (k.wrap (a + b)))
 | .sub => .d (.int k (k.wrap (a - b)))
 | .mul => .d (.int k (k.wrap (a * b)))
 | .quo => .d (.int k (k.wrap (a.tdiv b)))
 | .rem => .d (.int k (a.tmod b))
 | .and | .or | .xor | .andNot => .d (.int k (Zq op k a b))
 | .shl => .d (.int k (k.wrap (a * 2 ^ (min b.toNat k.bits))))
 | .shr => .d (.int k (a.fdiv (2 ^ (min b.toNat k.bits))))
 | .eql => .d (.bool (a == b))
 | .neq => .d (.bool (a != b))
 | .lss => .d (.bool (decide (a < b)))
 | .leq => .d (.bool (decide (a ≤ b)))
 | .gtr => .d (.bool (decide (b < a)))
 | .geq => .d (.bool (decide (b ≤ a)))
def Xxp (op : BinOp) (x y : List UInt8) : V :=
 match op with
 | .add => .d (.str (x ++ y))
 | .eql => .d (.bool (x == y))
 | .neq => .d (.bool (x != y))
 | .lss => .d (.bool (Op.bytesLess x y))
 | .leq => .d (.bool (Op.bytesLess x y || x == y))
 | .gtr => .d (.bool (!(Op.bytesLess x y || x == y)))
 | .geq => .d (.bool (!Op.bytesLess x y))
 | _ => .any
def X5a (op : BinOp) : V → V → V
 | .d (.int k a),.d (.int _ b) => Xbf op k a b
 | .d (.str x),.d (.str y) => Xxp op x y
 | _,_ => .any
def Ye2 (e : Bool) : V → V → V
 | .d (.bool x),.d (.bool y) => .d (.bool ((x == y) == e))
 | _,_ => .any
def J1 (e : Bool) : V → V
 | .d .nili => .d (.bool e)
 | .iface _ _ => .d (.bool (!e))
 | .d (.iface _ _) => .d (.bool (!e))
 | _ => .any
def X7s (e : Bool) : V → V
 | .d .nilp => .d (.bool e)
 | .d (.ref _) => .d (.bool (!e))
 | .ptr _ _ => .d (.bool (!e))
 | _ => .any
def Xfr (e : Bool) : V → V
 | .d .nilf => .d (.bool e)
 | .d (.fn _ _ _) => .d (.bool (!e))
 | .fn _ _ _ => .d (.bool (!e))
 | _ => .any
def X74 : V → V
 | .sl id n => .sd id n
 | .d .nils => .d .nilp
 | _ => .any
def X5v (k : IntKind) : V → V
 | .d (.int _ n) => .d (.int k (k.wrap n))
 | _ => .any
def Ye7 : V → V
 | .d (.str s) => .d (.str s)
 | _ => .any
def X9x : V → V → V
 | .d (.str s),.d (.int _ n) => .d (.int .u8 (s.getD n.toNat 0).toNat)
 | _,_ => .any
def Xim (z : Nat) : V → V → V
 | .d (.list _ xs),.d (.int _ n) => .d (.ref (xs.getD n.toNat default))
 | .sl id n,.d (.int _ m) => .ep id n z m.toNat 0 []
 | .bs id p lo _,.d (.int _ m) => .ptr id (p ++ [lo + m.toNat])
 | _,_ => .any
def Xfv : V → V → V
 | .ptr id p,.d (.int _ n) => .ptr id (p ++ [n.toNat])
 | .d (.ref (.agg xs)),.d (.int _ n) => .d (.ref (xs.getD n.toNat default))
 | _,_ => .any
def Ym (f fo : Nat) : V → V
 | .ptr id p => .ptr id (p ++ [f])
 | .ep id n z i g p => .ep id n z i (g + fo) (p ++ [f])
 | .d (.ref (.agg xs)) => .d (.ref (xs.getD f default))
 | _ => .any
def X8e (f : Nat) : Option (List V) → V
 | some ks => ks.getD f .any
 | none => .any
def X1t : Option V → V
 | some v => v
 | none => .any
def ldV (ob : Objs) : V → V
 | .ptr id p => X1t (atO ob id p)
 | .d (.ref x) => .d x
 | .ep id m z i f p => X1t (atE ob id m z i f p)
 | _ => .any
def Xkz : V → V
 | .d (.str s) => .d (.int .i64 s.length)
 | _ => .any
def Xd2 : V → V
 | .d (.list _ xs) => .d (.int .i64 xs.length)
 | .d .nils => .d (.int .i64 0)
 | .sl _ n => .d (.int .i64 n)
 | .bs _ _ _ n => .d (.int .i64 n)
 | _ => .any
def Xq9 (len : Nat) (K : Nat → Nat → V) : Option V → Option V → V
 | none,none => K 0 len
 | some (.d (.int _ l)),none => K l.toNat len
 | none,some (.d (.int _ h)) => K 0 h.toNat
 | some (.d (.int _ l)),some (.d (.int _ h)) => K l.toNat h.toNat
 | _,_ => .any
def Xaf (lo hi : Option V) : V → V
 | .d (.str s) => Xq9 s.length (fun l h => .d (.str ((s.take h).drop l))) lo hi
 | _ => .any
def Xd9 (lo hi : Option V) : V → V
 | .d (.list sz xs) => Xq9 xs.length (fun l h => .d (.list sz ((xs.take h).drop l))) lo hi
 | _ => .any
def X8d (i : Nat) : V → V
 | .tup xs => xs.getD i .any
 | _ => .any
def X3n (t : Nat) (z : D) : V → V
 | .iface t' v => if t' = t then .tup [v,.d (.bool true)] else .tup [.d z,.d (.bool false)]
 | .d (.iface t' x) => if t' = t then .tup [.d x,.d (.bool true)] else .tup [.d z,.d (.bool false)]
 | .d .nili => .tup [.d z,.d (.bool false)]
 | _ => .any

def X8b (e : Bool) : V → V → V
 | .d x,.d y => .d (.bool (D.eqb x y == e))
 | _,_ => .any
def Xp9 : V → V → V
 | .d (.agg xs),.d (.int _ n) => .d (xs.getD n.toNat default)
 | _,_ => .any

def C.val (sl : Xb) (ob : Objs) : C → V
 | .mv x => x.ev sl
 | .pick c a b => Xdc (c.ev sl) (a.ev sl) (b.ev sl)
 | .not x => X7l (x.ev sl)
 | .neg x => Yhx (x.ev sl)
 | .cpl x => Ye6 (x.ev sl)
 | .mx x y => mxV (x.ev sl) (y.ev sl)
 | .bin op x y => X5a op (x.ev sl) (y.ev sl)
 | .beq e x y => Ye2 e (x.ev sl) (y.ev sl)
 | .isnil e x => J1 e (x.ev sl)
 | .pnil e x => X7s e (x.ev sl)
 | .fnil e x => Xfr e (x.ev sl)
 | .peq e _ _ => .d (.bool e)
 | .usd x => X74 (x.ev sl)
 | .cvi k x => X5v k (x.ev sl)
 | .cvs x => Ye7 (x.ev sl)
 | .idx x i => X9x (x.ev sl) (i.ev sl)
 | .idxA z x i => Xim z (x.ev sl) (i.ev sl)
 | .idxP _ _ x i => Xfv (x.ev sl) (i.ev sl)
 | .fldA f fo x => Ym f fo (x.ev sl)
 | .fld f _ _ _ x => X8e f (x.ev sl).kids
 | .ld _ _ x => ldV ob (x.ev sl)
 | .nilc x => x.ev sl
 | .lenS x => Xkz (x.ev sl)
 | .lenL x => Xd2 (x.ev sl)
 | .lenA n => .d (.int .i64 n)
 | .slcS x lo hi => Xaf (lo.map (A.ev sl)) (hi.map (A.ev sl)) (x.ev sl)
 | .slcL _ x lo hi => Xd9 (lo.map (A.ev sl)) (hi.map (A.ev sl)) (x.ev sl)
 | .ext x i => X8d i (x.ev sl)
 | .bld _ _ => .any
 | .mkf f first cap => X1y f (first.map (A.ev sl)) (cap.map (A.ev sl))
 | .mki t x => X0l t (x.ev sl)
 | .tas t z x => X3n t z (x.ev sl)
 | .eqD _ e x y => X8b e (x.ev sl) (y.ev sl)
 | .aix _ _ _ x i => Xp9 (x.ev sl) (i.ev sl)

def C.ok (sl : Xb) (ob : Objs) (c : C) : Prop := c.wp sl ob fun v => v = c.val sl ob

theorem Xtp {op : BinOp} {k k' : IntKind} {a b : Int} {K K' : V → Prop} (hk : ∀ v,K v → K' v) (h : Xxj op k k' a b K) : Xxj op k k' a b K' := by
 cases op <;> simp only [Xxj] at h ⊢ <;> first | exact ⟨h.1,hk _ h.2⟩ | exact ⟨h.1,h.2.1,hk _ h.2.2⟩
theorem Xw4 {op : BinOp} {a b : List UInt8} {K K' : V → Prop} (hk : ∀ v,K v → K' v) (h : Xpd op a b K) : Xpd op a b K' := by
 cases op <;> simp only [Xpd] at h ⊢ <;> first | exact hk _ h | exact ⟨h.1,hk _ h.2⟩ | exact h.elim
theorem Xco {n : Nat} {K K' : Nat → Nat → Prop} (hk : ∀ l h,K l h → K' l h) {lo hi : Option V} (h : Ji n K lo hi) : Ji n K' lo hi := by
 unfold Ji at h ⊢
 split <;> simp_all
theorem U4 {K K' : List V → Prop} (hk : ∀ l,K l → K' l) : ∀ (ps : List (Nat × V)) (ks : List V),Jf ks ps K → Jf ks ps K'
 | [],_,h => hk _ h
 | (_,_) :: r,_,h => ⟨h.1,h.2.1,h.2.2.1,U4 hk r _ h.2.2.2⟩
theorem C.wp_mono {sl : Xb} {ob : Objs} {K K' : V → Prop} (hk : ∀ v,K v → K' v) (c : C) (h : c.wp sl ob K) : c.wp sl ob K' := by
 cases c <;> simp only [C.wp] at h ⊢
 case mv => exact hk _ h
 case lenA => exact hk _ h
 case mkf => exact hk _ h
 case mki => exact hk _ h
 case bld => exact U4 (fun _ => hk _) _ _ h
 case bin x y =>
  generalize A.ev sl x = v at h ⊢; generalize A.ev sl y = u at h ⊢
  unfold Xn8 at h; split at h
  ·exact Xtp hk h
  ·exact Xw4 hk h
  ·exact h.elim
 case slcS x lo hi =>
  generalize A.ev sl x = v at h ⊢
  unfold Xea at h; split at h
  ·exact Xco (fun _ _ => hk _) h
  ·exact h.elim
 case slcL x lo hi =>
  generalize A.ev sl x = v at h ⊢
  unfold Xd8 at h; split at h
  ·exact ⟨h.1,Xco (fun _ _ => hk _) h.2⟩
  ·exact h.elim
 case pick x y z =>
  generalize A.ev sl x = v at h ⊢; generalize A.ev sl y = u at h ⊢; generalize A.ev sl z = t at h ⊢
  unfold Xa3 at h; split at h
  ·exact hk _ h
  ·rename_i hn; simp only [Xa3]; exact ⟨fun e => hk _ (h.1 e),fun e => hk _ (h.2 e)⟩
  ·exact h.elim
 case fld x =>
  generalize (A.ev sl x).kids = v at h ⊢
  unfold Xxg at h; split at h
  ·exact ⟨h.1,h.2.1,h.2.2.1,h.2.2.2.1,hk _ h.2.2.2.2⟩
  ·exact h.elim
 case fldA x =>
  generalize A.ev sl x = v at h ⊢
  unfold Ux at h; split at h
  ·simp only [Ux]
   generalize Zg _ = v at h ⊢
   unfold U8 at h; split at h
   ·exact ⟨h.1,h.2.1,hk _ h.2.2⟩
   ·exact h.elim
  ·exact ⟨h.1,h.2.1,hk _ h.2.2⟩
  ·exact hk _ h
  ·exact h.elim
 case ld x =>
  generalize A.ev sl x = v at h ⊢
  unfold ldK at h; split at h
  ·simp only [ldK]
   generalize atO _ _ _ = v at h ⊢
   unfold Xfx at h; split at h
   ·exact ⟨h.1,h.2.1,hk _ h.2.2⟩
   ·exact h.elim
  ·exact ⟨h.1,h.2.1,hk _ h.2.2⟩
  ·simp only [ldK]
   generalize atE _ _ _ _ _ _ _ = v at h ⊢
   unfold Xfx at h; split at h
   ·exact ⟨h.1,h.2.1,hk _ h.2.2⟩
   ·exact h.elim
  ·exact h.elim
 case tas x =>
  generalize A.ev sl x = v at h ⊢
  unfold X04 at h; split at h
  ·exact ⟨fun e => hk _ (h.1 e),fun e => hk _ (h.2 e)⟩
  ·exact ⟨fun e => hk _ (h.1 e),fun e => hk _ (h.2 e)⟩
  ·exact hk _ h
  ·exact h.elim
 case pnil x => generalize A.ev sl x = v at h ⊢; unfold Xm9 at h; split at h <;> first | exact hk _ h | exact h.elim
 case fnil x => generalize A.ev sl x = v at h ⊢; unfold Xav at h; split at h <;> first | exact hk _ h | exact h.elim
 case usd x => generalize A.ev sl x = v at h ⊢; unfold Xq3 at h; split at h <;> first | exact ⟨h.1,hk _ h.2⟩ | exact hk _ h | exact h.elim
 case peq x y => generalize A.ev sl x = v at h ⊢; generalize A.ev sl y = u at h ⊢; unfold X8k at h; split at h <;> first | exact ⟨h.1,h.2.1,h.2.2.1,hk _ h.2.2.2⟩ | exact h.elim
 case not x => generalize A.ev sl x = v at h ⊢; unfold Xvo at h; split at h <;> first | exact hk _ h | exact h.elim
 case cpl x => generalize A.ev sl x = v at h ⊢; unfold X5u at h; split at h <;> first | exact hk _ h | exact h.elim
 case mx x y => generalize A.ev sl x = v at h ⊢; generalize A.ev sl y = u at h ⊢; unfold mxK at h; split at h <;> first | exact hk _ h | exact h.elim
 case neg x => generalize A.ev sl x = v at h ⊢; unfold X7k at h; split at h <;> first | exact hk _ h | exact h.elim
 case isnil x => generalize A.ev sl x = v at h ⊢; unfold Vx at h; split at h <;> first | exact hk _ h | exact h.elim
 case cvi x => generalize A.ev sl x = v at h ⊢; unfold Xsu at h; split at h <;> first | exact hk _ h | exact h.elim
 case cvs x => generalize A.ev sl x = v at h ⊢; unfold X5w at h; split at h <;> first | exact hk _ h | exact h.elim
 case nilc x => generalize A.ev sl x = v at h ⊢; unfold U0 at h; split at h <;> first | exact hk _ h | exact h.elim
 case lenS x => generalize A.ev sl x = v at h ⊢; unfold Xc3 at h; split at h <;> first | exact hk _ h | exact h.elim
 case lenL x => generalize A.ev sl x = v at h ⊢; unfold J2 at h; split at h <;> first | exact hk _ h | exact ⟨h.1,hk _ h.2⟩ | exact h.elim
 case ext x _ => generalize A.ev sl x = v at h ⊢; unfold Xhq at h; split at h <;> first | exact ⟨h.1,hk _ h.2⟩ | exact h.elim
 case eqD x y => generalize A.ev sl x = v at h ⊢; generalize A.ev sl y = u at h ⊢; unfold X9m at h; split at h <;> first | exact ⟨h.1,h.2.1,hk _ h.2.2⟩ | exact h.elim
 case aix x y => generalize A.ev sl x = v at h ⊢; generalize A.ev sl y = u at h ⊢; unfold Xkx at h; split at h <;> first | exact ⟨h.1,h.2.1,h.2.2.1,hk _ h.2.2.2⟩ | exact h.elim
 case beq x y => generalize A.ev sl x = v at h ⊢; generalize A.ev sl y = u at h ⊢; unfold X48 at h; split at h <;> first | exact hk _ h | exact h.elim
 case idx x y => generalize A.ev sl x = v at h ⊢; generalize A.ev sl y = u at h ⊢; unfold Xxi at h; split at h <;> first | exact ⟨h.1,hk _ h.2⟩ | exact h.elim
 case idxA x y => generalize A.ev sl x = v at h ⊢; generalize A.ev sl y = u at h ⊢; unfold Q8 at h; split at h <;> first | exact ⟨h.1,h.2.1,hk _ h.2.2⟩ | exact h.elim
 case idxP x y => generalize A.ev sl x = v at h ⊢; generalize A.ev sl y = u at h ⊢; unfold Xbt at h; split at h <;> first | exact ⟨h.1,h.2.1,hk _ h.2.2⟩ | exact ⟨h.1,h.2.1,h.2.2.1,hk _ h.2.2.2⟩ | exact h.elim
theorem C.wp_of {sl : Xb} {ob : Objs} {K : V → Prop} {c : C} (h : c.ok sl ob) (hK : K (c.val sl ob)) : c.wp sl ob K :=
 C.wp_mono (fun _ e => e ▸ hK) c h
end Go.Ab
/- Regions folded into expressions: the expressions, what they yield, and how a region is folded. Over any program; no condition. -/
namespace Go.Ab
open Go

inductive E where
 | a (x : A)
 | u (c : C) (x : E)
 | b (c : C) (x y : E)
 | t (c : C) (x y z : E)
 | ite (c x y : E)
 | call (f : Nat) (x : E)
 | nil
 | cons (x r : E)

structure Fn where
 pre : List V → Prop
 val : List V → V
abbrev Tab := List (Nat × Fn)
def J4 : Tab → Nat → Option Fn
 | [],_ => none
 | (j,x) :: r,k => if j = k then some x else J4 r k
def TOk (P : Prg) (T : Tab) : Prop := ∀ f F,J4 T f = some F → ∀ vs,F.pre vs → ∀ (ob : Objs) (K : V → Prop),K (F.val vs) → PCall P f vs ob K

def isB (pol : Bool) : V → Bool
 | .d (.bool b) => b == pol
 | _ => false
def Xcp : V → Prop
 | .d (.bool _) => True
 | _ => False
def Xsr (x : V) : V → V
 | .tup xs => .tup (x :: xs)
 | _ => .any
def Xyo : Option Fn → V → V
 | some F,.tup vs => F.val vs
 | _,_ => .any
def Xyn : Option Fn → V → Prop
 | some F,.tup vs => F.pre vs
 | _,_ => False

def E.val (T : Tab) (sl : Xb) (ob : Objs) : E → V
 | .a x => x.ev sl
 | .u c x => c.val [(0,x.val T sl ob)] ob
 | .b c x y => c.val [(0,x.val T sl ob),(1,y.val T sl ob)] ob
 | .t c x y z => c.val [(0,x.val T sl ob),(1,y.val T sl ob),(2,z.val T sl ob)] ob
 | .ite c x y => Xdc (c.val T sl ob) (x.val T sl ob) (y.val T sl ob)
 | .call f x => Xyo (J4 T f) (x.val T sl ob)
 | .nil => .tup []
 | .cons x r => Xsr (x.val T sl ob) (r.val T sl ob)
def E.ok (T : Tab) (sl : Xb) (ob : Objs) : E → Prop
 | .a _ => True
 | .u c x => x.ok T sl ob ∧ c.ok [(0,x.val T sl ob)] ob
 | .b c x y => x.ok T sl ob ∧ y.ok T sl ob ∧ c.ok [(0,x.val T sl ob),(1,y.val T sl ob)] ob
 | .t c x y z => x.ok T sl ob ∧ y.ok T sl ob ∧ z.ok T sl ob ∧ c.ok [(0,x.val T sl ob),(1,y.val T sl ob),(2,z.val T sl ob)] ob
 | .ite c x y => c.ok T sl ob ∧ Xcp (c.val T sl ob) ∧ (isB true (c.val T sl ob) = true → x.ok T sl ob) ∧ (isB false (c.val T sl ob) = true → y.ok T sl ob)
 | .call f x => x.ok T sl ob ∧ Xyn (J4 T f) (x.val T sl ob)
 | .nil => True
 | .cons x r => x.ok T sl ob ∧ r.ok T sl ob

def A.men (k : Nat) : A → Bool
 | .t j => j == k
 | _ => false
def E.men (k : Nat) : E → Bool
 | .a x => x.men k
 | .u _ x => x.men k
 | .b _ x y => x.men k || y.men k
 | .t _ x y z => x.men k || y.men k || z.men k
 | .ite x y z => x.men k || y.men k || z.men k
 | .call _ x => x.men k
 | .nil => false
 | .cons x y => x.men k || y.men k
def C.rd : C → Bool
 | .ld _ _ _ => true
 | _ => false
def E.rd : E → Bool
 | .a _ => false
 | .u c x => c.rd || x.rd
 | .b c x y => c.rd || x.rd || y.rd
 | .t c x y z => c.rd || x.rd || y.rd || z.rd
 | .ite x y z => x.rd || y.rd || z.rd
 | .call _ x => x.rd
 | .nil => false
 | .cons x y => x.rd || y.rd
def E.isA : E → Bool
 | .a _ => true
 | _ => false

theorem E.val_sl {T : Tab} {sl : Xb} {ob : Objs} {k : Nat} {v : V} : ∀ {e : E},e.men k = false → e.val T ((k,v) :: sl) ob = e.val T sl ob
 | .a x,h => by
  cases x <;> simp only [E.val,A.ev]
  rename_i j
  simp only [E.men,A.men,beq_eq_false_iff_ne,ne_eq] at h
  have h' : ¬ k = j := fun e => h e.symm
  simp [look,h']
 | .u c x,h => by simp only [E.men] at h; simp only [E.val,E.val_sl h]
 | .b c x y,h => by simp only [E.men,Bool.or_eq_false_iff] at h; simp only [E.val,E.val_sl h.1,E.val_sl h.2]
 | .t c x y z,h => by simp only [E.men,Bool.or_eq_false_iff] at h; simp only [E.val,E.val_sl h.1.1,E.val_sl h.1.2,E.val_sl h.2]
 | .ite x y z,h => by simp only [E.men,Bool.or_eq_false_iff] at h; simp only [E.val,E.val_sl h.1.1,E.val_sl h.1.2,E.val_sl h.2]
 | .call f x,h => by simp only [E.men] at h; simp only [E.val,E.val_sl h]
 | .nil,_ => rfl
 | .cons x y,h => by simp only [E.men,Bool.or_eq_false_iff] at h; simp only [E.val,E.val_sl h.1,E.val_sl h.2]
theorem C.val_ob {sl : Xb} {ob ob' : Objs} {c : C} (h : c.rd = false) : c.val sl ob = c.val sl ob' := by
 cases c <;> simp_all [C.rd,C.val]
theorem E.val_ob {T : Tab} {sl : Xb} {ob ob' : Objs} : ∀ {e : E},e.rd = false → e.val T sl ob = e.val T sl ob'
 | .a x,h => rfl
 | .u c x,h => by simp only [E.rd,Bool.or_eq_false_iff] at h; simp only [E.val,E.val_ob (ob' := ob') h.2,C.val_ob (ob' := ob') h.1]
 | .b c x y,h => by simp only [E.rd,Bool.or_eq_false_iff] at h; simp only [E.val,E.val_ob (ob' := ob') h.1.2,E.val_ob (ob' := ob') h.2,C.val_ob (ob' := ob') h.1.1]
 | .t c x y z,h => by simp only [E.rd,Bool.or_eq_false_iff] at h; simp only [E.val,E.val_ob (ob' := ob') h.1.1.2,E.val_ob (ob' := ob') h.1.2,E.val_ob (ob' := ob') h.2,C.val_ob (ob' := ob') h.1.1.1]
 | .ite x y z,h => by simp only [E.rd,Bool.or_eq_false_iff] at h; simp only [E.val,E.val_ob (ob' := ob') h.1.1,E.val_ob (ob' := ob') h.1.2,E.val_ob (ob' := ob') h.2]
 | .call f x,h => by simp only [E.rd] at h; simp only [E.val,E.val_ob (ob' := ob') h]
 | .nil,_ => rfl
 | .cons x y,h => by simp only [E.rd,Bool.or_eq_false_iff] at h; simp only [E.val,E.val_ob (ob' := ob') h.1,E.val_ob (ob' := ob') h.2]


abbrev Uu := List (Nat × Bool)
abbrev Sg := List (Nat × Option (Uu × E))
def Wl : Sg → Nat → Option (Option (Uu × E))
 | [],_ => none
 | (j,x) :: r,k => if j = k then some x else Wl r k
def ent (σ : Sg) (k : Nat) : Option (Uu × E) := match Wl σ k with
 | none => some ([],.a (.t k))
 | some x => x
def Xq (sl : Xb) (p : Uu) : Bool := p.all fun g => isB g.2 (look sl g.1)
def Zt (T : Tab) (sl : Xb) (ob : Objs) (p : List (E × Bool)) : Bool := p.all fun g => isB g.2 (g.1.val T sl ob)
def Inv (T : Tab) (σ : Sg) (sl sl0 : Xb) (ob : Objs) : Prop := ∀ k p e,ent σ k = some (p,e) →
 (Xq sl p = true → look sl k = e.val T sl0 ob) ∧ (Xq sl p = false → look sl k = .undef)

def opE (σ : Sg) (p : Uu) : A → Option E
 | .t k => match ent σ k with
  | some (q,e) => if q.isPrefixOf p then some e else none
  | none => none
 | x => some (.a x)
def Wr (σ : Sg) (p : Uu) (c : C) (x : A) : Option E := match opE σ p x with
 | some x => some (.u c x)
 | none => none
def Qd (σ : Sg) (p : Uu) (c : C) (x y : A) : Option E := match opE σ p x,opE σ p y with
 | some x,some y => some (.b c x y)
 | _,_ => none
def Xqe (σ : Sg) (p : Uu) (c : C) (x y z : A) : Option E := match opE σ p x,opE σ p y,opE σ p z with
 | some x,some y,some z => some (.t c x y z)
 | _,_,_ => none
def X7p (σ : Sg) (p : Uu) (g : Nat) (x y : A) : Option E := match opE σ p (.t g),opE σ (p ++ [(g,true)]) x,opE σ (p ++ [(g,false)]) y with
 | some c,some x,some y => some (.ite c x y)
 | _,_,_ => none
def Xkd (σ : Sg) (p : Uu) : List A → Option E
 | [] => some .nil
 | x :: r => match opE σ p x,Xkd σ p r with
  | some x,some r => some (.cons x r)
  | _,_ => none

def C.lift (σ : Sg) (p : Uu) : C → Option E
 | .mv x => opE σ p x
 | .pick (.t g) x y => X7p σ p g x y
 | .pick _ _ _ => none
 | .not x => Wr σ p (.not (.t 0)) x
 | .neg x => Wr σ p (.neg (.t 0)) x
 | .cpl x => Wr σ p (.cpl (.t 0)) x
 | .mx x y => Qd σ p (.mx (.t 0) (.t 1)) x y
 | .bin o x y => Qd σ p (.bin o (.t 0) (.t 1)) x y
 | .beq e x y => Qd σ p (.beq e (.t 0) (.t 1)) x y
 | .isnil e x => Wr σ p (.isnil e (.t 0)) x
 | .pnil e x => Wr σ p (.pnil e (.t 0)) x
 | .fnil e x => Wr σ p (.fnil e (.t 0)) x
 | .peq e x y => Qd σ p (.peq e (.t 0) (.t 1)) x y
 | .usd x => Wr σ p (.usd (.t 0)) x
 | .cvi k x => Wr σ p (.cvi k (.t 0)) x
 | .cvs x => Wr σ p (.cvs (.t 0)) x
 | .idx x i => Qd σ p (.idx (.t 0) (.t 1)) x i
 | .idxA z x i => Qd σ p (.idxA z (.t 0) (.t 1)) x i
 | .idxP n z x i => Qd σ p (.idxP n z (.t 0) (.t 1)) x i
 | .fldA f fo x => Wr σ p (.fldA f fo (.t 0)) x
 | .fld f fo n ag x => Wr σ p (.fld f fo n ag (.t 0)) x
 | .ld n ag x => Wr σ p (.ld n ag (.t 0)) x
 | .nilc x => Wr σ p (.nilc (.t 0)) x
 | .lenS x => Wr σ p (.lenS (.t 0)) x
 | .lenL x => Wr σ p (.lenL (.t 0)) x
 | .lenA n => some (.a (.int .i64 n))
 | .slcS x none none => Wr σ p (.slcS (.t 0) none none) x
 | .slcS x (some l) none => Qd σ p (.slcS (.t 0) (some (.t 1)) none) x l
 | .slcS x none (some h) => Qd σ p (.slcS (.t 0) none (some (.t 1))) x h
 | .slcS x (some l) (some h) => Xqe σ p (.slcS (.t 0) (some (.t 1)) (some (.t 2))) x l h
 | .slcL z x none none => Wr σ p (.slcL z (.t 0) none none) x
 | .slcL z x (some l) none => Qd σ p (.slcL z (.t 0) (some (.t 1)) none) x l
 | .slcL z x none (some h) => Qd σ p (.slcL z (.t 0) none (some (.t 1))) x h
 | .slcL z x (some l) (some h) => Xqe σ p (.slcL z (.t 0) (some (.t 1)) (some (.t 2))) x l h
 | .ext x i => Wr σ p (.ext (.t 0) i) x
 | .mki t x => Wr σ p (.mki t (.t 0)) x
 | .tas t z x => Wr σ p (.tas t z (.t 0)) x
 | .eqD ty e x y => Qd σ p (.eqD ty e (.t 0) (.t 1)) x y
 | .aix n z ag x i => Qd σ p (.aix n z ag (.t 0) (.t 1)) x i
 | .bld _ _ => none
 | .mkf _ _ _ => none
def I.lift (fs : List Nat) (σ : Sg) (p : Uu) : I → Option E
 | .c x => x.lift σ p
 | .pcall f args => if fs.contains f then (match Xkd σ p args with | some e => some (.call f e) | none => none) else none
 | _ => none

def Xdp (σ : Sg) (p : Uu) : A → List Nat
 | .t k => match ent σ k with
  | some (q,_) => if q == p then [k] else []
  | none => []
 | _ => []
def Ydi (σ : Sg) (p : Uu) : List A → List Nat
 | [] => []
 | x :: r => Xdp σ p x ++ Ydi σ p r
def C.cons (σ : Sg) (p : Uu) : C → List Nat
 | .mv x | .not x | .neg x | .cpl x | .isnil _ x | .pnil _ x | .fnil _ x | .usd x | .cvi _ x | .cvs x | .fldA _ _ x | .fld _ _ _ _ x | .ld _ _ x | .nilc x | .lenS x | .lenL x | .ext x _ | .mki _ x | .tas _ _ x => Xdp σ p x
 | .bin _ x y | .mx x y | .beq _ x y | .peq _ x y | .idx x y | .idxA _ x y | .idxP _ _ x y | .eqD _ _ x y | .aix _ _ _ x y => Xdp σ p x ++ Xdp σ p y
 | .slcS x none none | .slcL _ x none none => Xdp σ p x
 | .slcS x (some y) none | .slcL _ x (some y) none | .slcS x none (some y) | .slcL _ x none (some y) => Xdp σ p x ++ Xdp σ p y
 | .slcS x (some y) (some z) | .slcL _ x (some y) (some z) => Xdp σ p x ++ Xdp σ p y ++ Xdp σ p z
 | .pick (.t g) x y => Xdp σ p (.t g) ++ Xdp σ (p ++ [(g,true)]) x ++ Xdp σ (p ++ [(g,false)]) y
 | _ => []
def I.cons (σ : Sg) (p : Uu) : I → List Nat
 | .c x => x.cons σ p
 | .pcall _ args => Ydi σ p args
 | _ => []
def I.gcons (σ : Sg) (p : Uu) : I → List Nat
 | .c (.pick (.t g) _ _) => Xdp σ p (.t g)
 | _ => []

section
variable {P : Prg} {T : Tab} {σ : Sg} {sl sl0 : Xb} {ob : Objs} {p : Uu}

theorem Xbe {q : Uu} (h : q.isPrefixOf p = true) (hp : Xq sl p = true) : Xq sl q = true := by
 rw [List.isPrefixOf_iff_prefix] at h
 obtain ⟨t,rfl⟩ := h
 simp only [Xq,List.all_append,Bool.and_eq_true] at hp ⊢
 exact hp.1
theorem Z2 (hI : Inv T σ sl sl0 ob) (hp : Xq sl p = true) {x : A} {e : E} (h : opE σ p x = some e) : e.val T sl0 ob = x.ev sl := by
 cases x with
 | t k =>
  simp only [opE] at h
  split at h
  ·rename_i q e' he
   split at h
   ·rename_i hq
    cases h
    exact ((hI k q e he).1 (Xbe hq hp)).symm
   ·cases h
  ·cases h
 | _ => simp only [opE] at h; cases h; rfl
theorem Xoo {c : C} {x : A} {e : E} (h : Wr σ p c x = some e) : ∃ ex,e = .u c ex ∧ opE σ p x = some ex := by
 unfold Wr at h; split at h
 ·cases h; exact ⟨_,rfl,by assumption⟩
 ·cases h
theorem Xop {c : C} {x y : A} {e : E} (h : Qd σ p c x y = some e) : ∃ ex ey,e = .b c ex ey ∧ opE σ p x = some ex ∧ opE σ p y = some ey := by
 unfold Qd at h; split at h
 ·cases h; exact ⟨_,_,rfl,by assumption,by assumption⟩
 ·cases h
theorem Xoq {c : C} {x y z : A} {e : E} (h : Xqe σ p c x y z = some e) : ∃ ex ey ez,e = .t c ex ey ez ∧ opE σ p x = some ex ∧ opE σ p y = some ey ∧ opE σ p z = some ez := by
 unfold Xqe at h; split at h
 ·cases h; exact ⟨_,_,_,rfl,by assumption,by assumption,by assumption⟩
 ·cases h
theorem Xha {g : Nat} {x y : A} {e : E} (h : X7p σ p g x y = some e) : ∃ ec ex ey,e = .ite ec ex ey ∧ opE σ p (.t g) = some ec ∧ opE σ (p ++ [(g,true)]) x = some ex ∧ opE σ (p ++ [(g,false)]) y = some ey := by
 unfold X7p at h; split at h
 ·cases h; exact ⟨_,_,_,rfl,by assumption,by assumption,by assumption⟩
 ·cases h
theorem Xhw (hI : Inv T σ sl sl0 ob) (hp : Xq sl p = true) : ∀ {xs : List A} {e : E},Xkd σ p xs = some e → e.val T sl0 ob = .tup (xs.map (A.ev sl))
 | [],e,h => by simp only [Xkd] at h; cases h; rfl
 | x :: r,e,h => by
  simp only [Xkd] at h
  split at h
  ·rename_i ex er hx hr
   cases h
   simp only [E.val,Z2 hI hp hx,Xhw hI hp hr,Xsr,List.map_cons]
  ·cases h
theorem Xvz (x y : V) : Xdc (.d (.bool true)) x y = x := by unfold Xdc; split <;> simp_all
theorem Xvx (x y : V) : Xdc (.d (.bool false)) x y = y := by unfold Xdc; split <;> simp_all
theorem Xvy {v : V} (h : ¬ Xcp v) (x y : V) : Xdc v x y = .any := by unfold Xdc; split <;> simp_all [Xcp]
theorem Xff {v : V} (h : Xcp v) : v = .d (.bool true) ∨ v = .d (.bool false) := by
 unfold Xcp at h; split at h
 ·rename_i b; cases b <;> simp
 ·exact h.elim

theorem C.lift_sound (hI : Inv T σ sl sl0 ob) (hp : Xq sl p = true) {c : C} {e : E} (h : c.lift σ p = some e) : e.val T sl0 ob = c.val sl ob ∧ (e.ok T sl0 ob → c.ok sl ob) := by
 have l1 : ∀ {c x},Wr σ p c x = some e → ∃ ex,e = .u c ex ∧ ex.val T sl0 ob = x.ev sl := fun h => by
  obtain ⟨ex,rfl,hx⟩ := Xoo h; exact ⟨ex,rfl,Z2 hI hp hx⟩
 have l2 : ∀ {c x y},Qd σ p c x y = some e → ∃ ex ey,e = .b c ex ey ∧ ex.val T sl0 ob = x.ev sl ∧ ey.val T sl0 ob = y.ev sl := fun h => by
  obtain ⟨ex,ey,rfl,hx,hy⟩ := Xop h; exact ⟨ex,ey,rfl,Z2 hI hp hx,Z2 hI hp hy⟩
 have l3 : ∀ {c x y z},Xqe σ p c x y z = some e → ∃ ex ey ez,e = .t c ex ey ez ∧ ex.val T sl0 ob = x.ev sl ∧ ey.val T sl0 ob = y.ev sl ∧ ez.val T sl0 ob = z.ev sl := fun h => by
  obtain ⟨ex,ey,ez,rfl,hx,hy,hz⟩ := Xoq h; exact ⟨ex,ey,ez,rfl,Z2 hI hp hx,Z2 hI hp hy,Z2 hI hp hz⟩
 unfold C.lift at h
 split at h
 case h_1 => exact ⟨by rw [Z2 hI hp h]; rfl,fun _ => rfl⟩
 case h_2 g x y =>
  obtain ⟨ec,ex,ey,rfl,hc,hx,hy⟩ := Xha h
  have hcv := Z2 hI hp hc
  simp only [A.ev] at hcv
  have hpt : ∀ b,look sl g = .d (.bool b) → Xq sl (p ++ [(g,b)]) = true := fun b hb => by
   simp only [Xq,List.all_append,Bool.and_eq_true] at hp ⊢
   exact ⟨hp,by simp [hb,isB]⟩
  simp only [E.val,E.ok,C.val,C.ok,C.wp,Ydw,hcv]
  by_cases hb : Xcp (look sl g)
  ·rcases Xff hb with hb | hb
   ·have := Z2 hI (hpt true hb) hx
    rw [hb]; simp only [Xvz,X7r,this]; exact ⟨trivial,fun _ => trivial⟩
   ·have := Z2 hI (hpt false hb) hy
    rw [hb]; simp only [Xvx,X7q,this]; exact ⟨trivial,fun _ => trivial⟩
  ·rw [Xvy hb,Xvy hb]; exact ⟨rfl,fun h => (hb h.2.1).elim⟩
 case h_26 => cases h; exact ⟨rfl,fun _ => rfl⟩
 all_goals first
  | (cases h; done)
  | (obtain ⟨ex,rfl,hx⟩ := l1 h; simp only [E.val,E.ok,C.val,C.ok,C.wp,Ydw,Xk1,hx,Option.map]; exact ⟨trivial,fun h => h.2⟩)
  | (obtain ⟨ex,ey,rfl,hx,hy⟩ := l2 h; simp only [E.val,E.ok,C.val,C.ok,C.wp,Ydw,Xk1,Xt4,Nat.reduceBEq,hx,hy,Option.map]; exact ⟨trivial,fun h => h.2.2⟩)
  | (obtain ⟨ex,ey,ez,rfl,hx,hy,hz⟩ := l3 h; simp only [E.val,E.ok,C.val,C.ok,C.wp,Ydw,Xk1,Xt4,Nat.reduceBEq,hx,hy,hz,Option.map]; exact ⟨trivial,fun h => h.2.2.2⟩)
end
end Go.Ab
/- Regions folded into expressions: that the fold Xir what is shown. Over any program; no condition. -/
namespace Go.Ab
open Go

section
variable {P : Prg} {T : Tab} {σ : Sg} {sl sl0 : Xb} {ob : Objs} {p : Uu}

theorem Wm {x : A} {k : Nat} {ex : E} (hk : k ∈ Xdp σ p x) (h : opE σ p x = some ex) : ent σ k = some (p,ex) := by
 cases x with
 | t j =>
  simp only [Xdp] at hk
  simp only [opE] at h
  split at hk
  ·rename_i q e he
   split at hk
   ·rename_i hq
    simp at hk; subst hk
    simp at hq; subst hq
    rw [he] at h
    simp at h
    rw [he,h]
   ·cases hk
  ·cases hk
 | _ => simp [Xdp] at hk
theorem Y5 {g : Nat} {b : Bool} : Xq sl (p ++ [(g,b)]) = (Xq sl p && isB b (look sl g)) := by
 simp [Xq,List.all_append]
theorem Xpg : ∀ {xs : List A} {e : E},Xkd σ p xs = some e → ∀ {k q ek},k ∈ Ydi σ p xs → ent σ k = some (q,ek) → q = p ∧ (e.ok T sl0 ob → ek.ok T sl0 ob)
 | [],_,_,k,_,_,hk,_ => by simp [Ydi] at hk
 | x :: r,e,h,k,q,ek,hk,he => by
  simp only [Xkd] at h
  split at h
  ·rename_i ex er hx hr
   cases h
   simp only [Ydi,List.mem_append] at hk
   rcases hk with hk | hk
   ·have := Wm hk hx
    rw [he] at this; cases this
    exact ⟨rfl,fun h => h.1⟩
   ·obtain ⟨h1,h2⟩ := Xpg hr hk he
    exact ⟨h1,fun h => h2 h.2⟩
  ·cases h

theorem C.cov (hI : Inv T σ sl sl0 ob) {c : C} {e : E} (h : c.lift σ p = some e) {k : Nat} {q : Uu} {ek : E} (hk : k ∈ c.cons σ p) (he : ent σ k = some (q,ek)) (hq : Xq sl q = true) (ho : Xq sl p = true → e.ok T sl0 ob) : ek.ok T sl0 ob := by
 have l1 : ∀ {c x},Wr σ p c x = some e → k ∈ Xdp σ p x → ek.ok T sl0 ob := fun h hk => by
  obtain ⟨ex,rfl,hx⟩ := Xoo h
  have := Wm hk hx
  rw [he] at this; cases this
  exact (ho hq).1
 have l2 : ∀ {c x y},Qd σ p c x y = some e → k ∈ Xdp σ p x ++ Xdp σ p y → ek.ok T sl0 ob := fun h hk => by
  obtain ⟨ex,ey,rfl,hx,hy⟩ := Xop h
  rw [List.mem_append] at hk
  rcases hk with hk | hk
  ·have := Wm hk hx
   rw [he] at this; cases this
   exact (ho hq).1
  ·have := Wm hk hy
   rw [he] at this; cases this
   exact (ho hq).2.1
 have l3 : ∀ {c x y z},Xqe σ p c x y z = some e → k ∈ Xdp σ p x ++ Xdp σ p y ++ Xdp σ p z → ek.ok T sl0 ob := fun h hk => by
  obtain ⟨ex,ey,ez,rfl,hx,hy,hz⟩ := Xoq h
  rw [List.mem_append,List.mem_append] at hk
  rcases hk with (hk | hk) | hk
  ·have := Wm hk hx
   rw [he] at this; cases this
   exact (ho hq).1
  ·have := Wm hk hy
   rw [he] at this; cases this
   exact (ho hq).2.1
  ·have := Wm hk hz
   rw [he] at this; cases this
   exact (ho hq).2.2.1
 unfold C.lift at h
 split at h <;> simp only [C.cons] at hk
 case h_1 =>
  have := Wm hk h
  rw [he] at this; cases this
  exact ho hq
 case h_2 g x y =>
  obtain ⟨ec,ex,ey,rfl,hc,hx,hy⟩ := Xha h
  rw [List.mem_append,List.mem_append] at hk
  rcases hk with (hk | hk) | hk
  ·have := Wm hk hc
   rw [he] at this; cases this
   exact (ho hq).1
  ·have := Wm hk hx
   rw [he] at this; cases this
   rw [Y5,Bool.and_eq_true] at hq
   have hv := Z2 hI hq.1 hc
   exact (ho hq.1).2.2.1 (by rw [hv]; exact hq.2)
  ·have := Wm hk hy
   rw [he] at this; cases this
   rw [Y5,Bool.and_eq_true] at hq
   have hv := Z2 hI hq.1 hc
   exact (ho hq.1).2.2.2 (by rw [hv]; exact hq.2)
 all_goals first
  | (cases h; done)
  | exact l1 h hk
  | exact l2 h hk
  | exact l3 h hk
  | (cases hk; done)
theorem I.cov (hI : Inv T σ sl sl0 ob) {fs : List Nat} {i : I} {e : E} (h : i.lift fs σ p = some e) {k : Nat} {q : Uu} {ek : E} (hk : k ∈ i.cons σ p) (he : ent σ k = some (q,ek)) (hq : Xq sl q = true) (ho : Xq sl p = true → e.ok T sl0 ob) : ek.ok T sl0 ob := by
 cases i <;> simp only [I.lift] at h <;> simp only [I.cons] at hk
 case c x => exact C.cov hI h hk he hq ho
 case pcall f args =>
  split at h
  ·split at h
   ·rename_i e' ha
    cases h
    obtain ⟨rfl,h2⟩ := Xpg (T := T) (sl0 := sl0) (ob := ob) ha hk he
    exact h2 (ho hq).1
   ·cases h
  ·cases h
 all_goals cases h
theorem I.gcov {fs : List Nat} {i : I} {e : E} (h : i.lift fs σ p = some e) {k : Nat} {q : Uu} {ek : E} (hk : k ∈ i.gcons σ p) (he : ent σ k = some (q,ek)) (hq : Xq sl q = true) (ho : Xq sl p = true → e.ok T sl0 ob) : Xcp (ek.val T sl0 ob) := by
 unfold I.gcons at hk
 split at hk
 ·rename_i g x y
  simp only [I.lift,C.lift] at h
  obtain ⟨ec,ex,ey,rfl,hc,hx,hy⟩ := Xha h
  have := Wm hk hc
  rw [he] at this; cases this
  exact (ho hq).2.1
 ·cases hk
theorem I.lift_sound (hT : TOk P T) (hI : Inv T σ sl sl0 ob) (hp : Xq sl p = true) {fs : List Nat} {i : I} {e : E} (h : i.lift fs σ p = some e) (ho : e.ok T sl0 ob) {KO Pn : V → Objs → Prop} (hK : KO (e.val T sl0 ob) ob) : i.wp P sl ob KO Pn := by
 cases i <;> simp only [I.lift] at h
 case c x =>
  obtain ⟨h1,h2⟩ := C.lift_sound hI hp h
  simp only [I.wp]
  exact C.wp_of (h2 ho) (by rw [← h1]; exact hK)
 case pcall f args =>
  split at h
  ·split at h
   ·rename_i e' ha
    cases h
    have hv := Xhw hI hp ha
    simp only [E.ok,E.val,hv] at ho hK
    simp only [I.wp]
    cases hf : J4 T f with
    | none => rw [hf] at ho; exact ho.2.elim
    | some F => rw [hf] at ho hK; exact hT f F hf _ ho.2 _ _ hK
   ·cases h
  ·cases h
 all_goals cases h

theorem Inv.congr {sl' : Xb} (hI : Inv T σ sl sl0 ob) (h : ∀ k,look sl' k = look sl k) : Inv T σ sl' sl0 ob := by
 intro k p e he
 have : Xq sl' p = Xq sl p := by simp only [Xq,h]
 rw [this,h]
 exact hI k p e he

def Ug (d : Nat) (p : Uu) : Bool := p.all fun g => g.1 != d
def Xkr (σ : Sg) (d : Nat) : Bool := σ.all fun x => match x.2 with
 | some (p,_) => Ug d p
 | none => true
theorem Vw {d : Nat} {v : V} (h : Ug d p = true) : Xq ((d,v) :: sl) p = Xq sl p := by
 induction p with
 | nil => rfl
 | cons g r ih =>
  simp only [Ug,List.all_cons,Bool.and_eq_true] at h
  simp only [Xq,List.all_cons] at ih ⊢
  have : look ((d,v) :: sl) g.1 = look sl g.1 := by
   have := h.1; simp at this
   have h' : ¬ d = g.1 := fun e => this e.symm
   simp [look,h']
  rw [this,ih h.2]
theorem Xeq : ∀ {σ : Sg} {d k : Nat} {p : Uu} {e : E},Xkr σ d = true → Wl σ k = some (some (p,e)) → Ug d p = true
 | [],_,_,_,_,_,h => by simp [Wl] at h
 | (j,x) :: r,d,k,p,e,hg,h => by
  simp only [Xkr,List.all_cons,Bool.and_eq_true] at hg
  simp only [Wl] at h
  split at h
  ·cases h; exact hg.1
  ·exact Xeq (σ := r) hg.2 h
theorem Ju {d k : Nat} {q : Uu} {e : E} (hg : Xkr σ d = true) (h : ent σ k = some (q,e)) : Ug d q = true := by
 unfold ent at h
 split at h
 ·cases h; rfl
 ·rename_i x hx; subst h; exact Xeq hg hx

theorem Zy {k : Nat} {x : Option (Uu × E)} : ent ((k,x) :: σ) k = x := by simp [ent,Wl]
theorem Ze {j k : Nat} {x : Option (Uu × E)} (h : k ≠ j) : ent ((k,x) :: σ) j = ent σ j := by simp [ent,Wl,h]

end
end Go.Ab
/- Regions folded into expressions: the fold itself, and that it Xir what is shown. Over any program; no condition. -/
namespace Go.Ab
open Go

inductive It2 where
 | chk (p : List (E × Bool)) (e : E)
 | lt (k : Nat) (p : List (E × Bool)) (e : E)
 | op (d : Option Nat) (i : I)
 | gop (p : List (E × Bool)) (d : Option Nat) (i : I)

def Xhk (b : Bool) (v : V) : V := if b then v else .undef

def V4 (P : Prg) (T : Tab) (K : Xb → Objs → Prop) (Pn : V → Xb → Objs → Prop) : List It2 → Xb → Objs → Prop
 | [],sl,ob => K sl ob
 | .chk p e :: r,sl,ob => (Zt T sl ob p = true → e.ok T sl ob) ∧ V4 P T K Pn r sl ob
 | .lt k p e :: r,sl,ob => (Zt T sl ob p = true → e.ok T sl ob) ∧ V4 P T K Pn r ((k,Xhk (Zt T sl ob p) (e.val T sl ob)) :: sl) ob
 | .op d i :: r,sl,ob => i.wp P sl ob (fun v ob' => V4 P T K Pn r (put sl d v) ob') (fun v ob' => Pn v sl ob')
 | .gop p d i :: r,sl,ob => (Zt T sl ob p = true → i.wp P sl ob (fun v ob' => V4 P T K Pn r (put sl d v) ob') (fun v ob' => Pn v sl ob')) ∧
   (Zt T sl ob p = false → V4 P T K Pn r (put sl d .undef) ob)

def Uy (T : Tab) (sl : Xb) (ob : Objs) : List (Nat × E) → Xb
 | [] => []
 | (k,e) :: r => (k,e.val T sl ob) :: Uy T sl ob r
def W1 (T : Tab) (sl : Xb) (ob : Objs) : List (Nat × E) → Prop
 | [] => True
 | (_,e) :: r => e.ok T sl ob ∧ W1 T sl ob r


def A.slots : A → List Nat
 | .t k => [k]
 | _ => []
def Vg : List A → List Nat
 | [] => []
 | x :: r => x.slots ++ Vg r
def Xe9 : Option A → List Nat
 | some x => x.slots
 | none => []
def C.slots : C → List Nat
 | .mv x | .not x | .neg x | .cpl x | .isnil _ x | .pnil _ x | .fnil _ x | .usd x | .cvi _ x | .cvs x | .fldA _ _ x | .fld _ _ _ _ x | .ld _ _ x | .nilc x | .lenS x | .lenL x | .ext x _ | .mki _ x | .tas _ _ x => x.slots
 | .bin _ x y | .mx x y | .beq _ x y | .peq _ x y | .idx x y | .idxA _ x y | .idxP _ _ x y | .eqD _ _ x y | .aix _ _ _ x y => x.slots ++ y.slots
 | .pick x y z => x.slots ++ (y.slots ++ z.slots)
 | .slcS x l h | .slcL _ x l h => x.slots ++ (Xe9 l ++ Xe9 h)
 | .lenA _ => []
 | .bld _ ps => Vg (ps.map (·.2))
 | .mkf _ a b => Vg a ++ Vg b
def I.slots : I → List Nat
 | .c x => x.slots
 | .box _ x => x.slots
 | .alloc _ _ => []
 | .bls _ _ ps => Vg (ps.map (·.2))
 | .blo _ _ _ ps => Vg (ps.map (·.2))
 | .st _ x y => x.slots ++ y.slots
 | .app _ _ _ x y => x.slots ++ y.slots
 | .appS _ _ x y => x.slots ++ y.slots
 | .call _ l => Vg l
 | .pcall _ l => Vg l
 | .callv x l => x.slots ++ Vg l
 | .panic x => x.slots
 | .b2s x => x.slots
 | .s2b x => x.slots
 | .nilo _ _ x => x.slots
 | .mvf x => x.slots
 | .ldf _ _ x => x.slots
 | .mvg _ _ y x _ => y.slots ++ x.slots
 | .mvn y x _ => y.slots ++ x.slots
 | .cvb x => x.slots
 | .ustr _ x y => x.slots ++ y.slots
 | .mkm r => Xe9 r
 | .lkp _ _ _ m k => m.slots ++ k.slots
 | .mset _ m k v => m.slots ++ (k.slots ++ v.slots)
 | .gld _ _ _ _ => []
 | .slg _ _ x => x.slots
 | .blv _ _ _ ps => Vg (ps.map (·.2))
 | .apv _ _ _ x y => x.slots ++ y.slots
 | .gv x => x.slots
 | .ldg _ _ x => x.slots
 | .slb _ _ x lo hi => x.slots ++ (Xe9 lo ++ Xe9 hi)
 | .cpy _ x y => x.slots ++ y.slots
 | .clr _ _ x => x.slots
 | .gix _ _ _ _ i => i.slots

section
variable {P : Prg} {sl sl' : Xb} {ob : Objs}
theorem A.ev_eq {x : A} (h : ∀ k ∈ x.slots,look sl k = look sl' k) : x.ev sl = x.ev sl' := by
 cases x <;> simp_all [A.ev,A.slots]
theorem Xem : ∀ {l : List A},(∀ k ∈ Vg l,look sl k = look sl' k) → l.map (A.ev sl) = l.map (A.ev sl')
 | [],_ => rfl
 | x :: r,h => by
  simp only [Vg,List.mem_append] at h
  simp only [List.map_cons,A.ev_eq (fun k hk => h k (.inl hk)),Xem (fun k hk => h k (.inr hk))]
theorem Xen {l : Option A} (h : ∀ k ∈ Xe9 l,look sl k = look sl' k) : l.map (A.ev sl) = l.map (A.ev sl') := by
 cases l with
 | none => rfl
 | some x => simp only [Option.map_some,A.ev_eq h]
theorem Xia : ∀ {l : List (Nat × A)},(∀ k ∈ Vg (l.map (·.2)),look sl k = look sl' k) → (l.map fun x => (x.1,A.ev sl x.2)) = l.map fun x => (x.1,A.ev sl' x.2)
 | [],_ => rfl
 | x :: r,h => by
  simp only [List.map_cons,Vg,List.mem_append] at h
  simp only [List.map_cons,A.ev_eq (fun k hk => h k (.inl hk)),Xia (fun k hk => h k (.inr hk))]
theorem C.wp_eq {K : V → Prop} {c : C} (h : ∀ k ∈ c.slots,look sl k = look sl' k) : c.wp sl ob K = c.wp sl' ob K := by
 cases c <;> simp only [C.slots,List.mem_append] at h <;> simp only [C.wp]
 case bld => rw [Xia h]
 case mkf => rw [Xem (fun k hk => h k (.inl hk)),Xem (fun k hk => h k (.inr hk))]
 case pick => rw [A.ev_eq (fun k hk => h k (.inl hk)),A.ev_eq (fun k hk => h k (.inr (.inl hk))),A.ev_eq (fun k hk => h k (.inr (.inr hk)))]
 case slcS => rw [A.ev_eq (fun k hk => h k (.inl hk)),Xen (fun k hk => h k (.inr (.inl hk))),Xen (fun k hk => h k (.inr (.inr hk)))]
 case slcL => rw [A.ev_eq (fun k hk => h k (.inl hk)),Xen (fun k hk => h k (.inr (.inl hk))),Xen (fun k hk => h k (.inr (.inr hk)))]
 all_goals first
  | rw [A.ev_eq h]
  | rw [A.ev_eq (fun k hk => h k (.inl hk)),A.ev_eq (fun k hk => h k (.inr hk))]
theorem I.wp_eq {K Pn : V → Objs → Prop} {i : I} (h : ∀ k ∈ i.slots,look sl k = look sl' k) : i.wp P sl ob K Pn = i.wp P sl' ob K Pn := by
 cases i <;> simp only [I.slots,List.mem_append] at h <;> simp only [I.wp]
 case c => rw [C.wp_eq h]
 case bls => rw [Xia h]
 case blo => rw [Xia h]
 case blv => rw [Xia h]
 case call => rw [Xem h]
 case pcall => rw [Xem h]
 case callv => rw [A.ev_eq (fun k hk => h k (.inl hk)),Xem (fun k hk => h k (.inr hk))]
 case mset => rw [A.ev_eq (fun k hk => h k (.inl hk)),A.ev_eq (fun k hk => h k (.inr (.inl hk))),A.ev_eq (fun k hk => h k (.inr (.inr hk)))]
 case slb => rw [A.ev_eq (fun k hk => h k (.inl hk)),Xen (fun k hk => h k (.inr (.inl hk))),Xen (fun k hk => h k (.inr (.inr hk)))]
 case mkm r =>
  cases r with
  | none => rfl
  | some x => simp only [Xxk,A.ev_eq (x := x) h]
 all_goals first
  | rw [A.ev_eq h]
  | rw [A.ev_eq (fun k hk => h k (.inl hk)),A.ev_eq (fun k hk => h k (.inr hk))]
  | rfl

theorem Xiy {K K' : V → Objs → Prop} {ob : Objs} {E sz : Nat} {p : List Nat} {y x : V} (hk : ∀ v b,K v b → K' v b) (h : Xj2 ob E sz p y K x) : Xj2 ob E sz p y K' x := by
 unfold Xj2 at h; split at h
 ·simp only [Xj2]
  generalize lookO _ _ = o at h ⊢
  unfold Xd3 at h; split at h
  ·simp only [Xd3]
   rcases h with h | h
   case inr => exact .inr ⟨h.1,hk _ _ h.2⟩
   refine .inl ⟨h.1,?_⟩
   have h := h.2
   generalize V.set _ _ _ = o at h ⊢
   cases o with
   | none => exact h.elim
   | some t => exact hk _ _ h
  ·exact h.elim
 ·exact h.elim
theorem Xi0 {K K' : V → Objs → Prop} {y x : V} (hk : ∀ v b,K v b → K' v b) : ∀ {l : List (Nat × Nat × List Nat)} {ob : Objs},X10 y K x l ob → X10 y K' x l ob
 | [],_,h => hk _ _ h
 | _ :: _,_,h => Xiy (fun _ _ h => Xi0 hk h) h

theorem I.wp_mono {K K' Pn Pn' : V → Objs → Prop} (hk : ∀ v b,K v b → K' v b) (hp : ∀ v b,Pn v b → Pn' v b) {i : I} (h : i.wp P sl ob K Pn) : i.wp P sl ob K' Pn' := by
 have ho : ∀ o b,Xm5 K Pn o b → Xm5 K' Pn' o b := fun o b => by cases o with | ret v => exact hk v b | panic v => exact hp v b
 have bx : ∀ {E v},Xra E ob K v → Xra E ob K' v := fun h => ⟨h.1,hk _ _ h.2⟩
 have dk : ∀ {KD KD' : List D → Prop},(∀ l,KD l → KD' l) → ∀ o,dK KD o → dK KD' o := fun f o h => by cases o with | none => exact h.elim | some l => exact f l h
 have gv : ∀ (o : Option (D × Objs)),Xig K o → Xig K' o := fun o h => by
  cases o with
  | none => exact h.elim
  | some q => exact hk _ _ h
 have ap : ∀ {E sz B ys u},Xdv E sz B ob ys K u → Xdv E sz B ob ys K' u := fun {E sz B ys u} h => by
  unfold Xdv at h; split at h
  ·simp only [Xdv]
   generalize lookO _ _ = o at h ⊢
   unfold Xdx at h; split at h
   ·obtain ⟨h1,h2,h3,h4,h5⟩ := h
    exact ⟨h1,h2,h3,h4,hk _ _ h5⟩
   ·exact h.elim
  ·exact ⟨h.1,hk _ _ h.2⟩
  ·exact h.elim
 have apv : ∀ {E sz B ys u},Xn7 E sz B ob ys K u → Xn7 E sz B ob ys K' u := fun {E sz B ys u} h => by
  unfold Xn7 at h; split at h
  ·simp only [Xn7]
   generalize lookO _ _ = o at h ⊢
   unfold Xdy at h; split at h
   ·obtain ⟨h1,h2,h3,h4,h5⟩ := h
    exact ⟨h1,h2,h3,h4,hk _ _ h5⟩
   ·obtain ⟨h1,h2,h3,h4,h5⟩ := h
    exact ⟨h1,h2,h3,h4,hk _ _ h5⟩
   ·exact h.elim
  ·exact ⟨h.1,hk _ _ h.2⟩
  ·exact h.elim
 have bw : ∀ {id p lo n z ys r o},Xxf ob id p lo n z ys r K o → Xxf ob id p lo n z ys r K' o := fun {id p lo n z ys r o} h => by
  unfold Xxf at h; split at h
  ·simp only [Xxf]
   generalize V.at _ _ = o at h ⊢
   unfold Yds at h; split at h
   ·obtain ⟨h1,h2,h3,t,h4,h5⟩ := h
    exact ⟨h1,h2,h3,t,h4,hk _ _ h5⟩
   ·exact h.elim
  ·exact h.elim
 cases i <;> simp only [I.wp] at h ⊢
 case c x => exact C.wp_mono (fun v => hk v ob) x h
 case box => exact bx h
 case alloc => exact bx h
 case bls => exact U4 (fun _ => dk (fun _ => hk _ _) _) _ _ h
 case blo => exact U4 (fun _ => dk (fun _ h => hk _ _ h) _) _ _ h
 case st x y =>
  generalize A.ev sl x = v at h ⊢
  unfold stK at h; split at h
  ·simp only [stK]
   generalize lookO _ _ = o at h ⊢
   unfold stKo at h; split at h
   ·simp only [stKo]
    generalize V.at _ _ = o at h ⊢
    unfold Xw1 at h; split at h
    ·obtain ⟨h1,h2,h3,t,h4,h5⟩ := h
     exact ⟨h1,h2,h3,t,h4,hk _ _ h5⟩
    ·exact h.elim
   ·exact h.elim
  ·simp only [stK]
   generalize lookO _ _ = o at h ⊢
   unfold Xxn at h; split at h
   ·simp only [Xxn]
    generalize Wq _ _ _ = o at h ⊢
    unfold X01 at h; split at h
    ·refine ⟨h.1,?_⟩
     have h := h.2
     generalize V.at _ _ = o at h ⊢
     unfold Xxo at h; split at h
     ·obtain ⟨h1,h2,h3,t,h4,h5⟩ := h
      exact ⟨h1,h2,h3,t,h4,hk _ _ h5⟩
     ·exact h.elim
    ·exact h.elim
   ·exact h.elim
  ·exact h.elim
 case app x y =>
  generalize A.ev sl y = v at h ⊢
  unfold Xwz at h; split at h
  ·exact ⟨h.1,ap h.2⟩
  ·exact ap h
  ·exact h.elim
 case blv => exact U4 (fun _ => hk _ _) _ _ h
 case apv x y =>
  generalize A.ev sl y = v at h ⊢
  unfold X8o at h; split at h
  ·exact ⟨h.1,apv h.2⟩
  ·exact apv h
  ·rcases h with ⟨E,ys,h1,h2,h3,h4⟩ | ⟨E,ys,h1,h2,h4⟩
   ·exact .inl ⟨E,ys,h1,h2,h3,apv h4⟩
   ·exact .inr ⟨E,ys,h1,h2,apv h4⟩
  ·exact h.elim
 case gv x =>
  generalize V.gvF _ _ _ = v at h ⊢
  exact gv _ h
 case slb x lo hi =>
  generalize A.ev sl x = v at h ⊢
  unfold X8n at h; split at h
  ·simp only [X8n]
   generalize Zg _ = o at h ⊢
   unfold Xqk at h; split at h
   ·exact ⟨h.1,h.2.1,Xco (fun _ _ => hk _ _) h.2.2⟩
   ·exact h.elim
  ·exact h.elim
 case cpy x y =>
  generalize A.ev sl x = v at h ⊢; generalize A.ev sl y = u at h ⊢
  unfold Ydu at h; split at h
  ·exact ⟨h.1,bw h.2⟩
  ·exact h.elim
 case clr x =>
  generalize A.ev sl x = v at h ⊢
  unfold Ydt at h; split at h
  ·exact ⟨fun e => ⟨(h.1 e).1,hk _ _ (h.1 e).2⟩,fun e => ⟨(h.2 e).1,bw (h.2 e).2⟩⟩
  ·exact h.elim
 case gix x y =>
  refine ⟨h.1,?_⟩
  have h := h.2
  generalize A.ev sl y = u at h ⊢
  unfold Ydz at h; split at h
  ·exact ⟨h.1,h.2.1,h.2.2.1,hk _ _ h.2.2.2⟩
  ·exact h.elim
 case ldg x =>
  generalize A.ev sl x = v at h ⊢
  unfold X1u at h; split at h
  ·simp only [X1u]
   generalize atO _ _ _ = o at h ⊢
   unfold Xqd at h; split at h
   ·refine ⟨h.1,h.2.1,?_⟩
    have h := h.2.2
    generalize V.gvF _ _ _ = o at h ⊢
    unfold Xqc at h; split at h
    ·refine ⟨h.1,?_⟩
     have h := h.2
     generalize lookO _ _ = o at h ⊢
     unfold Xtx at h; split at h
     ·obtain ⟨t',h1,h2⟩ := h
      exact ⟨t',h1,hk _ _ h2⟩
     ·exact h.elim
    ·exact h.elim
   ·exact h.elim
  ·exact h.elim
 case appS x y =>
  generalize A.ev sl y = v at h ⊢
  unfold Xhe at h; split at h
  ·exact ap h
  ·exact h.elim
 case mvf x =>
  generalize V.giv _ _ = v at h ⊢
  exact gv _ h
 case ldf x =>
  generalize A.ev sl x = v at h ⊢
  unfold X0a at h; split at h
  ·simp only [X0a]
   generalize atO _ _ _ = o at h ⊢
   unfold Xky at h; split at h
   ·exact ⟨h.1,h.2.1,gv _ h.2.2⟩
   ·exact h.elim
  ·exact h.elim
 case mvg => exact Xiy hk h
 case mvn => exact Xi0 hk h
 case cvb x =>
  generalize A.ev sl x = v at h ⊢
  unfold Xst at h; split at h
  ·simp only [Xst]
   generalize lookO _ _ = o at h ⊢
   unfold Xfl at h; split at h
   ·exact ⟨h.1,h.2.1,h.2.2.1,hk _ _ h.2.2.2⟩
   ·exact h.elim
  ·exact h.elim
 case ustr x y =>
  generalize A.ev sl x = v at h ⊢; generalize A.ev sl y = u at h ⊢
  unfold Xa6 at h; split at h
  ·simp only [Xa6]
   generalize lookO _ _ = o at h ⊢
   unfold Xag at h; split at h
   ·obtain ⟨h1,h2,h3,h4,h5,h6,s,h7,h8⟩ := h
    exact ⟨h1,h2,h3,h4,h5,h6,s,h7,hk _ _ h8⟩
   ·exact h.elim
  ·exact ⟨h.1,hk _ _ h.2⟩
  ·exact h.elim
 case call => exact h.mono ho
 case pcall => exact h.mono fun v => hk v ob
 case callv x l =>
  generalize A.ev sl x = v at h ⊢
  unfold U5 at h; split at h
  ·exact ⟨h.1,h.2.mono ho⟩
  ·exact ⟨h.1,h.2.mono ho⟩
  ·exact h.elim
 case panic x =>
  generalize A.ev sl x = v at h ⊢
  unfold J9 at h; split at h
  ·exact hp _ _ h
  ·exact hp _ _ h
  ·exact h.elim
 case b2s x =>
  generalize A.ev sl x = v at h ⊢
  unfold X79 at h; split at h
  ·obtain ⟨h1,s,h2,h3⟩ := h
   exact ⟨h1,s,h2,hk _ _ h3⟩
  ·exact hk _ _ h
  ·exact h.elim
 case s2b x =>
  generalize A.ev sl x = v at h ⊢
  unfold X8m at h; split at h
  ·exact hk _ _ h
  ·exact h.elim
 case nilo x =>
  generalize A.ev sl x = v at h ⊢
  unfold Xg8 at h; split at h
  ·exact hk _ _ h
  ·exact h.elim
 case mkm r => exact ⟨h.1,hk _ _ h.2⟩
 case gld => exact ⟨h.1,h.2.1,h.2.2.1,hk _ _ h.2.2.2⟩
 case slg x =>
  generalize A.ev sl x = v at h ⊢
  unfold X3j at h; split at h
  ·simp only [X3j]
   generalize atO _ _ _ = o at h ⊢
   unfold Xql at h; split at h
   ·exact ⟨h.1,h.2.1,hk _ _ h.2.2⟩
   ·exact h.elim
  ·exact h.elim
 case lkp x y =>
  generalize A.ev sl x = v at h ⊢; generalize A.ev sl y = u at h ⊢
  unfold Xt3 at h; split at h
  ·simp only [Xt3]
   generalize lookO _ _ = o at h ⊢
   unfold Xf0 at h; split at h
   ·exact ⟨h.1,hk _ _ h.2⟩
   ·exact h.elim
  ·exact ⟨h.1,hk _ _ h.2⟩
  ·exact h.elim
 case mset x y z =>
  generalize A.ev sl x = v at h ⊢; generalize A.ev sl y = u at h ⊢
  unfold Xc6 at h; split at h
  ·simp only [Xc6]
   generalize lookO _ _ = o at h ⊢
   unfold J6 at h; split at h
   ·exact ⟨h.1,h.2.1,hk _ _ h.2.2⟩
   ·exact h.elim
  ·exact h.elim
end
end Go.Ab
/- Regions folded into expressions: the fold of a whole region, and that it Xir what is shown. Over any program; no condition. -/
namespace Go.Ab
open Go

def Xm7 (σ : Sg) : Uu → Uu → Option (List (E × Bool))
 | _,[] => some []
 | dn,(g,b) :: r => match ent σ g with
  | some (q,e) => if q.isPrefixOf dn then (match Xm7 σ (dn ++ [(g,b)]) r with | some l => some ((e,b) :: l) | none => none) else none
  | none => none
def Yik (σ : Sg) (f : E → E) (k : Nat) : Option It2 := match ent σ k with
 | some (p,e) => match Xm7 σ [] p with
  | some l => some (.chk l (f e))
  | none => none
 | none => none
def chks (σ : Sg) (f : E → E) : List Nat → Option (List It2)
 | [] => some []
 | k :: r => match Yik σ f k,chks σ f r with
  | some c,some l => some (c :: l)
  | _,_ => none
def bw (e : E) : E := .ite e (.a (.bool true)) (.a (.bool true))
def Xeh (σ : Sg) (k : Nat) : Sg := σ.filter fun x => x.1 != k
def noMen (σ : Sg) (k : Nat) : Bool := σ.all fun x => match x.2 with
 | some (_,e) => !e.men k
 | none => true
def Ybx (σ : Sg) : Bool := σ.all fun x => match x.2 with
 | some (_,e) => !e.rd
 | none => true
def X93 (ns : List Nat) (σ : Sg) (k : Nat) (p : Uu) : Sg := if ns.contains k || p.isEmpty then Xeh σ k else (k,some (p,.a (.t k))) :: Xeh σ k
def Yku (ns : List Nat) (σ : Sg) (k : Nat) : Option (It2 × Sg) := match Wl σ k with
 | some (some (p,e)) => match Xm7 σ [] p with
  | some l => if noMen (Xeh σ k) k then some (.lt k l e,X93 ns σ k p) else none
  | none => none
 | _ => none
def Ya8 (ns : List Nat) : List Nat → Sg → Option (List It2 × Sg)
 | [],σ => some ([],σ)
 | k :: r,σ => match Yku ns σ k with
  | some (i,σ') => match Ya8 ns r σ' with
   | some (l,σ'') => some (i :: l,σ'')
   | none => none
  | none => none
def kill (lv : List Nat) : Sg → Sg
 | [] => []
 | (k,x) :: r => (if lv.contains k then (k,x) else (k,none)) :: kill lv r
def X0h : List It → List Nat
 | [] => []
 | .op _ i :: r => i.slots ++ X0h r
 | .gop g _ _ i :: r => g :: (i.slots ++ X0h r)
def Yhw (σ : Sg) (s : List Nat) (d : Option Nat) : List Nat := (σ.filter fun x => match x.2 with
 | some (_,e) => s.contains x.1 || e.rd || (match d with | some k => x.1 != k && e.men k | none => false)
 | none => false).map (·.1)
def It.d : It → Option Nat
 | .op d _ => d
 | .gop _ _ d _ => d
def It.i : It → I
 | .op _ i => i
 | .gop _ _ _ i => i
def It.path (σ : Sg) : It → Option (Uu × List Nat)
 | .op _ _ => some ([],[])
 | .gop g b _ _ => match ent σ g with
  | some (q,_) => some (q ++ [(g,b)],[g])
  | none => none
def It.eff (l : List (E × Bool)) : It → It2
 | .op d i => .op d i
 | .gop _ _ d i => .gop l d i
def Ye9 (σ : Sg) : Option Nat → Sg
 | some k => Xeh σ k
 | none => σ
def X57 (σ : Sg) (p : Uu) : Option Nat → Bool
 | some k => noMen (Xeh σ k) k && Xkr (Xeh σ k) k && Ug k p
 | none => true
def Xir (σ : Sg) : List Nat → Option (List (Nat × E))
 | [] => some []
 | k :: r => match ent σ k,Xir σ r with
  | some ([],e),some l => some ((k,e) :: l)
  | _,_ => none
def Ydo (e : E) (k : Nat) (l : List Nat) : List Nat := if e.isA then l else k :: l

def J3 (fs keep pk : List Nat) : List It → Sg → List Nat → List Nat → Option (List It2 × List (Nat × E))
 | [],σ,pe,pg => match chks σ id (pe.filter fun k => !keep.contains k),chks σ bw pg,Xir σ keep with
  | some c1,some c2,some kp => some (c1 ++ c2,kp)
  | _,_,_ => none
 | it :: r,σ,pe,pg => match it.path σ with
  | none => none
  | some (p,gs) => match it.d,it.i.lift fs σ p with
   | some k,some e => if Xkr (Xeh σ k) k && Ug k p && !pe.contains k && !(gs ++ pg).contains k then
     J3 fs keep pk r ((k,some (p,e)) :: Xeh σ k) (Ydo e k (pe.filter fun j => !(it.i.cons σ p).contains j)) ((gs ++ pg).filter fun j => !(it.i.gcons σ p).contains j)
    else none
   | d,_ => match chks σ id pe,chks σ bw (gs ++ pg) with
    | some c1,some c2 => match Ya8 (it.i.slots ++ (pk ++ keep)) (Yhw (kill (it.i.slots ++ (p.map (·.1) ++ (X0h r ++ keep))) σ) it.i.slots d) (kill (it.i.slots ++ (p.map (·.1) ++ (X0h r ++ keep))) σ) with
     | some (ms,σ2) => match Xm7 σ2 [] p with
      | some l => if (it.i.slots.all fun k => (Wl σ2 k).isNone) && X57 σ2 p d && Ybx σ2 && (pk.all fun k => (Wl σ2 k).isNone) then
        match J3 fs keep pk r (Ye9 σ2 d) [] [] with
        | some (t,kp) => some (c1 ++ (c2 ++ (ms ++ (it.eff l :: t))),kp)
        | none => none
       else none
      | none => none
     | none => none
    | _,_ => none

section
variable {P : Prg} {T : Tab} {σ : Sg} {sl sl0 : Xb} {ob : Objs} {p : Uu} {K : Xb → Objs → Prop} {Pn : V → Xb → Objs → Prop}

theorem Ui (hI : Inv T σ sl sl0 ob) : ∀ (r dn : Uu) (l : List (E × Bool)),Xm7 σ dn r = some l → Xq sl dn = true → Xq sl r = Zt T sl0 ob l
 | [],dn,l,h,_ => by simp only [Xm7] at h; cases h; rfl
 | (g,b) :: r,dn,l,h,hd => by
  simp only [Xm7] at h
  split at h
  ·rename_i q e he
   split at h
   ·rename_i hq
    split at h
    ·rename_i l' hl
     cases h
     have hv := (hI g q e he).1 (Xbe hq hd)
     simp only [Xq,Zt,List.all_cons,hv]
     cases hb : isB b (e.val T sl0 ob) with
     | false => rfl
     | true =>
      have := Ui hI r _ l' hl (by rw [Y5,hd,hv,hb]; rfl)
      simpa [Xq,Zt] using this
    ·cases h
   ·cases h
  ·cases h

theorem Y4 (hI : Inv T σ sl sl0 ob) {f : E → E} : ∀ {ks : List Nat} {cs l : List It2},chks σ f ks = some cs → V4 P T K Pn (cs ++ l) sl0 ob →
  (∀ k ∈ ks,∀ p e,ent σ k = some (p,e) → Xq sl p = true → (f e).ok T sl0 ob) ∧ V4 P T K Pn l sl0 ob
 | [],cs,l,h,hr => by simp only [chks] at h; cases h; exact ⟨fun _ h => (by cases h),hr⟩
 | k :: r,cs,l,h,hr => by
  simp only [chks] at h
  split at h
  ·rename_i c l' hc hl
   cases h
   unfold Yik at hc
   split at hc
   ·rename_i p e he
    split at hc
    ·rename_i lp hp
     cases hc
     simp only [List.cons_append,V4] at hr
     obtain ⟨h1,h2⟩ := Y4 hI hl hr.2
     refine ⟨fun j hj q e' he' hq => ?_,h2⟩
     rcases List.mem_cons.mp hj with rfl | hj
     ·rw [he] at he'; cases he'
      exact hr.1 (by rw [← Ui hI _ _ _ hp rfl]; exact hq)
     ·exact h1 j hj q e' he' hq
    ·cases hc
   ·cases hc
  ·cases h

theorem Xbj : ∀ {σ : Sg} {k : Nat},Wl (Xeh σ k) k = none
 | [],_ => rfl
 | (j,x) :: r,k => by
  have ih := Xbj (σ := r) (k := k)
  simp only [Xeh] at ih ⊢
  by_cases h : j = k
  ·subst h; simp [ih]
  ·simp [h,Wl,ih]
theorem Xbk {k j : Nat} (h : k ≠ j) : ∀ {σ : Sg},Wl (Xeh σ k) j = Wl σ j
 | [] => rfl
 | (i,x) :: r => by
  have ih := Xbk h (σ := r)
  simp only [Xeh] at ih ⊢
  by_cases hi : i = k
  ·subst hi; simp [ih,Wl,h]
  ·simp [hi,Wl,ih]
theorem Xek {k : Nat} : ent (Xeh σ k) k = some ([],.a (.t k)) := by simp [ent,Xbj]
theorem Zl {k j : Nat} (h : k ≠ j) : ent (Xeh σ k) j = ent σ j := by simp [ent,Xbk h]
theorem Xe0 : ∀ {σ : Sg} {d k : Nat} {p : Uu} {e : E},noMen σ d = true → Wl σ k = some (some (p,e)) → e.men d = false
 | [],_,_,_,_,_,h => by simp [Wl] at h
 | (j,x) :: r,d,k,p,e,hg,h => by
  simp only [noMen,List.all_cons,Bool.and_eq_true] at hg
  simp only [Wl] at h
  split at h
  ·cases h; simpa using hg.1
  ·exact Xe0 (σ := r) hg.2 h
theorem Xi3 : ∀ {σ : Sg} {k : Nat} {p : Uu} {e : E},Ybx σ = true → Wl σ k = some (some (p,e)) → e.rd = false
 | [],_,_,_,_,h => by simp [Wl] at h
 | (j,x) :: r,k,p,e,hg,h => by
  simp only [Ybx,List.all_cons,Bool.and_eq_true] at hg
  simp only [Wl] at h
  split at h
  ·cases h; simpa using hg.1
  ·exact Xi3 (σ := r) hg.2 h
theorem Xo1 {k : Nat} {e : E} (hg : Ybx σ = true) (h : ent σ k = some (p,e)) : e.rd = false := by
 unfold ent at h
 split at h
 ·cases h; rfl
 ·rename_i x hx; subst h; exact Xi3 hg hx
theorem Xi2 {d k : Nat} {e : E} (hg : noMen (Xeh σ d) d = true) (hd : d ≠ k) (h : ent σ k = some (p,e)) : e.men d = false := by
 rw [← Zl hd] at h
 unfold ent at h
 split at h
 ·cases h; simp [E.men,A.men]; exact fun e => hd e.symm
 ·rename_i x hx; subst h; exact Xe0 hg hx

theorem Xey {ns : List Nat} : ∀ {ks : List Nat} {σ σ' : Sg} {sl0 : Xb} {ms l : List It2},Inv T σ sl sl0 ob → Ya8 ns ks σ = some (ms,σ') → V4 P T K Pn (ms ++ l) sl0 ob → ∃ sl0',Inv T σ' sl sl0' ob ∧ V4 P T K Pn l sl0' ob
 | [],σ,σ',sl0,ms,l,hI,h,hr => by simp only [Ya8] at h; cases h; exact ⟨sl0,hI,hr⟩
 | k :: r,σ,σ',sl0,ms,l,hI,h,hr => by
  simp only [Ya8] at h
  split at h
  ·rename_i i σ1 h1
   split at h
   ·rename_i l' σ2 h2
    cases h
    unfold Yku at h1
    split at h1
    ·rename_i p e he
     split at h1
     ·rename_i lp hp
      split at h1
      ·rename_i hm
       cases h1
       simp only [List.cons_append,V4] at hr
       refine Xey ?_ h2 hr.2
       have hk := hI k p e (by simp [ent,he])
       have hh := Ui hI _ _ _ hp rfl
       have hdel : ∀ j q e',ent (Xeh σ k) j = some (q,e') → (Xq sl q = true → look sl j = e'.val T ((k,Xhk (Zt T sl0 ob lp) (e.val T sl0 ob)) :: sl0) ob) ∧ (Xq sl q = false → look sl j = .undef) := by
        intro j q e' he'
        by_cases hj : k = j
        ·subst hj
         rw [Xek] at he'; cases he'
         simp only [Xq,List.all_nil,E.val,A.ev,look,if_true]
         refine ⟨fun _ => ?_,fun h => (by cases h)⟩
         rw [← hh]
         cases hs : Xq sl p with
         | true => rw [hk.1 hs]; rfl
         | false => rw [hk.2 hs]; rfl
        ·rw [Zl hj] at he'
         rw [E.val_sl (Xi2 hm hj he')]
         exact hI j q e' he'
       unfold X93
       split
       ·exact hdel
       ·intro j q e' he'
        by_cases hj : k = j
        ·subst hj
         rw [Zy] at he'; cases he'
         simp only [E.val,A.ev,look,if_true]
         rw [← hh]
         exact ⟨fun hs => by rw [hk.1 hs,hs]; rfl,hk.2⟩
        ·rw [Ze hj] at he'
         exact hdel j q e' he'
      ·cases h1
     ·cases h1
    ·cases h1
   ·cases h
  ·cases h

theorem Xom {lv : List Nat} : ∀ {σ : Sg} {k : Nat} {e : E},ent (kill lv σ) k = some (p,e) → ent σ k = some (p,e)
 | [],_,_,h => h
 | (j,x) :: r,k,e,h => by
  by_cases hj : j = k
  ·subst hj
   rw [Zy]
   simp only [kill] at h
   split at h
   ·rwa [Zy] at h
   ·rw [Zy] at h; cases h
  ·rw [Ze hj]
   simp only [kill] at h
   refine Xom (lv := lv) (σ := r) ?_
   split at h
   ·rwa [Ze hj] at h
   ·rwa [Ze hj] at h
theorem Inv.kill {lv : List Nat} (hI : Inv T σ sl sl0 ob) : Inv T (kill lv σ) sl sl0 ob := fun k p e h => hI k p e (Xom h)

theorem Inv.fold' (hI : Inv T σ sl sl0 ob) {k : Nat} {e : E} (hg : Xkr (Xeh σ k) k = true) (hp : Ug k p = true) {v : V} (h1 : Xq sl p = true → v = e.val T sl0 ob) (h2 : Xq sl p = false → v = .undef) :
  Inv T ((k,some (p,e)) :: Xeh σ k) ((k,v) :: sl) sl0 ob := by
 intro j q e' he
 by_cases hj : k = j
 ·subst hj
  rw [Zy] at he; cases he
  rw [Vw hp]
  simp only [look,if_true]
  exact ⟨h1,h2⟩
 ·rw [Ze hj] at he
  rw [Vw (Ju hg he)]
  rw [Zl hj] at he
  simp only [look,hj,if_false]
  exact hI j q e' he

theorem Inv.eff (hI : Inv T σ sl sl0 ob) {d : Option Nat} (hf : X57 σ p d = true) (hr : Ybx σ = true) {v : V} {ob' : Objs} : Inv T (Ye9 σ d) (put sl d v) (put sl0 d v) ob' := by
 cases d with
 | none =>
  intro j q e he
  rw [E.val_ob (ob' := ob) (Xo1 hr he)]
  exact hI j q e he
 | some k =>
  simp only [X57,Bool.and_eq_true] at hf
  intro j q e he
  simp only [put,Ye9] at he ⊢
  by_cases hj : k = j
  ·subst hj
   rw [Xek] at he; cases he
   simp [Xq,E.val,A.ev,look]
  ·have he' := he
   rw [Vw (Ju hf.1.2 he')]
   rw [Zl hj] at he
   rw [E.val_sl (Xi2 hf.1.1 hj he),E.val_ob (ob' := ob) (Xo1 hr he)]
   simp only [look,hj,if_false]
   exact hI j q e he
theorem Q9 (hI : Inv T σ sl sl0 ob) : ∀ {keep : List Nat} {kp : List (Nat × E)},Xir σ keep = some kp → Uy T sl0 ob kp = Xd sl keep ∧ (W1 T sl0 ob kp → ∀ k ∈ keep,∀ p e,ent σ k = some (p,e) → e.ok T sl0 ob)
 | [],kp,h => by simp only [Xir] at h; cases h; exact ⟨rfl,fun _ _ h => (by cases h)⟩
 | k :: r,kp,h => by
  simp only [Xir] at h
  split at h
  ·rename_i e l he hl
   cases h
   obtain ⟨h1,h2⟩ := Q9 hI hl
   refine ⟨by simp only [Uy,Xd,h1,(hI k [] e he).1 rfl],fun ho j hj p e' he' => ?_⟩
   rcases List.mem_cons.mp hj with rfl | hj
   ·rw [he] at he'; cases he'; exact ho.1
   ·exact h2 ho.2 j hj p e' he'
  ·cases h

def Xr3 (T : Tab) (σ : Sg) (pe pg : List Nat) (sl sl0 : Xb) (ob : Objs) : Prop :=
 (∀ k ∈ pe,∀ p e,ent σ k = some (p,e) → Xq sl p = true → e.ok T sl0 ob) ∧
 (∀ k ∈ pg,∀ p e,ent σ k = some (p,e) → Xq sl p = true → Xcp (e.val T sl0 ob))

theorem Xjc {fs : List Nat} {i : I} {k : Nat} {e : E} {pe pg : List Nat} {v : V} (hI : Inv T σ sl sl0 ob) (he : i.lift fs σ p = some e) (c1 : Xkr (Xeh σ k) k = true) (c2 : Ug k p = true) (c3 : k ∉ pe) (c4 : k ∉ pg)
  (h : Xr3 T ((k,some (p,e)) :: Xeh σ k) (Ydo e k (pe.filter fun j => !(i.cons σ p).contains j)) (pg.filter fun j => !(i.gcons σ p).contains j) ((k,v) :: sl) sl0 ob) :
  Xr3 T σ pe pg sl sl0 ob ∧ (Xq sl p = true → e.ok T sl0 ob) := by
 obtain ⟨a1,a2⟩ := h
 have hok : Xq sl p = true → e.ok T sl0 ob := fun hh => by
  cases hA : e.isA with
  | true => cases e <;> simp [E.isA] at hA; trivial
  | false => exact a1 k (by simp [Ydo,hA]) p e Zy (by rw [Vw c2]; exact hh)
 refine ⟨⟨fun j hj q e' he' hq => ?_,fun j hj q e' he' hq => ?_⟩,hok⟩
 ·by_cases hm : j ∈ i.cons σ p
  ·exact I.cov hI he hm he' hq hok
  ·have hkj : k ≠ j := fun e => c3 (e ▸ hj)
   refine a1 j ?_ q e' (by rw [Ze hkj,Zl hkj]; exact he') ?_
   ·simp only [Ydo]; split <;> simp [hj,hm]
   ·rw [Vw]; exact hq
    exact Ju c1 (by rw [Zl hkj]; exact he')
 ·by_cases hm : j ∈ i.gcons σ p
  ·exact I.gcov he hm he' hq hok
  ·have hkj : k ≠ j := fun e => c4 (e ▸ hj)
   refine a2 j ?_ q e' (by rw [Ze hkj,Zl hkj]; exact he') ?_
   ·simp only [List.mem_filter]; exact ⟨hj,by simp [hm]⟩
   ·rw [Vw]; exact hq
    exact Ju c1 (by rw [Zl hkj]; exact he')

theorem Xvw {fs keep pk : List Nat} : ∀ (its : List It) {σ : Sg} {pe pg : List Nat} {sl sl0 : Xb} {ob : Objs} {l : List It2} {kp : List (Nat × E)},Inv T σ sl sl0 ob → J3 fs keep pk its σ pe pg = some (l,kp) →
  V4 P T (fun sl ob => W1 T sl ob kp ∧ K (Uy T sl ob kp) ob) Pn l sl0 ob → Xr3 T σ pe pg sl sl0 ob
 | [],σ,pe,pg,sl,sl0,ob,l,kp,hI,h,hr => by
  simp only [J3] at h
  split at h
  ·rename_i c1 c2 kp' h1 h2 h3
   cases h
   obtain ⟨a1,hr⟩ := Y4 hI h1 hr
   obtain ⟨a2,hr⟩ := Y4 hI (l := []) h2 (by simpa using hr)
   simp only [V4] at hr
   obtain ⟨_,a3⟩ := Q9 hI h3
   refine ⟨fun k hk p e he hp => ?_,fun k hk p e he hp => (a2 k hk p e he hp).2.1⟩
   by_cases hm : k ∈ keep
   ·exact a3 hr.1 k hm p e he
   ·exact a1 k (by simp [hk,hm]) p e he hp
  ·cases h
 | it :: r,σ,pe,pg,sl,sl0,ob,l,kp,hI,h,hr => by
  simp only [J3] at h
  split at h
  ·cases h
  ·rename_i p gs hp
   split at h
   ·rename_i k e hd he
    split at h
    ·rename_i hc
     simp only [Bool.and_eq_true,Bool.not_eq_true',List.contains_eq_mem,decide_eq_false_iff_not] at hc
     obtain ⟨⟨⟨c1,c2⟩,c3⟩,c4⟩ := hc
     have hI' := hI.fold' (e := e) c1 c2 (v := Xhk (Xq sl p) (e.val T sl0 ob)) (fun h => by rw [h]; rfl) (fun h => by rw [h]; rfl)
     obtain ⟨a,_⟩ := Xjc hI he c1 c2 c3 c4 (Xvw r hI' h hr)
     exact ⟨a.1,fun j hj => a.2 j (List.mem_append.mpr (.inr hj))⟩
    ·cases h
   ·split at h
    ·rename_i c1 c2 h1 h2
     split at h
     ·split at h
      ·split at h
       ·split at h
        ·cases h
         obtain ⟨a1,hr⟩ := Y4 hI h1 hr
         obtain ⟨a2,hr⟩ := Y4 hI h2 hr
         exact ⟨a1,fun k hk p e he hp => (a2 k (List.mem_append.mpr (.inr hk)) p e he hp).2.1⟩
        ·cases h
       ·cases h
      ·cases h
     ·cases h
    ·cases h
end
end Go.Ab
/- Statements X3f folded regions. Over any program; no condition. -/
namespace Go.Ab
open Go

theorem Xok {sl sl' : Xb} : ∀ {ks : List Nat},(∀ k ∈ ks,look sl k = look sl' k) → Xd sl ks = Xd sl' ks
 | [],_ => rfl
 | k :: r,h => by simp only [Xd]; rw [h k (by simp),Xok (fun j hj => h j (by simp [hj]))]

theorem Y0 {P : Prg} {T : Tab} (hT : TOk P T) {fs keep pk : List Nat} {K K' : Xb → Objs → Prop} {Pn Pn' : V → Xb → Objs → Prop} (hK : ∀ s o,K s o → K' s o) (hP : ∀ v s o,Pn v s o → Pn' v s o) :
  ∀ (its : List It) {σ : Sg} {pe pg : List Nat} {sl sl0 : Xb} {ob : Objs} {l : List It2} {kp : List (Nat × E)},Inv T σ sl sl0 ob → J3 fs keep pk its σ pe pg = some (l,kp) →
  V4 P T (fun sl ob => W1 T sl ob kp ∧ K (Uy T sl ob kp) ob) (fun v sl ob => Pn v (Xd sl pk) ob) l sl0 ob → rwp P (fun sl ob => K' (Xd sl keep) ob) (fun v sl ob => Pn' v (Xd sl pk) ob) its sl ob
 | [],σ,pe,pg,sl,sl0,ob,l,kp,hI,h,hr => by
  simp only [J3] at h
  split at h
  ·rename_i c1 c2 kp' h1 h2 h3
   cases h
   obtain ⟨_,hr⟩ := Y4 hI h1 hr
   obtain ⟨_,hr⟩ := Y4 hI (l := []) h2 (by simpa using hr)
   simp only [V4] at hr
   simp only [rwp]
   rw [← (Q9 hI h3).1]
   exact hK _ _ hr.2
  ·cases h
 | it :: r,σ,pe,pg,sl,sl0,ob,l,kp,hI,h,hr => by
  simp only [J3] at h
  split at h
  ·cases h
  ·rename_i p gs hp
   split at h
   ·rename_i k e hd he
    split at h
    ·rename_i hc
     simp only [Bool.and_eq_true,Bool.not_eq_true',List.contains_eq_mem,decide_eq_false_iff_not] at hc
     obtain ⟨⟨⟨c1,c2⟩,c3⟩,c4⟩ := hc
     have go : ∀ v,(Xq sl p = true → v = e.val T sl0 ob) → (Xq sl p = false → v = .undef) → rwp P (fun sl ob => K' (Xd sl keep) ob) (fun v sl ob => Pn' v (Xd sl pk) ob) r ((k,v) :: sl) ob :=
      fun v h1 h2 => Y0 hT hK hP r (hI.fold' (e := e) c1 c2 h1 h2) h hr
     have hI' := hI.fold' (e := e) c1 c2 (v := Xhk (Xq sl p) (e.val T sl0 ob)) (fun h => by rw [h]; rfl) (fun h => by rw [h]; rfl)
     obtain ⟨a,hok⟩ := Xjc hI he c1 c2 c3 c4 (Xvw r hI' h hr)
     cases it with
     | op d i =>
      simp only [It.d] at hd; subst hd
      simp only [It.path] at hp; cases hp
      simp only [rwp]
      exact I.lift_sound hT hI rfl he (hok rfl) (go _ (fun _ => rfl) (fun h => by cases h))
     | gop g b d i =>
      simp only [It.d] at hd; subst hd
      simp only [It.path] at hp
      split at hp
      ·rename_i q eg hg
       cases hp
       simp only [rwp]
       cases hq : Xq sl q with
       | false =>
        rw [(hI g q eg hg).2 hq]
        simp only [gdK]
        exact go _ (fun h => by rw [Y5,hq] at h; cases h) (fun _ => rfl)
       | true =>
        have hv := (hI g q eg hg).1 hq
        have hb := a.2 g (by simp) q eg hg hq
        have hcg : ∀ j,look ((g,look sl g) :: sl) j = look sl j := fun j => by
         simp only [look]; split
         ·rename_i e; rw [e]
         ·rfl
        have main : ∀ t,look sl g = .d (.bool t) → gdK g b sl (fun sl => I.wp P sl ob (fun v ob' => rwp P (fun sl ob => K' (Xd sl keep) ob) (fun v sl ob => Pn' v (Xd sl pk) ob) r (put sl (some k) v) ob') (fun v ob' => Pn' v (Xd sl pk) ob') i) (fun sl => rwp P (fun sl ob => K' (Xd sl keep) ob) (fun v sl ob => Pn' v (Xd sl pk) ob) r (put sl (some k) .undef) ob) (look sl g) := by
         intro t ht
         rw [ht]
         simp only [gdK]
         have hh : ∀ u,t = u → Inv T σ ((g,.d (.bool u)) :: sl) sl0 ob := fun u e => by
          subst e; rw [← ht]; exact hI.congr hcg
         have hs : ∀ u,t = u → ∀ p,Xq ((g,.d (.bool u)) :: sl) p = Xq sl p := fun u e p => by
          subst e; rw [← ht]; simp only [Xq,hcg]
         refine ⟨fun e1 => ?_,fun e1 => ?_⟩
         ·have hp1 : Xq sl (q ++ [(g,b)]) = true := by rw [Y5,hq,ht,e1]; simp [isB]
          refine I.lift_sound hT (hh _ e1) (by rw [hs _ e1]; exact hp1) he (hok hp1) ?_
          refine Y0 hT hK hP r ((hh _ e1).fold' (e := e) c1 c2 (fun _ => rfl) (fun h => ?_)) h hr
          rw [hs _ e1,hp1] at h; cases h
         ·have hp1 : Xq sl (q ++ [(g,b)]) = false := by rw [Y5,hq,ht,e1]; cases b <;> simp [isB]
          refine Y0 hT hK hP r ((hh _ e1).fold' (e := e) c1 c2 (fun h => ?_) (fun _ => rfl)) h hr
          rw [hs _ e1,hp1] at h; cases h
        rcases Xff hb with hb | hb
        ·exact main true (by rw [hv,hb])
        ·exact main false (by rw [hv,hb])
      ·cases hp
    ·cases h
   ·rename_i d x hd hx
    split at h
    ·rename_i c1 c2 h1 h2
     split at h
     ·rename_i ms σ2 hm
      split at h
      ·rename_i lp hl
       split at h
       ·rename_i hc
        simp only [Bool.and_eq_true,List.all_eq_true,Option.isNone_iff_eq_none] at hc
        obtain ⟨⟨⟨d1,d2⟩,d3⟩,d4⟩ := hc
        split at h
        ·rename_i t kp' ht
         cases h
         obtain ⟨_,hr⟩ := Y4 hI h1 hr
         obtain ⟨a2,hr⟩ := Y4 hI h2 hr
         obtain ⟨sl1,hI1,hr⟩ := Xey hI.kill hm hr
         have hlook : ∀ {s},Inv T σ2 s sl1 ob → ∀ k,Wl σ2 k = none → look s k = look sl1 k := fun hI k hk => (hI k [] (.a (.t k)) (by simp [ent,hk])).1 rfl
         have hkeep : ∀ {s},Inv T σ2 s sl1 ob → Xd s pk = Xd sl1 pk := fun {s} hI => by
          exact Xok fun k hk => hlook hI k (d4 k hk)
         have step : ∀ {s},Inv T σ2 s sl1 ob → it.i.wp P sl1 ob (fun v ob' => V4 P T (fun sl ob => W1 T sl ob kp ∧ K (Uy T sl ob kp) ob) (fun v sl ob => Pn v (Xd sl pk) ob) t (put sl1 it.d v) ob') (fun v ob' => Pn v (Xd sl1 pk) ob') →
           it.i.wp P s ob (fun v ob' => rwp P (fun sl ob => K' (Xd sl keep) ob) (fun v sl ob => Pn' v (Xd sl pk) ob) r (put s it.d v) ob') (fun v ob' => Pn' v (Xd s pk) ob') := fun {s} hI h => by
          rw [I.wp_eq (sl' := sl1) (fun k hk => hlook hI k (d1 k hk))]
          refine I.wp_mono (fun v b hv => ?_) (fun v b hv => ?_) h
          ·exact Y0 hT hK hP r (hI.eff d2 d3) ht hv
          ·rw [hkeep hI]; exact hP _ _ _ hv
         cases it with
         | op d' i =>
          simp only [It.eff,V4] at hr
          simp only [rwp]
          exact step hI1 hr
         | gop g b d' i =>
          simp only [It.eff,V4] at hr
          simp only [It.path] at hp
          split at hp
          ·rename_i q eg hg
           cases hp
           have hh := Ui hI1 _ _ _ hl rfl
           have none' : ∀ {s},Inv T σ2 s sl1 ob → Xq sl (q ++ [(g,b)]) = false → rwp P (fun sl ob => K' (Xd sl keep) ob) (fun v sl ob => Pn' v (Xd sl pk) ob) r (put s d' .undef) ob := fun {s} hI hf =>
            Y0 hT hK hP r (hI.eff d2 d3) ht (hr.2 (by rw [← hh]; exact hf))
           simp only [rwp]
           cases hq : Xq sl q with
           | false =>
            rw [(hI g q eg hg).2 hq]
            simp only [gdK]
            exact none' hI1 (by rw [Y5,hq]; rfl)
           | true =>
            have hv := (hI g q eg hg).1 hq
            have hb := (a2 g (by simp) q eg hg hq).2.1
            have hcg : ∀ j,look ((g,look sl g) :: sl) j = look sl j := fun j => by
             simp only [look]; split
             ·rename_i e; rw [e]
             ·rfl
            have main : ∀ u,look sl g = .d (.bool u) → gdK g b sl (fun sl => I.wp P sl ob (fun v ob' => rwp P (fun sl ob => K' (Xd sl keep) ob) (fun v sl ob => Pn' v (Xd sl pk) ob) r (put sl d' v) ob') (fun v ob' => Pn' v (Xd sl pk) ob') i) (fun sl => rwp P (fun sl ob => K' (Xd sl keep) ob) (fun v sl ob => Pn' v (Xd sl pk) ob) r (put sl d' .undef) ob) (look sl g) := by
             intro u hu
             rw [hu]
             simp only [gdK]
             have hh2 : ∀ w,u = w → Inv T σ2 ((g,.d (.bool w)) :: sl) sl1 ob := fun w e => by
              subst e; rw [← hu]; exact hI1.congr hcg
             refine ⟨fun e1 => ?_,fun e1 => ?_⟩
             ·exact step (hh2 _ e1) (hr.1 (by rw [← hh,Y5,hq,hu,e1]; simp [isB]))
             ·exact none' (hh2 _ e1) (by rw [Y5,hq,hu,e1]; cases b <;> simp [isB])
            rcases Xff hb with hb | hb
            ·exact main true (by rw [hv,hb])
            ·exact main false (by rw [hv,hb])
          ·cases hp
        ·cases h
       ·cases h
      ·cases h
     ·cases h
    ·cases h

theorem Xoi {P : Prg} {n n' : Xb → Objs → Prop} {Pn Pn' : V → Xb → Objs → Prop} (hn : ∀ sl ob,n sl ob → n' sl ob) (hp : ∀ v sl ob,Pn v sl ob → Pn' v sl ob) : ∀ (x : It) (sl : Xb) (ob : Objs),itK P n Pn x sl ob → itK P n' Pn' x sl ob
 | .op d i,sl,ob,h => by
  simp only [itK] at h ⊢
  exact I.wp_mono (fun _ _ h => hn _ _ h) (fun _ _ h => hp _ _ _ h) h
 | .gop s want d i,sl,ob,h => by
  simp only [itK] at h ⊢
  generalize look sl s = v at h ⊢
  unfold gdK at h; split at h
  ·exact ⟨fun e => I.wp_mono (fun _ _ h => hn _ _ h) (fun _ _ h => hp _ _ _ h) (h.1 e),fun e => hn _ _ (h.2 e)⟩
  ·exact hn _ _ h
  ·exact h.elim
mutual
theorem Xg9 {P : Prg} {K K' : Xb → Objs → Prop} {Pn Pn' : V → Xb → Objs → Prop} (hk : ∀ sl ob,K sl ob → K' sl ob) (hp : ∀ v sl ob,Pn v sl ob → Pn' v sl ob) : ∀ (t : Ot) (sl : Xb) (ob : Objs),owp P K Pn t sl ob → owp P K' Pn' t sl ob
 | .done,sl,ob,h => by simp only [owp] at h ⊢; exact hk _ _ h
 | .one _ x r,sl,ob,h => by simp only [owp] at h ⊢; exact Xoi (fun sl ob h => Xg9 hk hp r sl ob h) hp x sl ob h
 | .br l,sl,ob,h => by simp only [owp] at h ⊢; exact Xi7 hk hp l sl ob h
theorem Xi7 {P : Prg} {K K' : Xb → Objs → Prop} {Pn Pn' : V → Xb → Objs → Prop} (hk : ∀ sl ob,K sl ob → K' sl ob) (hp : ∀ v sl ob,Pn v sl ob → Pn' v sl ob) : ∀ (t : Ots) (sl : Xb) (ob : Objs),Xhr P K Pn t sl ob → Xhr P K' Pn' t sl ob
 | .nil,sl,ob,h => by simp only [Xhr]
 | .cons _ x r l,sl,ob,h => by
  simp only [Xhr] at h ⊢
  exact ⟨Xoi (fun sl ob h => Xg9 hk hp r sl ob h) hp x sl ob h.1,Xi7 hk hp l sl ob h.2⟩
end

inductive S2 where
 | rg (l : List It2) (keep : List (Nat × E)) (pk : List Nat)
 | rgT (t : Ot) (keep pk : List Nat)
 | seq (a b : S2)
 | skip
 | cond (c : A) (a b : S2)
 | block (n : Nat) (a : S2)
 | loop (keep : List Nat) (a : S2)
 | exit (n : Nat)
 | ret

def Zc (P : Prg) (T : Tab) : S2 → Vp → Xb → Objs → Prop
 | .rg l keep pk,Q,sl,ob => V4 P T (fun sl ob => W1 T sl ob keep ∧ Q .normal (Uy T sl ob keep) ob) (fun v sl ob => Q (.panic v) (Xd sl pk) ob) l sl ob
 | .rgT t keep pk,Q,sl,ob => owp P (fun sl ob => Q .normal (Xd sl keep) ob) (fun v sl ob => Q (.panic v) (Xd sl pk) ob) t sl ob
 | .seq a b,Q,sl,ob => Zc P T a (Vb (Zc P T b Q) Q) sl ob
 | .skip,Q,sl,ob => Q .normal sl ob
 | .cond c a b,Q,sl,ob => Xaq (Zc P T a Q sl ob) (Zc P T b Q sl ob) (c.ev sl)
 | .block n a,Q,sl,ob => Zc P T a (Zs n Q) sl ob
 | .loop keep a,Q,sl,ob => ALoop keep (Zc P T a) Q sl ob
 | .exit n,Q,sl,ob => Q (.exit n) sl ob
 | .ret,Q,sl,ob => Q .ret sl ob

def S.lift (fs : List Nat) : S → Option S2
 | .rg _ l keep pk => match J3 fs keep pk l [] [] [] with
  | some (l,kp) => some (.rg l kp pk)
  | none => none
 | .rgT _ t keep pk => some (.rgT t keep pk)
 | .seq a b => match a.lift fs,b.lift fs with
  | some a,some b => some (.seq a b)
  | _,_ => none
 | .skip => some .skip
 | .cond c a b => match a.lift fs,b.lift fs with
  | some a,some b => some (.cond c a b)
  | _,_ => none
 | .block n a => match a.lift fs with
  | some a => some (.block n a)
  | none => none
 | .loop keep a => match a.lift fs with
  | some a => some (.loop keep a)
  | none => none
 | .exit n => some (.exit n)
 | .ret => some .ret

theorem S.lift_sound {P : Prg} {T : Tab} (hT : TOk P T) {fs : List Nat} : ∀ (s : S) {s2 : S2} {Q Q' : Vp} {sl : Xb} {ob : Objs},s.lift fs = some s2 → (∀ e sl ob,Q e sl ob → Q' e sl ob) → Zc P T s2 Q sl ob → cwp P s Q' sl ob
 | .rg o l keep pk,s2,Q,Q',sl,ob,h,hQ,hc => by
  simp only [S.lift] at h
  split at h
  ·rename_i l' kp hl
   cases h
   simp only [Zc] at hc
   simp only [cwp]
   exact Y0 hT (K := fun sl ob => Q .normal sl ob) (Pn := fun v sl ob => Q (.panic v) sl ob) (fun _ _ h => hQ _ _ _ h) (fun _ _ _ h => hQ _ _ _ h) l
    (fun k p e h => by simp [ent,Wl] at h; obtain ⟨rfl,rfl⟩ := h; exact ⟨fun _ => rfl,fun h => by cases h⟩) hl hc
  ·cases h
 | .rgT n t keep pk,s2,Q,Q',sl,ob,h,hQ,hc => by
  simp only [S.lift] at h
  cases h
  simp only [Zc] at hc
  simp only [cwp]
  exact Xg9 (fun _ _ h => hQ _ _ _ h) (fun _ _ _ h => hQ _ _ _ h) t sl ob hc
 | .seq a b,s2,Q,Q',sl,ob,h,hQ,hc => by
  simp only [S.lift] at h
  split at h
  ·rename_i a' b' ha hb
   cases h
   simp only [Zc] at hc
   simp only [cwp]
   refine S.lift_sound hT a ha (fun e sl ob h => ?_) hc
   cases e with
   | normal => exact S.lift_sound hT b hb hQ h
   | _ => exact hQ _ _ _ h
  ·cases h
 | .skip,s2,Q,Q',sl,ob,h,hQ,hc => by simp only [S.lift] at h; cases h; exact hQ _ _ _ hc
 | .cond c a b,s2,Q,Q',sl,ob,h,hQ,hc => by
  simp only [S.lift] at h
  split at h
  ·rename_i a' b' ha hb
   cases h
   simp only [Zc] at hc
   simp only [cwp]
   generalize c.ev sl = v at hc ⊢
   unfold Xaq at hc; split at hc
   ·exact ⟨fun e => S.lift_sound hT a ha hQ (hc.1 e),fun e => S.lift_sound hT b hb hQ (hc.2 e)⟩
   ·exact hc.elim
  ·cases h
 | .block n a,s2,Q,Q',sl,ob,h,hQ,hc => by
  simp only [S.lift] at h
  split at h
  ·rename_i a' ha
   cases h
   simp only [Zc] at hc
   simp only [cwp]
   refine S.lift_sound hT a ha (fun e sl ob h => ?_) hc
   cases e with
   | exit m =>
    simp only [Zs] at h ⊢
    split
    ·rename_i e; rw [if_pos e] at h; exact hQ _ _ _ h
    ·rename_i e; rw [if_neg e] at h; exact hQ _ _ _ h
   | _ => exact hQ _ _ _ h
  ·cases h
 | .loop keep a,s2,Q,Q',sl,ob,h,hQ,hc => by
  simp only [S.lift] at h
  split at h
  ·rename_i a' ha
   cases h
   simp only [Zc] at hc
   simp only [cwp]
   obtain ⟨ι,S,O,I,μ,i0,h1,h2,h3,h4⟩ := hc.run
   refine ⟨⟨ι,S,O,I,μ,i0,h1,h2,h3,fun i hi => S.lift_sound hT a ha (fun e sl ob h => ?_) (h4 i hi)⟩⟩
   cases e with
   | normal => exact h
   | _ => exact hQ _ _ _ h
  ·cases h
 | .exit n,s2,Q,Q',sl,ob,h,hQ,hc => by simp only [S.lift] at h; cases h; exact hQ _ _ _ hc
 | .ret,s2,Q,Q',sl,ob,h,hQ,hc => by simp only [S.lift] at h; cases h; exact hQ _ _ _ hc
end Go.Ab
/- The equations by which folded statements are walked. Over any program; no condition. -/
namespace Go.Ab
open Go

theorem pcall_lift {P : Prg} {p : Program} (hP : P.p = p) (hm : p.follows .mixedOrders = true) {f : Nat} {s : S} {rs : List RV} {ds : List D} {ob0 : Objs} {K : V → Prop} {fs : List Nat} {s2 : S2} {T : Tab} (hc : Yh p f ds.length s rs = true) (hl : s.lift fs = some s2) (hT : TOk P T)
  (h : Zc P T s2 (Xa4 rs K) (Jg 0 (ds.map .d)) []) : PCall P f (ds.map .d) ob0 K :=
 X0q hP hm hc (S.lift_sound hT s hl (fun _ _ _ h => h) h)

theorem acall_lift {P : Prg} {p : Program} (hP : P.p = p) (hm : p.follows .mixedOrders = true) {f : Nat} {s : S} {rs : List RV} {vs : List V} {ob : Objs} {K : Out → Objs → Prop} {fs : List Nat} {s2 : S2} {T : Tab} (hc : Yh p f vs.length s rs = true) (hl : s.lift fs = some s2) (hT : TOk P T)
  (h : (∀ kp,V.mens (young (fresh ob) kp) vs = false) → (∀ kp,noMenO (young (fresh ob) kp) ob = true) → Zc P T s2 (V6 (fresh ob) rs K) (Jg 0 vs) ob) : ACall P f vs ob K :=
 ACall.of_wf fun h1 h2 => by subst hP; exact Xed hm hc (S.lift_sound hT s hl (fun _ _ _ h => h) (h h1 h2))

def PFn (P : Prg) (f : Nat) (F : Fn) : Prop := ∀ vs,F.pre vs → ∀ (ob : Objs) (K : V → Prop),K (F.val vs) → PCall P f vs ob K
theorem TOk.nil {P : Prg} : TOk P [] := fun f F h => by simp [J4] at h
theorem TOk.cons {P : Prg} {T : Tab} {f : Nat} {F : Fn} (h : PFn P f F) (hT : TOk P T) : TOk P ((f,F) :: T) := fun g G hg => by
 simp only [J4] at hg
 split at hg
 ·rename_i e; subst e; cases hg; exact h
 ·exact hT g G hg

def Yd2 (v : V) : Prop := Xvo (fun w => w = X7l v) v
def Xxe (o : BinOp) (u v : V) : Prop := Xn8 o (fun w => w = X5a o u v) u v
def Xer (e : Bool) (v : V) : Prop := Vx e (fun w => w = J1 e v) v
def Xp5 (e : Bool) (v : V) : Prop := Xav e (fun w => w = Xfr e v) v
def X8q (ob : Objs) (v : V) : Prop := Xq3 ob (fun w => w = X74 v) v
def Ydv (k : IntKind) (v : V) : Prop := Xsu k (fun w => w = X5v k v) v
def idxS (u v : V) : Prop := Xxi (fun w => w = X9x u v) u v
def Xil (ob : Objs) (z : Nat) (u v : V) : Prop := Q8 ob z (fun w => w = Xim z u v) u v
def Xkw (ob : Objs) (n z : Nat) (u v : V) : Prop := Xbt ob n z (fun w => w = Xfv u v) u v
def U9 (ob : Objs) (f fo : Nat) (v : V) : Prop := Ux ob f fo (fun w => w = Ym f fo v) v
def Ydy (f fo n : Nat) (ag : Bool) (v : Option (List V)) : Prop := Xxg f fo n ag (fun w => w = X8e f v) v
def ldS (ob : Objs) (n : Nat) (ag : Bool) (v : V) : Prop := ldK ob n ag (fun w => w = ldV ob v) v
def Jc (v : V) : Prop := U0 (fun w => w = v) v
def X0c (v : V) : Prop := Xc3 (fun w => w = Xkz v) v
def Xfy (ob : Objs) (v : V) : Prop := J2 ob (fun w => w = Xd2 v) v
def Xbx (l h : Option V) (v : V) : Prop := Xea l h (fun w => w = Xaf l h v) v
def Xjs (z : Nat) (l h : Option V) (v : V) : Prop := Xd8 z l h (fun w => w = Xd9 l h v) v
def Ydx (i : Nat) (v : V) : Prop := Xhq i (fun w => w = X8d i v) v
def Yd5 (t : Nat) (z : D) (v : V) : Prop := X04 t z (fun w => w = X3n t z v) v

section
variable (P : Prg) (T : Tab) (sl : Xb) (ob : Objs) (x y z : E) (a : A) (u v w : V) (k j n m : Nat) (b c : Bool) (kd kd' : IntKind) (i i' : Int) (s s' : List UInt8) (xs : List D) (vs : List V) (d : D) (o : BinOp) (p : List Nat)
-- what expressions yield
@[simp] theorem v_a : E.val T sl ob (.a a) = a.ev sl := by simp only [E.val]
@[simp] theorem v_ite : E.val T sl ob (.ite x y z) = Xdc (x.val T sl ob) (y.val T sl ob) (z.val T sl ob) := by simp only [E.val]
@[simp] theorem v_call : E.val T sl ob (.call k x) = Xyo (J4 T k) (x.val T sl ob) := by simp only [E.val]
@[simp] theorem v_nil : E.val T sl ob .nil = .tup [] := by simp only [E.val]
@[simp] theorem v_cons : E.val T sl ob (.cons x y) = Xsr (x.val T sl ob) (y.val T sl ob) := by simp only [E.val]
@[simp] theorem v_not : E.val T sl ob (.u (.not (.t 0)) x) = X7l (x.val T sl ob) := by simp [E.val,C.val]
@[simp] theorem v_bin : E.val T sl ob (.b (.bin o (.t 0) (.t 1)) x y) = X5a o (x.val T sl ob) (y.val T sl ob) := by simp [E.val,C.val]
@[simp] theorem v_isnil : E.val T sl ob (.u (.isnil b (.t 0)) x) = J1 b (x.val T sl ob) := by simp [E.val,C.val]
@[simp] theorem v_fnil : E.val T sl ob (.u (.fnil b (.t 0)) x) = Xfr b (x.val T sl ob) := by simp [E.val,C.val]
@[simp] theorem v_usd : E.val T sl ob (.u (.usd (.t 0)) x) = X74 (x.val T sl ob) := by simp [E.val,C.val]
@[simp] theorem v_cvi : E.val T sl ob (.u (.cvi kd (.t 0)) x) = X5v kd (x.val T sl ob) := by simp [E.val,C.val]
@[simp] theorem v_idx : E.val T sl ob (.b (.idx (.t 0) (.t 1)) x y) = X9x (x.val T sl ob) (y.val T sl ob) := by simp [E.val,C.val]
@[simp] theorem v_idxA : E.val T sl ob (.b (.idxA n (.t 0) (.t 1)) x y) = Xim n (x.val T sl ob) (y.val T sl ob) := by simp [E.val,C.val]
@[simp] theorem v_idxP : E.val T sl ob (.b (.idxP k n (.t 0) (.t 1)) x y) = Xfv (x.val T sl ob) (y.val T sl ob) := by simp [E.val,C.val]
@[simp] theorem v_fldA : E.val T sl ob (.u (.fldA k n (.t 0)) x) = Ym k n (x.val T sl ob) := by simp [E.val,C.val]
@[simp] theorem v_fld : E.val T sl ob (.u (.fld k n m b (.t 0)) x) = X8e k (x.val T sl ob).kids := by simp [E.val,C.val]
@[simp] theorem v_ld : E.val T sl ob (.u (.ld n b (.t 0)) x) = ldV ob (x.val T sl ob) := by simp [E.val,C.val]
@[simp] theorem v_nilc : E.val T sl ob (.u (.nilc (.t 0)) x) = x.val T sl ob := by simp [E.val,C.val]
@[simp] theorem v_lenS : E.val T sl ob (.u (.lenS (.t 0)) x) = Xkz (x.val T sl ob) := by simp [E.val,C.val]
@[simp] theorem v_lenL : E.val T sl ob (.u (.lenL (.t 0)) x) = Xd2 (x.val T sl ob) := by simp [E.val,C.val]
@[simp] theorem v_slcS1 : E.val T sl ob (.b (.slcS (.t 0) (some (.t 1)) none) x y) = Xaf (some (y.val T sl ob)) none (x.val T sl ob) := by simp [E.val,C.val]
@[simp] theorem v_slcS2 : E.val T sl ob (.b (.slcS (.t 0) none (some (.t 1))) x y) = Xaf none (some (y.val T sl ob)) (x.val T sl ob) := by simp [E.val,C.val]
@[simp] theorem v_slcS3 : E.val T sl ob (.t (.slcS (.t 0) (some (.t 1)) (some (.t 2))) x y z) = Xaf (some (y.val T sl ob)) (some (z.val T sl ob)) (x.val T sl ob) := by simp [E.val,C.val]
@[simp] theorem v_slcL1 : E.val T sl ob (.b (.slcL n (.t 0) (some (.t 1)) none) x y) = Xd9 (some (y.val T sl ob)) none (x.val T sl ob) := by simp [E.val,C.val]
@[simp] theorem v_slcL2 : E.val T sl ob (.b (.slcL n (.t 0) none (some (.t 1))) x y) = Xd9 none (some (y.val T sl ob)) (x.val T sl ob) := by simp [E.val,C.val]
@[simp] theorem v_ext : E.val T sl ob (.u (.ext (.t 0) n) x) = X8d n (x.val T sl ob) := by simp [E.val,C.val]
@[simp] theorem v_mki : E.val T sl ob (.u (.mki n (.t 0)) x) = X0l n (x.val T sl ob) := by simp [E.val,C.val]
@[simp] theorem v_tas : E.val T sl ob (.u (.tas n d (.t 0)) x) = X3n n d (x.val T sl ob) := by simp [E.val,C.val]
-- when expressions are safe
@[simp] theorem o_a : E.ok T sl ob (.a a) = True := by simp only [E.ok]
@[simp] theorem o_ite : E.ok T sl ob (.ite x y z) = (x.ok T sl ob ∧ Xcp (x.val T sl ob) ∧ (isB true (x.val T sl ob) = true → y.ok T sl ob) ∧ (isB false (x.val T sl ob) = true → z.ok T sl ob)) := by simp only [E.ok]
@[simp] theorem o_call : E.ok T sl ob (.call k x) = (x.ok T sl ob ∧ Xyn (J4 T k) (x.val T sl ob)) := by simp only [E.ok]
@[simp] theorem o_nil : E.ok T sl ob .nil = True := by simp only [E.ok]
@[simp] theorem o_cons : E.ok T sl ob (.cons x y) = (x.ok T sl ob ∧ y.ok T sl ob) := by simp only [E.ok]
@[simp] theorem o_not : E.ok T sl ob (.u (.not (.t 0)) x) = (x.ok T sl ob ∧ Yd2 (x.val T sl ob)) := by simp [E.ok,C.ok,C.val,Yd2]
@[simp] theorem o_bin : E.ok T sl ob (.b (.bin o (.t 0) (.t 1)) x y) = (x.ok T sl ob ∧ y.ok T sl ob ∧ Xxe o (x.val T sl ob) (y.val T sl ob)) := by simp [E.ok,C.ok,C.val,Xxe]
@[simp] theorem o_usd : E.ok T sl ob (.u (.usd (.t 0)) x) = (x.ok T sl ob ∧ X8q ob (x.val T sl ob)) := by simp [E.ok,C.ok,C.val,X8q]
@[simp] theorem o_isnil : E.ok T sl ob (.u (.isnil b (.t 0)) x) = (x.ok T sl ob ∧ Xer b (x.val T sl ob)) := by simp [E.ok,C.ok,C.val,Xer]
@[simp] theorem o_fnil : E.ok T sl ob (.u (.fnil b (.t 0)) x) = (x.ok T sl ob ∧ Xp5 b (x.val T sl ob)) := by simp [E.ok,C.ok,C.val,Xp5]
@[simp] theorem o_cvi : E.ok T sl ob (.u (.cvi kd (.t 0)) x) = (x.ok T sl ob ∧ Ydv kd (x.val T sl ob)) := by simp [E.ok,C.ok,C.val,Ydv]
@[simp] theorem o_idx : E.ok T sl ob (.b (.idx (.t 0) (.t 1)) x y) = (x.ok T sl ob ∧ y.ok T sl ob ∧ idxS (x.val T sl ob) (y.val T sl ob)) := by simp [E.ok,C.ok,C.val,idxS]
@[simp] theorem o_idxA : E.ok T sl ob (.b (.idxA n (.t 0) (.t 1)) x y) = (x.ok T sl ob ∧ y.ok T sl ob ∧ Xil ob n (x.val T sl ob) (y.val T sl ob)) := by simp [E.ok,C.ok,C.val,Xil]
@[simp] theorem o_idxP : E.ok T sl ob (.b (.idxP k n (.t 0) (.t 1)) x y) = (x.ok T sl ob ∧ y.ok T sl ob ∧ Xkw ob k n (x.val T sl ob) (y.val T sl ob)) := by simp [E.ok,C.ok,C.val,Xkw]
@[simp] theorem o_fldA : E.ok T sl ob (.u (.fldA k n (.t 0)) x) = (x.ok T sl ob ∧ U9 ob k n (x.val T sl ob)) := by simp [E.ok,C.ok,C.val,U9]
@[simp] theorem o_fld : E.ok T sl ob (.u (.fld k n m b (.t 0)) x) = (x.ok T sl ob ∧ Ydy k n m b (x.val T sl ob).kids) := by simp [E.ok,C.ok,C.val,Ydy]
@[simp] theorem o_ld : E.ok T sl ob (.u (.ld n b (.t 0)) x) = (x.ok T sl ob ∧ ldS ob n b (x.val T sl ob)) := by simp [E.ok,C.ok,C.val,ldS]
@[simp] theorem o_nilc : E.ok T sl ob (.u (.nilc (.t 0)) x) = (x.ok T sl ob ∧ Jc (x.val T sl ob)) := by simp [E.ok,C.ok,C.val,Jc]
@[simp] theorem o_lenS : E.ok T sl ob (.u (.lenS (.t 0)) x) = (x.ok T sl ob ∧ X0c (x.val T sl ob)) := by simp [E.ok,C.ok,C.val,X0c]
@[simp] theorem o_lenL : E.ok T sl ob (.u (.lenL (.t 0)) x) = (x.ok T sl ob ∧ Xfy ob (x.val T sl ob)) := by simp [E.ok,C.ok,C.val,Xfy]
@[simp] theorem o_slcS1 : E.ok T sl ob (.b (.slcS (.t 0) (some (.t 1)) none) x y) = (x.ok T sl ob ∧ y.ok T sl ob ∧ Xbx (some (y.val T sl ob)) none (x.val T sl ob)) := by simp [E.ok,C.ok,C.val,Xbx]
@[simp] theorem o_slcS2 : E.ok T sl ob (.b (.slcS (.t 0) none (some (.t 1))) x y) = (x.ok T sl ob ∧ y.ok T sl ob ∧ Xbx none (some (y.val T sl ob)) (x.val T sl ob)) := by simp [E.ok,C.ok,C.val,Xbx]
@[simp] theorem o_slcS3 : E.ok T sl ob (.t (.slcS (.t 0) (some (.t 1)) (some (.t 2))) x y z) = (x.ok T sl ob ∧ y.ok T sl ob ∧ z.ok T sl ob ∧ Xbx (some (y.val T sl ob)) (some (z.val T sl ob)) (x.val T sl ob)) := by simp [E.ok,C.ok,C.val,Xbx]
@[simp] theorem o_slcL1 : E.ok T sl ob (.b (.slcL n (.t 0) (some (.t 1)) none) x y) = (x.ok T sl ob ∧ y.ok T sl ob ∧ Xjs n (some (y.val T sl ob)) none (x.val T sl ob)) := by simp [E.ok,C.ok,C.val,Xjs]
@[simp] theorem o_slcL2 : E.ok T sl ob (.b (.slcL n (.t 0) none (some (.t 1))) x y) = (x.ok T sl ob ∧ y.ok T sl ob ∧ Xjs n none (some (y.val T sl ob)) (x.val T sl ob)) := by simp [E.ok,C.ok,C.val,Xjs]
@[simp] theorem o_ext : E.ok T sl ob (.u (.ext (.t 0) n) x) = (x.ok T sl ob ∧ Ydx n (x.val T sl ob)) := by simp [E.ok,C.ok,C.val,Ydx]
@[simp] theorem o_mki : E.ok T sl ob (.u (.mki n (.t 0)) x) = x.ok T sl ob := by simp [E.ok,C.ok,C.val]
@[simp] theorem o_tas : E.ok T sl ob (.u (.tas n d (.t 0)) x) = (x.ok T sl ob ∧ Yd5 n d (x.val T sl ob)) := by simp [E.ok,C.ok,C.val,Yd5]
-- values
@[simp] theorem pickV_b (b1 b2 : Bool) : Xdc (.d (.bool b)) (.d (.bool b1)) (.d (.bool b2)) = .d (.bool (if b then b1 else b2)) := by simp only [Xdc]
attribute [simp] Xvz Xvx
@[simp] theorem notV_b : X7l (.d (.bool b)) = .d (.bool (!b)) := by simp only [X7l]
@[simp] theorem notS_b : Yd2 (.d (.bool b)) = True := by simp [Yd2]
@[simp] theorem binV_i : X5a o (.d (.int kd i)) (.d (.int kd' i')) = Xbf o kd i i' := by simp only [X5a]
@[simp] theorem binV_s : X5a o (.d (.str s)) (.d (.str s')) = Xxp o s s' := by simp only [X5a]
@[simp] theorem intV_add : Xbf .add kd i i' = .d (.int kd (kd.wrap (i + i'))) := by simp only [Xbf]
@[simp] theorem intV_sub : Xbf .sub kd i i' = .d (.int kd (kd.wrap (i - i'))) := by simp only [Xbf]
@[simp] theorem intV_mul : Xbf .mul kd i i' = .d (.int kd (kd.wrap (i * i'))) := by simp only [Xbf]
@[simp] theorem intV_eql : Xbf .eql kd i i' = .d (.bool (i == i')) := by simp only [Xbf]
@[simp] theorem intV_neq : Xbf .neq kd i i' = .d (.bool (i != i')) := by simp only [Xbf]
@[simp] theorem intV_lss : Xbf .lss kd i i' = .d (.bool (decide (i < i'))) := by simp only [Xbf]
@[simp] theorem intV_leq : Xbf .leq kd i i' = .d (.bool (decide (i ≤ i'))) := by simp only [Xbf]
@[simp] theorem intV_gtr : Xbf .gtr kd i i' = .d (.bool (decide (i' < i))) := by simp only [Xbf]
@[simp] theorem intV_geq : Xbf .geq kd i i' = .d (.bool (decide (i' ≤ i))) := by simp only [Xbf]
@[simp] theorem strV_add : Xxp .add s s' = .d (.str (s ++ s')) := by simp only [Xxp]
@[simp] theorem strV_eql : Xxp .eql s s' = .d (.bool (s == s')) := by simp only [Xxp]
@[simp] theorem strV_neq : Xxp .neq s s' = .d (.bool (s != s')) := by simp only [Xxp]
def Yfb (o : BinOp) (i : Int) : Prop := match o with
 | .quo | .rem => i ≠ 0
 | .shl | .shr => 0 ≤ i
 | _ => True
@[simp] theorem binS_i : Xxe o (.d (.int kd i)) (.d (.int kd i')) = Yfb o i' := by cases o <;> simp [Xxe,Yfb,Xxj,Xbf]
attribute [simp] Yfb
@[simp] theorem binS_add : Xxe .add (.d (.str s)) (.d (.str s')) = (s.length + s'.length ≤ 9223372036854775807) := by simp [Xxe]
@[simp] theorem binS_eql : Xxe .eql (.d (.str s)) (.d (.str s')) = True := by simp [Xxe]
@[simp] theorem binS_neq : Xxe .neq (.d (.str s)) (.d (.str s')) = True := by simp [Xxe]
@[simp] theorem isnilV_n : J1 b (.d .nili) = .d (.bool b) := by simp only [J1]
@[simp] theorem isnilS_n : Xer b (.d .nili) = True := by simp [Xer]
@[simp] theorem isnilV_di : J1 b (.d (.iface k d)) = .d (.bool (!b)) := by simp only [J1]
@[simp] theorem isnilS_di : Xer b (.d (.iface k d)) = True := by simp [Xer]
@[simp] theorem fnilV_n : Xfr b (.d .nilf) = .d (.bool b) := by simp only [Xfr]
@[simp] theorem fnilV_f (l l' : List V) : Xfr b (.fn k l l') = .d (.bool (!b)) := by simp only [Xfr]
@[simp] theorem fnilS_n : Xp5 b (.d .nilf) = True := by simp [Xp5]
@[simp] theorem fnilS_f (l l' : List V) : Xp5 b (.fn k l l') = True := by simp [Xp5]
@[simp] theorem usdV_s : X74 (.sl k n) = .sd k n := by simp only [X74]
@[simp] theorem usdV_n : X74 (.d .nils) = .d .nilp := by simp only [X74]
@[simp] theorem usdS_s : X8q ob (.sl k n) = ∃ E sz xs,lookO ob k = some (.arr E sz xs) ∧ sz ≠ 0 ∧ n = xs.length ∧ xs ≠ [] := by simp [X8q]
@[simp] theorem usdS_n : X8q ob (.d .nils) = True := by simp [X8q]
@[simp] theorem cviV_i : X5v kd (.d (.int kd' i)) = .d (.int kd (kd.wrap i)) := by simp only [X5v]
@[simp] theorem cviS_i : Ydv kd (.d (.int kd' i)) = True := by simp [Ydv]
@[simp] theorem idxV_s : X9x (.d (.str s)) (.d (.int kd i)) = .d (.int .u8 (s.getD i.toNat 0).toNat) := by simp only [X9x]
@[simp] theorem idxS_s : idxS (.d (.str s)) (.d (.int kd i)) = (0 ≤ i ∧ i < s.length) := by simp [idxS]
@[simp] theorem idxAV_l : Xim m (.d (.list n xs)) (.d (.int kd i)) = .d (.ref (xs.getD i.toNat default)) := by simp only [Xim]
@[simp] theorem idxAS_l : Xil ob n (.d (.list n xs)) (.d (.int kd i)) = (0 ≤ i ∧ i < xs.length) := by simp [Xil]
@[simp] theorem idxPV_p : Xfv (.ptr j p) (.d (.int kd i)) = .ptr j (p ++ [i.toNat]) := by simp only [Xfv]
@[simp] theorem idxPV_c : Xfv (.d (.ref (.agg xs))) (.d (.int kd i)) = .d (.ref (xs.getD i.toNat default)) := by simp only [Xfv]
@[simp] theorem idxPS_p : Xkw ob k n (.ptr j p) (.d (.int kd i)) = ((0 ≤ i ∧ i < k) ∧ ∃ ks,Zg (atO ob j p) = some ks ∧ ks.length = k ∧ ∀ k ∈ ks,k.size = n) := by simp [Xkw]
@[simp] theorem X6d : Xkw ob k n (.d (.ref (.agg xs))) (.d (.int kd i)) = ((0 ≤ i ∧ i < k) ∧ xs.length = k ∧ ∀ x ∈ xs,x.sz = n) := by simp [Xkw]
@[simp] theorem fldAV_p : Ym k n (.ptr j p) = .ptr j (p ++ [k]) := by simp only [Ym]
@[simp] theorem fldAV_c : Ym k n (.d (.ref (.agg xs))) = .d (.ref (xs.getD k default)) := by simp only [Ym]
def Xog (f fo : Nat) : Option (List V) → Prop
 | some ks => f < ks.length ∧ Sh.sizes ((ks.take f).map V.shape) = fo
 | none => False
@[simp] theorem fldASo_s : Xog k n (some vs) = (k < vs.length ∧ Sh.sizes ((vs.take k).map V.shape) = n) := by simp only [Xog]
@[simp] theorem fldAS_p : U9 ob k n (.ptr j p) = Xog k n (Zg (atO ob j p)) := by
 simp only [U9,Ux,Xog]; cases Zg (atO ob j p) <;> simp [U8]
@[simp] theorem fldAS_c : U9 ob k n (.d (.ref (.agg xs))) = (k < xs.length ∧ D.szs (xs.take k) = n) := by simp [U9]
@[simp] theorem fldV_s : X8e k (some vs) = vs.getD k .any := by simp only [X8e]
@[simp] theorem fldS_s : Ydy k j n b (some vs) = (k < vs.length ∧ Sh.sizes ((vs.take k).map V.shape) = j ∧ (vs.getD k .any).size = n ∧ (vs.getD k .any).isAgg = b) := by simp only [Ydy,Xxg,X8e,and_true]
@[simp] theorem ldVo_s : X1t (some v) = v := by simp only [X1t]
@[simp] theorem ldV_p : ldV ob (.ptr j p) = X1t (atO ob j p) := by simp only [ldV]
@[simp] theorem ldV_c : ldV ob (.d (.ref d)) = .d d := by simp only [ldV]
def X8j (n : Nat) (b : Bool) : Option V → Prop
 | some v => v.size = n ∧ v.isAgg = b
 | none => False
@[simp] theorem ldSo_s : X8j n b (some v) = (v.size = n ∧ v.isAgg = b) := by simp only [X8j]
@[simp] theorem ldS_p : ldS ob n b (.ptr j p) = X8j n b (atO ob j p) := by
 simp only [ldS,ldK,ldV]; cases atO ob j p <;> simp [Xfx,X8j,X1t]
@[simp] theorem ldS_c : ldS ob n b (.d (.ref d)) = (d.sz = n ∧ (V.d d).isAgg = b) := by simp [ldS]
@[simp] theorem nilcS_p : Jc (.ptr j p) = True := by simp [Jc]
@[simp] theorem nilcS_c : Jc (.d (.ref d)) = True := by simp [Jc]
@[simp] theorem lenSV_s : Xkz (.d (.str s)) = .d (.int .i64 s.length) := by simp only [Xkz]
@[simp] theorem lenSS_s : X0c (.d (.str s)) = True := by simp [X0c]
@[simp] theorem lenLV_l : Xd2 (.d (.list n xs)) = .d (.int .i64 xs.length) := by simp only [Xd2]
@[simp] theorem lenLV_n : Xd2 (.d .nils) = .d (.int .i64 0) := by simp only [Xd2]
@[simp] theorem lenLV_o : Xd2 (.sl j n) = .d (.int .i64 n) := by simp only [Xd2]
@[simp] theorem lenLS_l : Xfy ob (.d (.list n xs)) = True := by simp [Xfy]
@[simp] theorem lenLS_n : Xfy ob (.d .nils) = True := by simp [Xfy]
@[simp] theorem lenLS_o : Xfy ob (.sl j n) = ((∃ E z xs,lookO ob j = some (.arr E z xs) ∧ n = xs.length) ∨ ∃ E z xs,lookO ob j = some (.vec E z xs) ∧ n = xs.length) := by simp [Xfy]
@[simp] theorem slcSV_sn : Xaf (some (.d (.int kd i))) none (.d (.str s)) = .d (.str (s.drop i.toNat)) := by simp [Xaf,Xq9]
@[simp] theorem slcSV_ns : Xaf none (some (.d (.int kd i))) (.d (.str s)) = .d (.str (s.take i.toNat)) := by simp [Xaf,Xq9]
@[simp] theorem slcSV_ss : Xaf (some (.d (.int kd i))) (some (.d (.int kd' i'))) (.d (.str s)) = .d (.str ((s.take i'.toNat).drop i.toNat)) := by simp only [Xaf,Xq9]
@[simp] theorem slcSS_sn : Xbx (some (.d (.int kd i))) none (.d (.str s)) = (0 ≤ i ∧ i ≤ s.length) := by simp [Xbx,Xaf,Xq9]
@[simp] theorem slcSS_ns : Xbx none (some (.d (.int kd i))) (.d (.str s)) = (0 ≤ i ∧ i ≤ s.length) := by simp [Xbx,Xaf,Xq9]
@[simp] theorem slcSS_ss : Xbx (some (.d (.int kd i))) (some (.d (.int kd' i'))) (.d (.str s)) = ((0 ≤ i' ∧ i' ≤ s.length) ∧ 0 ≤ i ∧ i ≤ i') := by simp [Xbx,Xaf,Xq9]
@[simp] theorem slcLV_sn : Xd9 (some (.d (.int kd i))) none (.d (.list n xs)) = .d (.list n (xs.drop i.toNat)) := by simp [Xd9,Xq9]
@[simp] theorem slcLV_ns : Xd9 none (some (.d (.int kd i))) (.d (.list n xs)) = .d (.list n (xs.take i.toNat)) := by simp [Xd9,Xq9]
@[simp] theorem slcLS_sn : Xjs n (some (.d (.int kd i))) none (.d (.list n xs)) = (0 ≤ i ∧ i ≤ xs.length) := by simp [Xjs,Xd9,Xq9]
@[simp] theorem slcLS_ns : Xjs n none (some (.d (.int kd i))) (.d (.list n xs)) = (0 ≤ i ∧ i ≤ xs.length) := by simp [Xjs,Xd9,Xq9]
@[simp] theorem extV_t : X8d n (.tup vs) = vs.getD n .any := by simp only [X8d]
@[simp] theorem extS_t : Ydx n (.tup vs) = (n < vs.length) := by simp [Ydx,X8d]
@[simp] theorem tasV_dy (d' : D) : X3n k d (.d (.iface k d')) = .tup [.d d',.d (.bool true)] := by simp [X3n]
@[simp] theorem tasV_dn (d' : D) (h : (j == k) = false) : X3n k d (.d (.iface j d')) = .tup [.d d,.d (.bool false)] := by simp at h; simp [X3n,h]
@[simp] theorem tasS_d (d' : D) : Yd5 k d (.d (.iface j d')) = True := by by_cases h : j = k <;> simp [Yd5,X04,X3n,h]
@[simp] theorem consV_t : Xsr v (.tup vs) = .tup (v :: vs) := by simp only [Xsr]
@[simp] theorem callV_s (F : Fn) : Xyo (some F) (.tup vs) = F.val vs := by simp only [Xyo]
@[simp] theorem callP_s (F : Fn) : Xyn (some F) (.tup vs) = F.pre vs := by simp only [Xyn]
@[simp] theorem lookT_eq (F : Fn) : J4 ((k,F) :: T) k = some F := by simp [J4]
@[simp] theorem lookT_ne (F : Fn) (h : (j == k) = false) : J4 ((j,F) :: T) k = J4 T k := by simp at h; simp [J4,h]
@[simp] theorem isB_b : isB c (.d (.bool b)) = (b == c) := by simp only [isB]
@[simp] theorem boolV_b : Xcp (.d (.bool b)) = True := by simp only [Xcp]
@[simp] theorem whenV_t : Xhk true v = v := by simp [Xhk]
@[simp] theorem whenV_f : Xhk false v = .undef := by simp [Xhk]
@[simp] theorem holdsB_nil : Zt T sl ob [] = true := by simp [Zt]
@[simp] theorem holdsB_cons (l : List (E × Bool)) : Zt T sl ob ((x,b) :: l) = (isB b (x.val T sl ob) && Zt T sl ob l) := by simp [Zt]
-- folded statements
@[simp] theorem zu (KS : Xb → Objs → Prop) (PS : V → Xb → Objs → Prop) : V4 P T KS PS [] sl ob = KS sl ob := by simp only [V4]
@[simp] theorem zq (KS : Xb → Objs → Prop) (PS : V → Xb → Objs → Prop) (q : List (E × Bool)) (l : List It2) : V4 P T KS PS (.chk q x :: l) sl ob = ((Zt T sl ob q = true → x.ok T sl ob) ∧ V4 P T KS PS l sl ob) := by simp only [V4]
@[simp] theorem zt (KS : Xb → Objs → Prop) (PS : V → Xb → Objs → Prop) (q : List (E × Bool)) (l : List It2) : V4 P T KS PS (.lt k q x :: l) sl ob = ((Zt T sl ob q = true → x.ok T sl ob) ∧ V4 P T KS PS l ((k,Xhk (Zt T sl ob q) (x.val T sl ob)) :: sl) ob) := by simp only [V4]
@[simp] theorem zw (KS : Xb → Objs → Prop) (PS : V → Xb → Objs → Prop) (dd : Option Nat) (e : I) (l : List It2) : V4 P T KS PS (.op dd e :: l) sl ob = e.wp P sl ob (fun v ob' => V4 P T KS PS l (put sl dd v) ob') (fun v ob' => PS v sl ob') := by simp only [V4]
@[simp] theorem zr (KS : Xb → Objs → Prop) (PS : V → Xb → Objs → Prop) (q : List (E × Bool)) (dd : Option Nat) (e : I) (l : List It2) : V4 P T KS PS (.gop q dd e :: l) sl ob = ((Zt T sl ob q = true → e.wp P sl ob (fun v ob' => V4 P T KS PS l (put sl dd v) ob') (fun v ob' => PS v sl ob')) ∧ (Zt T sl ob q = false → V4 P T KS PS l (put sl dd .undef) ob)) := by simp only [V4]
@[simp] theorem keepE_nil : Uy T sl ob [] = [] := by simp only [Uy]
@[simp] theorem keepE_cons (l : List (Nat × E)) : Uy T sl ob ((k,x) :: l) = (k,x.val T sl ob) :: Uy T sl ob l := by simp only [Uy]
@[simp] theorem keepOk_nil : W1 T sl ob [] = True := by simp only [W1]
@[simp] theorem keepOk_cons (l : List (Nat × E)) : W1 T sl ob ((k,x) :: l) = (x.ok T sl ob ∧ W1 T sl ob l) := by simp only [W1]
variable (Q : Vp) (s1 s2 : S2)
@[simp] theorem ql (l : List It2) (kp : List (Nat × E)) (pk : List Nat) : Zc P T (.rg l kp pk) Q sl ob = V4 P T (fun sl ob => W1 T sl ob kp ∧ Q .normal (Uy T sl ob kp) ob) (fun v sl ob => Q (.panic v) (Xd sl pk) ob) l sl ob := by simp only [Zc]
@[simp] theorem qn : Zc P T (.seq s1 s2) Q sl ob = Zc P T s1 (Vb (Zc P T s2 Q) Q) sl ob := by simp only [Zc]
@[simp] theorem qo : Zc P T .skip Q sl ob = Q .normal sl ob := by simp only [Zc]
@[simp] theorem qi : Zc P T (.cond a s1 s2) Q sl ob = Xaq (Zc P T s1 Q sl ob) (Zc P T s2 Q sl ob) (a.ev sl) := by simp only [Zc]
@[simp] theorem qh : Zc P T (.block n s1) Q sl ob = Zc P T s1 (Zs n Q) sl ob := by simp only [Zc]
@[simp] theorem cwp2_loop (kp : List Nat) : Zc P T (.loop kp s1) Q sl ob = ALoop kp (Zc P T s1) Q sl ob := by simp only [Zc]
@[simp] theorem qj : Zc P T (.exit n) Q sl ob = Q (.exit n) sl ob := by simp only [Zc]
@[simp] theorem qk : Zc P T .ret Q sl ob = Q .ret sl ob := by simp only [Zc]
end
@[congr] theorem rwp2_congr {P : Prg} {T : Tab} {KS : Xb → Objs → Prop} {PS : V → Xb → Objs → Prop} {l : List It2} {sl sl' : Xb} {ob ob' : Objs} (h : sl = sl') (h' : ob = ob') : V4 P T KS PS l sl ob = V4 P T KS PS l sl' ob' := by rw [h,h']
@[congr] theorem cwp2_congr {P : Prg} {T : Tab} {s : S2} {Q : Vp} {sl sl' : Xb} {ob ob' : Objs} (h : sl = sl') (h' : ob = ob') : Zc P T s Q sl ob = Zc P T s Q sl' ob' := by rw [h,h']
@[congr] theorem E_val_congr {T : Tab} {sl : Xb} {ob : Objs} {e : E} : E.val T sl ob e = E.val T sl ob e := rfl
@[congr] theorem E_ok_congr {T : Tab} {sl : Xb} {ob : Objs} {e : E} : E.ok T sl ob e = E.ok T sl ob e := rfl
end Go.Ab
