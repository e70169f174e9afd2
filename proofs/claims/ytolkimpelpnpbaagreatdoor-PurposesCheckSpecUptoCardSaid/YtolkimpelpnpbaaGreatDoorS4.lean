/- Texts of this claim joined by a program, part 4 of 20; the last is: Objects lent to a call that only reads: it sees them as data. Over any program; no condition. -/
import Derived.Test.YtolkimpelpnpbaaGreatDoorS3
import Derived.IntWalk
set_option linter.unusedSimpArgs false
set_option linter.unusedVariables false
set_option linter.unusedSectionVars false
set_option linter.defProp false
namespace Go.Ab
open Go

inductive RV where
 | t (k:Nat)
 | c (k n:Nat) (ag:Bool)

def RV.chk (P:Program):ResultVar->RV->Bool
 | .tmp j,.t k=>j==k
 | .cell a ty,.c k n ag=>a==k&&X7 P ty==some n&&(P.underlying ty).isSome&&agT P ty==ag
 | _,_=>false
def U3 (P:Program):List ResultVar->List RV->Bool
 | [],[]=>true
 | x::r,y::s=>y.chk P x&&U3 P r s
 | _,_=>false

def RV.wp (sl:Xf)(ob:Xa)(K:V->Prop):RV->Prop
 | .t k=>K (look sl k)
 | .c k n ag=>ldK ob n ag K (look sl k)
def Wu (sl:Xf)(ob:Xa):List RV->(List V->Prop)->Prop
 | [],K=>K []
 | x::r,K=>x.wp sl ob fun v=>Wu sl ob r fun vs=>K (v::vs)

def Wv:List V->V
 | [v]=>v
 | vs=>.tup vs

def Wy (K:List D->Xa->Prop):Option (List D×Xa)->Prop
 | some (l,ob)=>K l ob
 | none=>False

def U0 (rs:List RV)(K:V->Prop):Yx
 | .normal,sl,ob=>Wu sl ob rs fun vs=>Wy (fun l _=>K (Wv (l.map .d))) (V.givs ob vs)
 | .ret,sl,ob=>Wu sl ob rs fun vs=>Wy (fun l _=>K (Wv (l.map .d))) (V.givs ob vs)
 | .exit _,_,_=>False
 | .panic _,_,_=>False

def gvO (v:V)(ob:Xa)(K:V->Xa->Prop):Option (D×Xa)->Prop
 | some (d,ob')=>K (.d d) ob'
 | none=>K v ob
def Xdf:List V->Xa->(List V->Xa->Prop)->Prop
 | [],ob,K=>K [] ob
 | v::r,ob,K=>gvO v ob (fun v' ob'=>Xdf r ob' fun vs ob''=>K (v'::vs) ob'') (V.giv ob v)
def X4 (n:Nat)(K:Xa->Prop)(vs:List V)(ob:Xa):Prop:=
 ∃kp:List Nat,V.mens (Xd n kp) vs=false/\Xh (Xd n kp) (Y4 (Xd n kp) ob)=true/\K (Y4 (Xd n kp) ob)
def Vq (n:Nat)(rs:List RV)(K:Out->Xa->Prop):Yx
 | .normal,sl,ob=>Wu sl ob rs fun vs=>Xdf vs ob fun vs ob=>X4 n (K (.ret (Wv vs))) vs ob
 | .ret,sl,ob=>Wu sl ob rs fun vs=>Xdf vs ob fun vs ob=>X4 n (K (.ret (Wv vs))) vs ob
 | .panic v,_,ob=>X4 n (K (.panic v)) [v] ob
 | .exit _,_,_=>False

def Vo (k:Nat):List V->Xf
 | []=>[]
 | v::r=>(k,v)::Vo (k+1) r

def Uy (P:Program)(f n:Nat)(s:S)(rs:List RV):Bool:=match P.funcs[f]? with
 | some fn=>match fn.body with
  | some code=>decide (n<=fn.ntmps)&&S.chk P fn.ntmps code s&&U3 P fn.results.toList rs
  | none=>false
 | none=>false
def Xi (P:Program)(f n:Nat)(s:S)(rs:List RV):Bool:=Uy P f n s rs&&s.noR

section
variable {P:Program} {w:World} {ρ:Env}

def Xej (a:Act)(r:ResultVar):Sem Value:=match r with
 | .tmp t=>pure (a.tmps.getD t undef)
 | .cell x t=>do loadVar t (<-asAddr (a.tmps.getD x undef))

theorem Xjy {a:Act}{sl:Xf}{ob:Xa}(hs:SM w ρ sl a)(hO:OM w ρ ob):∀(xs:List ResultVar) (rs:List RV) (K:List V->Prop),U3 P xs rs=true->Wu sl ob rs K->
  ∃vs us,K vs/\V.reps w ρ vs us/\(xs.mapM (Xej a)).run P w=.ok us w
 | [],[],K,_,h=>⟨[],[],h,by simp[V.reps],by simp⟩
 | x::r,y::s,K,hc,h=>by
  simp only[U3,Bool.and_eq_true]at hc
  simp only[Wu]at h
  have one:∃v u,Wu sl ob s (fun vs=>K (v::vs))/\v.rep w ρ u/\(Xej a x).run P w=.ok u w:=by
   cases x with
   | tmp t=>
    cases y with
    | t k=>simp[RV.chk]at hc; obtain⟨rfl,_⟩:=hc; exact⟨_,_,h,hs t,by simp[Xej]⟩
    | c k n ag=>simp[RV.chk]at hc
   | cell z t=>
    cases y with
    | t k=>simp[RV.chk]at hc
    | c k n ag=>
     simp only[RV.chk,Bool.and_eq_true,beq_iff_eq]at hc
     obtain⟨⟨⟨⟨rfl,h1⟩,h2⟩,h3⟩,_⟩:=hc
     simp only[RV.wp]at h
     obtain⟨v,y,hK,hr,hrun⟩:=Uu (P:=P) (a:=a) (n:=n) (ag:=ag) (x:=.t z) (op:=.load t (.tmp z)) hs hO (by simp[C.chk,h1,h2,h3,A.chk]) (by simpa[A.ev]using h)
     refine⟨y,v,hK,hr,?_⟩
     have:=hrun ⟨none,.load t (.tmp z),0, "", #[],none⟩ rfl w (fun _=>Ext.refl w)
     simp only[execOp,Act.eval,Sem.run_bind,Instr.loadAt]at this
     simp only[Xej,Sem.run_bind]
     generalize hv:a.tmps.getD z undef=pv at *
     cases pv with
     | pointer ad=>
      cases ad with
      | none=>simp[Instr.sureAddr]at this
      | some ad=>
       simp only[Instr.sureAddr,Sem.run_pure,Result.andThen_ok]at this
       simp only[asAddr,Sem.run_pure,Result.andThen_ok]
       revert this
       generalize (loadVar t ad).run P w=res
       intro this
       cases res with
       | ok x w'=>simp at this; obtain⟨rfl,rfl⟩:=this; rfl
       | halt x w'=>simp at this
     | _=>simp[Instr.sureAddr]at this
  obtain⟨v,u,h1,h2,h3⟩:=one
  obtain⟨vs,us,k,h4,h5⟩:=Xjy hs hO r s _ hc.2 h1
  refine⟨v::vs,u::us,k,?_,?_⟩
  ·simp only[V.reps]; exact⟨u,us,rfl,h2,h4⟩
  ·simp only[List.mapM_cons,Sem.run_bind,h3,Result.andThen_ok,h5,Sem.run_pure]
 | [],_::_,_,hc,_=>by simp[U3]at hc
 | _::_,[],_,hc,_=>by simp[U3]at hc

def Xrl:List Value->Value
 | [u]=>u
 | us=>.tuple us.toArray

theorem Zx {fn:Func}{a:Act}{sl:Xf}{ob:Xa}{rs:List RV}{K:List V->Prop}(hs:SM w ρ sl a)(hO:OM w ρ ob)(hc:U3 P fn.results.toList rs=true)(h:Wu sl ob rs K) :
  ∃vs us,K vs/\V.reps w ρ vs us/\(results fn a.tmps).run P w=.ok (Xrl us) w:=by
 obtain⟨vs,us,k,h1,h2⟩:=Xjy (P:=P) hs hO _ _ _ hc h
 refine⟨vs,us,k,h1,?_⟩
 have h3:(fn.results.mapM (Xej a)).run P w=.ok us.toArray w:=by
  rw[Array.mapM_eq_mapM_toList]
  simp only[Sem.run_map,h2,Result.andThen_ok]
 have h4:results fn a.tmps=(fn.results.mapM (Xej a) >>= fun vs=>pure (if h:vs.size=1 then vs[0] else .tuple vs)):=rfl
 rw[h4,Sem.run_bind]
 simp only[h3,Result.andThen_ok,Sem.run_pure]
 congr 1
 cases us with
 | nil=>simp[Xrl]
 | cons u r=>
  cases r with
  | nil=>simp[Xrl]
  | cons u' r'=>simp[Xrl]

theorem Vl {vs:List V}{us:List Value}(h:V.reps w ρ vs us):(Wv vs).rep w ρ (Xrl us):=by
 cases vs with
 | nil=>
  simp only[V.reps]at h; subst h
  rw[show Wv []=.tup [] from rfl,Zw]; exact⟨[],rfl,by simp[V.reps]⟩
 | cons v r=>
  simp only[V.reps]at h
  obtain⟨u,us',rfl,h1,h2⟩:=h
  cases r with
  | nil=>simp only[V.reps]at h2; subst h2; exact h1
  | cons v' r'=>
   have h2':=h2
   simp only[V.reps]at h2
   obtain⟨u',us'',rfl,h3,h4⟩:=h2
   show (V.tup _).rep w ρ _
   rw[Zw]
   refine⟨_,rfl,?_⟩
   simp only[V.reps]
   exact⟨u,_,rfl,h1,u',us'',rfl,h3,h4⟩

theorem Uo:∀(vs:List V) (us:List Value) {ρ:Env} {ob ob':Xa} {l:List D},OM w ρ ob->V.reps w ρ vs us->V.givs ob vs=some (l,ob')->∃ρ',Tr w ρ w ρ'/\OM w ρ' ob'/\V.reps w ρ' (l.map .d) us
 | [],us,ρ,ob,ob',l,hO,h,e=>by
  simp only[V.givs,Option.some.injEq,Prod.mk.injEq]at e
  obtain⟨rfl,rfl⟩:=e
  exact⟨ρ,Tr.refl _ _,hO,by simpa only[List.map_nil,V.reps]using h⟩
 | x::r,us,ρ,ob,ob',l,hO,h,e=>by
  simp only[V.givs]at e
  simp only[V.reps]at h
  obtain⟨u,us',rfl,h1,h2⟩:=h
  split at e
  ·rename_i dd ob1 hg
   obtain⟨ρ1,t1,o1,hr⟩:=Xbl hO (u:=u) h1 hg
   cases hg2:V.givs ob1 r with
   | none=>simp[hg2,Xa8]at e
   | some q=>
    obtain⟨l2,ob2⟩:=q
    simp only[hg2,Xa8,Option.some.injEq,Prod.mk.injEq]at e
    obtain⟨rfl,rfl⟩:=e
    obtain⟨ρ2,t2,o2,hr2⟩:=Uo r us' o1 (V.reps_tr t1 _ _ h2) hg2
    exact⟨ρ2,t1.trans t2,o2,by simp only[List.map_cons,V.reps]; exact⟨u,us',rfl,V.rep_tr t2 hr,hr2⟩⟩
  ·cases e
theorem Q8:∀(vs:List V) (us:List Value) {ρ:Env} {ob:Xa} {K:List V->Xa->Prop},OM w ρ ob->V.reps w ρ vs us->Xdf vs ob K->∃vs' ob' ρ',K vs' ob'/\Tr w ρ w ρ'/\OM w ρ' ob'/\V.reps w ρ' vs' us
 | [],us,ρ,ob,K,hO,h,e=>by
  simp only[Xdf]at e
  exact⟨[],ob,ρ,e,Tr.refl _ _,hO,h⟩
 | x::r,us,ρ,ob,K,hO,h,e=>by
  simp only[Xdf]at e
  simp only[V.reps]at h
  obtain⟨u,us',rfl,h1,h2⟩:=h
  cases hg:V.giv ob x with
  | none=>
   simp only[hg,gvO]at e
   obtain⟨vs',ob',ρ',k,t,o,hr⟩:=Q8 r us' hO h2 e
   exact⟨_,ob',ρ',k,t,o,by simp only[V.reps]; exact⟨u,us',rfl,V.rep_tr (u:=u) t h1,hr⟩⟩
  | some q=>
   obtain⟨dd,ob1⟩:=q
   simp only[hg,gvO]at e
   obtain⟨ρ1,t1,o1,hr⟩:=Xbl hO (u:=u) h1 hg
   obtain⟨vs',ob',ρ',k,t,o,hr2⟩:=Q8 r us' o1 (V.reps_tr t1 _ _ h2) e
   exact⟨_,ob',ρ',k,t1.trans t,o,by simp only[V.reps]; exact⟨u,us',rfl,V.rep_tr t hr,hr2⟩⟩

theorem Vp {vs:List V}{us:List Value}(h:V.reps w ρ vs us):∀(k:Nat) (t:Array Value),(∀i (hi:i<us.length),t.getD (k+i) undef=us[i])->∀j,(look (Vo k vs) j).rep w ρ (t.getD j undef):=by
 induction vs generalizing us with
 | nil=>intro k t _ j; exact Qp
 | cons v r ih=>
  simp only[V.reps]at h
  obtain⟨u,us',rfl,h1,h2⟩:=h
  intro k t ht j
  simp only[Vo,look]
  split
  ·rename_i e; subst e
   have:=ht 0 (by simp)
   simp only[Nat.add_zero,List.getElem_cons_zero]at this
   rw[this]; exact h1
  ·refine ih h2 (k+1) t (fun i hi=>?_) j
   have:=ht (i+1) (by simpa using hi)
   simp only[List.getElem_cons_succ]at this
   rw[<-this]; congr 1; omega

theorem V8 {ρ1:Env}(mo:Xha w (own ρ) w (own ρ1)):∀(vs:List V) (us:List Value) (ds:List D),vs=ds.map .d->V.reps w ρ vs us->V.reps w ρ1 vs us
 | [],us,ds,_,h=>by simpa[V.reps]using h
 | v::r,us,[],e,h=>by simp at e
 | v::r,us,d::ds,e,h=>by
  simp only[List.map_cons,List.cons.injEq]at e
  obtain⟨rfl,e⟩:=e
  simp only[V.reps]at h⊢
  obtain⟨u,us',rfl,h1,h2⟩:=h
  refine⟨u,us',rfl,?_,V8 mo r us' ds e h2⟩
  rcases h1 with h1 | ⟨p,x,q,r⟩ | ⟨p,r⟩
  ·cases h1
  ·exact .inr (.inl ⟨p,x,q,by simp only[V.repC]at r⊢; exact D.rep_mono mo d x r⟩)
  ·exact .inr (.inr ⟨p,by simp only[V.repC]at r⊢; exact D.rep_mono mo d _ r⟩)

theorem Yk:∀{vs:List V} {us:List Value},V.reps w ρ vs us->us.length=vs.length
 | [],us,h=>by simp[V.reps]at h; simp[h]
 | v::r,us,h=>by
  simp only[V.reps]at h
  obtain⟨u,us',rfl,_,h2⟩:=h
  simp[Yk h2]

theorem Qm {P:Prg}(hm:P.p.follows .mixedOrders=true){f:Nat}{s:S}{rs:List RV}{ds:List D}{ob0:Xa}{K:V->Prop}(hc:Uy P.p f ds.length s rs=true)
  (h:cwp P s (U0 rs K) (Vo 0 (ds.map .d)) []):PCall P f (ds.map .d) ob0 K:=by
 unfold Uy at hc
 split at hc
 ·rename_i fn hf
  split at hc
  ·rename_i code hb
   simp only[Bool.and_eq_true,decide_eq_true_eq]at hc
   obtain⟨⟨hn,h1⟩,h2⟩:=hc
   refine⟨fun w ρ args hO hg hr=>callsIn_wide.1 (callsIn_of_wp_marks (n:=0) hf hb trivial ?_)⟩
   let ρ0:Env:=⟨fun _=>none,own ρ,ρ.gl⟩
   let c:Ctx:=⟨w,fun _=>False,fn.ntmps,[],P.g,fun _=>none,[],true⟩
   have hnone:∀b,¬Xbn ρ0 b:=fun b ⟨_,_,h,_⟩=>by cases h
   have hlt:∀b,own ρ b->b<w.heap.size:=fun b h=>h.elim (fun ⟨_,_,h1,h2⟩=>Ws hO h1 h2) (hO.xlt b)
   have mo:Xha w (own ρ) w (own ρ0):=fun b h1 _=>⟨rfl,fun h2=>h2.elim (hnone b) h1⟩
   have hr0:=V8 mo _ _ ds rfl hr
   have hlen:args.length=ds.length:=by simpa using Yk hr
   have m:Mod c (own ρ) ρ0 (Vo 0 (ds.map .d)) [] { tmps:=args.toArray++Array.replicate (fn.ntmps-args.toArray.size) undef,defers:=[] } w:=by
    refine⟨⟨Nat.le_refl _,fun _ _ _=>rfl,fun b h=>absurd h (hnone b),rfl,rfl,rfl,(fun id o h=>by cases h),(fun p hp=>by cases hp),Nat.le_refl _⟩,⟨fun j x hx=>(by simp[Xe]at hx),fun j o hj=>(by cases hj),fun i j o p b hi=>(by cases hi),fun b hb=>hlt b hb,fun b o hb=>⟨(hO.glb b o hb).1,fun h=>h.elim (hnone b) (hO.glb b o hb).2⟩,fun b hb=>absurd hb (hnone b),trivial⟩,?_,?_,Dfr.nil,rfl,hg⟩
    ·refine Vp hr0 0 _ (fun i hi=>?_)
     simp[Array.getElem?_append,hi]
    ·simp[c]; omega
   refine wpIn_mono (X8 (rd:=none) hm rfl code s _ _ _ ρ0 _ w h1 (.inr ⟨rfl,rfl⟩) h m) ?_
   rintro e a' w' ⟨ae,sl',ob',ρ',hq,he,m'⟩
   have hfin:Wu sl' ob' rs (fun vs=>Wy (fun l _=>K (Wv (l.map .d))) (V.givs ob' vs))->LeavesInM Fence.wide 0 P.p fn a'.tmps (fun e w'=>∃v u,K v/\e=.returned u/\v.rep w' ρ u/\Ext w w') a'.defers .returning w':=by
    intro hq
    obtain⟨ms,q1,_,q3,q4⟩:=m'.df
    have q1:a'.defers=ms.map mkD:=by rw[q1]; simp[c]
    rw[q1]
    refine W3 ms w' q3 (fun r hr=>(q4 r hr).2.1) (fun w2 sm hs=>?_)
    have hgl:∀b o,ρ'.gl b=some o->w2.heap[b]? = w'.heap[b]?:=fun b o hb=>hs b (fun hm=>by
     have h3:=(hO.glb b o (by rw[hg,<-show ρ'.gl=P.g from m'.gl]; exact hb)).1
     have:=(q4 b hm).1
     have:=Xj h3
     show False
     simp only[c]at *
     omega)
    have om2:=OM.same sm m'.om hgl
    obtain⟨vs,us,hk,hrep,hrun⟩:=Zx (P:=P.p) (fn:=fn) (SM.same sm m'.sm) om2 h2 hq
    cases hgv:V.givs ob' vs with
    | none=>simp[hgv,Wy]at hk
    | some q=>
     obtain⟨l,ob2⟩:=q
     simp only[hgv,Wy]at hk
     obtain⟨ρ2,t2,o2,hr2⟩:=Uo vs us om2 hrep hgv
     have mo2:Xha w2 (own ρ2) w2 (own ρ):=fun b h1 _=>⟨rfl,fun h2=>h1 (.inr (by rw[t2.xo,m'.xo]; exact h2))⟩
     have hrep':=V8 mo2 _ _ l rfl hr2
     have hext:Ext w w2:=⟨by rw[sm.size]; exact m'.base.size,fun b hb=>(hs b (fun hm=>by have:=(q4 b hm).1; simp only[c]at this; omega)).trans (m'.base.keep b hb (fun h=>h)),sm.tape.trans m'.base.tape,sm.os.trans m'.base.os,sm.out.trans m'.base.out,by rw[sm.drawn]; exact m'.base.drawn⟩
     exact⟨Xrl us,hrun,Wv (l.map .d),Xrl us,hk,rfl,Vl hrep',hext⟩
   cases ae with
   | normal=>
    cases e<;>simp only[exM]at he
    exact hfin hq
   | ret=>
    cases e<;>simp only[exM]at he
    exact hfin hq
   | exit n=>exact hq.elim
   | panic v=>exact hq.elim
  ·simp at hc
 ·simp at hc

theorem Xeg {P:Prg}(hm:P.p.follows .mixedOrders=true){f:Nat}{s:S}{rs:List RV}{ds:List D}{ob0:Xa}{K:V->Prop}(hc:Xi P.p f ds.length s rs=true)
  (h:cwp P s (U0 rs K) (Vo 0 (ds.map .d)) []):PCall P f (ds.map .d) ob0 K:=by
 simp only[Xi,Bool.and_eq_true]at hc
 exact Qm hm hc.1 h

theorem Js {ids:Nat->Bool}{vs:List V}{us:List Value}(hm:V.mens ids vs=false)(h:V.reps w ρ vs us):V.reps w (ρ.del ids) vs us:=V.reps_del vs us hm h

def Ob.noMen (ids:Nat->Bool):Ob->Prop
 | .box _ t=>V.men ids t=false
 | .vec _ _ xs=>V.mens ids xs=false
 | .map es=>Qj ids es=false
 | .lp _ _ sl=>Wg ids sl=true
 | .it m _ _=>Jj ids m=false
 | _=>True
theorem Zi {ids:Nat->Bool}:∀(ob:Xa),(∀e∈ob,e.2.noMen ids)->Xh ids ob=true
 | [],_=>rfl
 | (j,.box E t)::r,h=>by
  simp only[Xh,Bool.and_eq_true,Bool.not_eq_true']
  exact⟨h (j,.box E t) (by simp),Zi r fun e he=>h e (by simp[he])⟩
 | (j,.vec E z t)::r,h=>by
  simp only[Xh,Bool.and_eq_true,Bool.not_eq_true']
  exact⟨h (j,.vec E z t) (by simp),Zi r fun e he=>h e (by simp[he])⟩
 | (j,.map t)::r,h=>by
  simp only[Xh,Bool.and_eq_true,Bool.not_eq_true']
  exact⟨h (j,.map t) (by simp),Zi r fun e he=>h e (by simp[he])⟩
 | (j,.arr _ _ _)::r,h=>by simp only[Xh]; exact Zi r fun e he=>h e (by simp[he])
 | (j,.gone)::r,h=>by simp only[Xh]; exact Zi r fun e he=>h e (by simp[he])
 | (j,.lp tg st t)::r,h=>by
  simp only[Xh,Bool.and_eq_true]
  exact⟨h (j,.lp tg st t) (by simp),Zi r fun e he=>h e (by simp[he])⟩
 | (j,.it m n t)::r,h=>by
  simp only[Xh,Bool.and_eq_true,Bool.not_eq_true']
  exact⟨h (j,.it m n t) (by simp),Zi r fun e he=>h e (by simp[he])⟩
theorem Xi8 {ids:Nat->Bool}(hd:∀id o,ρ.m id=some o->ids id=false):∀(l:List (D×V)) (es:List MapEntry),X3 w ρ l es->Qj ids l=false
 | [],_,_=>rfl
 | (k,v)::r,es,h=>by
  obtain⟨e,es',_,_,h3,h4⟩:=h
  simp only[Qj,V.men_temp hd h3,Xi8 hd r es' h4,Bool.or_self]
theorem Xcr {ids:Nat->Bool}:∀(sl:Xf),(∀p∈sl,V.men ids p.2=false)->Wg ids sl=true
 | [],_=>rfl
 | (j,v)::r,h=>by
  simp only[Wg,Bool.and_eq_true,Bool.not_eq_true']
  exact⟨h (j,v) (by simp),Xcr r fun p hp=>h p (by simp[hp])⟩
theorem V0.noMen {ids:Nat->Bool}(hd:∀id o,ρ.m id=some o->ids id=false){j:Nat}{x:Ob}(h:V0 w ρ j x):x.noMen ids:=by
 cases x with
 | box E t=>obtain⟨b,cs,_,_,h3⟩:=h; exact V.men_dom hd _ _ h3
 | vec E sz xs=>
  rcases h with⟨_,rfl⟩ | ⟨b,cap,cs,sp,_,_,h3,_⟩
  ·rfl
  ·exact V.menCs_dom hd _ _ h3
 | map es=>obtain⟨b,l,clk,_,_,h3,_⟩:=h; exact Xi8 hd _ _ h3
 | arr E sz xs=>trivial
 | gone=>trivial
 | lp tag st sl=>
  obtain⟨b,fn,tm,dd,ps,ca,cb,_,_,_,h3⟩:=h
  exact Xcr sl fun p hp=>V.men_temp hd (h3 p hp)
 | it m n seen=>
  cases m with
  | none=>rfl
  | some i=>
   obtain⟨b,mb,_,h3,_⟩:=h
   rcases h3 with h3 | h3<;>exact hd _ _ h3
theorem Xdn {P:Prg}(hm:P.p.follows .mixedOrders=true){f:Nat}{s:S}{rs:List RV}{vs:List V}{ob:Xa}{K:Out->Xa->Prop}(hc:Xi P.p f vs.length s rs=true)
  (h:cwp P s (Vq (Xb ob) rs K) (Vo 0 vs) ob):ACall P f vs ob K:=by
 simp only[Xi,Bool.and_eq_true]at hc
 obtain⟨hc,hnr⟩:=hc
 unfold Uy at hc
 split at hc
 ·rename_i fn hf
  split at hc
  ·rename_i code hb
   simp only[Bool.and_eq_true,decide_eq_true_eq]at hc
   obtain⟨⟨hn,h1⟩,h2⟩:=hc
   refine⟨fun w ρ args hO hg hr=>calls_of_wp hf hb ?_⟩
   let c:Ctx:=⟨w,Xbn ρ,fn.ntmps,[],P.g,ρ.m,[],false⟩
   have hlen:args.length=vs.length:=by simpa using Yk hr
   have m:Mod c ρ.xo ρ (Vo 0 vs) ob { tmps:=args.toArray++Array.replicate (fn.ntmps-args.toArray.size) undef,defers:=[] } w:=by
    refine⟨⟨Nat.le_refl _,fun _ _ _=>rfl,fun b h=>.inr h,rfl,rfl,rfl,fun id o h=>⟨o,h,.refl o⟩,(fun p hp=>by cases hp),Nat.le_refl _⟩,hO,?_,?_,Dfr.nil,rfl,hg⟩
    ·refine Vp hr 0 _ (fun i hi=>?_)
     simp[Array.getElem?_append,hi]
    ·simp[c]; omega
   refine wp_mono (wpIn_wide.1 (X8 (rd:=none) hm rfl code s _ _ _ ρ _ w h1 (.inl hnr) h m)) ?_
   rintro e a' w' ⟨ae,sl',ob',ρ',hq,he,m'⟩
   have old:∀kp id o,ρ.m id=some o->Xd (Xb ob) kp id=false:=fun kp id o h0=>by
    obtain⟨x,hx⟩:=hO.dom id o h0
    have hlt:¬Xb ob<=id:=fun hle=>by rw[Xy _ _ hle]at hx; cases hx
    simp[Xd,hlt]
   have tr:∀{ρ2:Env},Tr w' ρ' w' ρ2->∀kp,Tr w ρ w' (ρ2.del (Xd (Xb ob) kp)):=fun {ρ2} t kp=>by
    have b2:=m'.base.tr t
    refine⟨b2.size,fun b h1 h2=>b2.keep b h2 h1,fun b h1=>(b2.owns b (Z1 h1)).symm,?_,?_,fun id o h1=>?_,b2.tape,b2.os,b2.out,b2.drawn⟩
    ·show ρ2.xo=ρ.xo; rw[t.xo,m'.xo]
    ·show ρ2.gl=ρ.gl; rw[t.gl,m'.gl,hg]
    ·obtain⟨o',h3,h4⟩:=b2.same id o h1
     exact⟨o',by simp only[Env.del,old kp id o h1]; exact h3,h4⟩
   have hfin:Wu sl' ob' rs (fun vs=>Xdf vs ob' fun vs ob'=>X4 (Xb ob) (K (.ret (Wv vs))) vs ob')->a'.defers=[]/\∃v,(results fn a'.tmps).run P.p w'=.ok v w'/\∃out ob2 ρ2,K out ob2/\Xap w' ρ2 (.returned v) out/\OM w' ρ2 ob2/\Tr w ρ w' ρ2:=by
    intro hq
    obtain⟨vs,us,hk,hrep,hrun⟩:=Zx (P:=P.p) (fn:=fn) m'.sm m'.om h2 hq
    obtain⟨vs',ob2,ρ2,⟨kp,k1,k2,k3⟩,t2,o2,hr2⟩:=Q8 vs us m'.om hrep hk
    exact⟨m'.df.eq rfl,Xrl us,hrun,.ret (Wv vs'),_,_,k3,Vl (Js k1 hr2),o2.del k2,tr t2 kp⟩
   cases ae with
   | normal=>
    cases e<;>simp only[exM]at he
    exact hfin hq
   | ret=>
    cases e<;>simp only[exM]at he
    exact hfin hq
   | exit n=>exact hq.elim
   | panic v=>
    cases e<;>simp only[exM]at he
    obtain⟨u,rfl,hu⟩:=he
    obtain⟨kp,k1,k2,k3⟩:=hq
    simp only[V.mens,Bool.or_false]at k1
    exact⟨m'.df.eq rfl,.panic v,_,_,k3,⟨u,rfl,V.rep_del k1 hu⟩,m'.om.del k2,tr (Tr.refl _ _) kp⟩
  ·simp at hc
 ·simp at hc

def Xt0 (n:Nat)(rs:List RV)(K:Out->Xa->Prop):Yx
 | .panic _,_,_=>False
 | e,sl,ob=>Vq n rs K e sl ob
theorem Xbx {P:Prg}(hm:P.p.follows .mixedOrders=true){f:Nat}{s:S}{rs:List RV}{vs:List V}{ob:Xa}{K:Out->Xa->Prop}(hc:Uy P.p f vs.length s rs=true)
  (h:cwp P s (Xt0 (Xb ob) rs K) (Vo 0 vs) ob):ACall P f vs ob K:=by
 unfold Uy at hc
 split at hc
 ·rename_i fn hf
  split at hc
  ·rename_i code hb
   simp only[Bool.and_eq_true,decide_eq_true_eq]at hc
   obtain⟨⟨hn,h1⟩,h2⟩:=hc
   refine⟨fun w ρ args hO hg hr=>callsIn_wide.1 (callsIn_of_wp_marks (n:=0) hf hb trivial ?_)⟩
   let c:Ctx:=⟨w,Xbn ρ,fn.ntmps,[],P.g,ρ.m,[],true⟩
   have hlen:args.length=vs.length:=by simpa using Yk hr
   have m:Mod c ρ.xo ρ (Vo 0 vs) ob { tmps:=args.toArray++Array.replicate (fn.ntmps-args.toArray.size) undef,defers:=[] } w:=by
    refine⟨⟨Nat.le_refl _,fun _ _ _=>rfl,fun b h=>.inr h,rfl,rfl,rfl,fun id o h=>⟨o,h,.refl o⟩,(fun p hp=>by cases hp),Nat.le_refl _⟩,hO,?_,?_,Dfr.nil,rfl,hg⟩
    ·refine Vp hr 0 _ (fun i hi=>?_)
     simp[Array.getElem?_append,hi]
    ·simp[c]; omega
   refine wpIn_mono (X8 (rd:=none) hm rfl code s _ _ _ ρ _ w h1 (.inr ⟨rfl,rfl⟩) h m) ?_
   rintro e a' w' ⟨ae,sl',ob',ρ',hq,he,m'⟩
   have old:∀kp id o,ρ.m id=some o->Xd (Xb ob) kp id=false:=fun kp id o h0=>by
    obtain⟨x,hx⟩:=hO.dom id o h0
    have hlt:¬Xb ob<=id:=fun hle=>by rw[Xy _ _ hle]at hx; cases hx
    simp[Xd,hlt]
   have hfin:Wu sl' ob' rs (fun vs=>Xdf vs ob' fun vs ob'=>X4 (Xb ob) (K (.ret (Wv vs))) vs ob')->LeavesInM Fence.wide 0 P.p fn a'.tmps (fun e w'=>∃out ob' ρ',K out ob'/\Xap w' ρ' e out/\OM w' ρ' ob'/\Tr w ρ w' ρ') a'.defers .returning w':=by
    intro hq
    obtain⟨ms,q1,_,q3,q4⟩:=m'.df
    have q1:a'.defers=ms.map mkD:=by rw[q1]; simp[c]
    rw[q1]
    refine W3 ms w' q3 (fun r hr=>(q4 r hr).2.1) (fun w2 sm hs=>?_)
    have hgl:∀b o,ρ'.gl b=some o->w2.heap[b]? = w'.heap[b]?:=fun b o hb=>hs b (fun hm=>by
     have h3:=(hO.glb b o (by rw[hg,<-show ρ'.gl=P.g from m'.gl]; exact hb)).1
     have:=(q4 b hm).1
     have:=Xj h3
     show False
     simp only[c]at *
     omega)
    have om2:=OM.same sm m'.om hgl
    have tr:∀{ρ2:Env},Tr w2 ρ' w2 ρ2->∀kp,Tr w ρ w2 (ρ2.del (Xd (Xb ob) kp)):=fun {ρ2} t kp=>by
     refine⟨by rw[sm.size]; exact m'.base.size,fun b h1 h2=>(hs b (fun hm=>by have:=(q4 b hm).1; simp only[c]at this; omega)).trans (m'.base.keep b h2 h1),fun b h1=>?_,?_,?_,fun id o h1=>?_,sm.tape.trans m'.base.tape,sm.os.trans m'.base.os,sm.out.trans m'.base.out,by rw[sm.drawn]; exact m'.base.drawn⟩
     ·rcases t.owns b (Z1 h1) with h3 | h3
      ·exact (m'.base.owns b h3).symm
      ·exact .inr (Nat.le_trans (by rw[sm.size]; exact m'.base.size) h3)
     ·show ρ2.xo=ρ.xo; rw[t.xo,m'.xo]
     ·show ρ2.gl=ρ.gl; rw[t.gl,m'.gl,hg]
     ·obtain⟨o1,h3,h4⟩:=m'.base.same id o h1
      obtain⟨o2,h5,h6⟩:=t.same id o1 h3
      exact⟨o2,by simp only[Env.del,old kp id o h1]; exact h5,h4.trans h6⟩
    obtain⟨vs,us,hk,hrep,hrun⟩:=Zx (P:=P.p) (fn:=fn) (SM.same sm m'.sm) om2 h2 hq
    obtain⟨vs',ob2,ρ2,⟨kp,k1,k2,k3⟩,t2,o2,hr2⟩:=Q8 vs us om2 hrep hk
    exact⟨Xrl us,hrun,.ret (Wv vs'),_,_,k3,Vl (Js k1 hr2),o2.del k2,tr t2 kp⟩
   cases ae with
   | normal=>
    cases e<;>simp only[exM]at he
    exact hfin hq
   | ret=>
    cases e<;>simp only[exM]at he
    exact hfin hq
   | exit n=>exact hq.elim
   | panic v=>exact hq.elim
  ·simp at hc
 ·simp at hc

theorem ACall.of_wf {P:Prg}{f:Nat}{vs:List V}{ob:Xa}{K:Out->Xa->Prop}(h:(∀kp,V.mens (Xd (Xb ob) kp) vs=false)->(∀kp,Xh (Xd (Xb ob) kp) ob=true)->ACall P f vs ob K):ACall P f vs ob K:=by
 refine⟨fun w ρ args hO hg hr=>?_⟩
 have old:∀kp id o,ρ.m id=some o->Xd (Xb ob) kp id=false:=fun kp id o h0=>by
  obtain⟨x,hx⟩:=hO.dom id o h0
  have hlt:¬Xb ob<=id:=fun hle=>by rw[Xy _ _ hle]at hx; cases hx
  simp[Xd,hlt]
 exact (h (fun kp=>V.mens_dom (old kp) _ _ hr) (fun kp=>Zi ob fun e he=>(hO.one e.1 _ (hO.once.look e he)).noMen (old kp))).run w ρ args hO hg hr

theorem X4n {P:Prg}{p:Program}(hP:P.p=p)(hm:p.follows .mixedOrders=true){f:Nat}{s:S}{rs:List RV}{ds:List D}{ob0:Xa}{K:V->Prop}(hc:Xi p f ds.length s rs=true)
  (h:cwp P s (U0 rs K) (Vo 0 (ds.map .d)) []):PCall P f (ds.map .d) ob0 K:=by
 subst hP
 exact Xeg hm hc h
end
end Go.Ab
namespace Go.Ab
open Go
section
variable (P:Prg) (K:V->Prop) (KO:V->Xa->Prop) (Pn:V->Xa->Prop) (Q:Yx) (next:Xf->Xa->Prop) (sl:Xf) (ob:Xa) (r:Xf) (ro:Xa) (v v':V) (x y z:A) (k j n:Nat) (b c:Bool) (m m':Int) (kd kd':IntKind) (s s':List UInt8) (xs:List D) (vs:List V) (d:D)
@[simp] theorem Xlj:look ((k,v)::r) k=v:=by simp[look]
@[simp] theorem Xwq (h:(j==k)=false):look ((j,v)::r) k=look r k:=by simp at h; simp[look,h]
@[simp] theorem lookO_eq (o:Ob):Xe ((k,o)::ro) k=some o:=by simp[Xe]
@[simp] theorem lookO_ne (o:Ob)(h:(j==k)=false):Xe ((j,o)::ro) k=Xe ro k:=by simp at h; simp[Xe,h]
@[simp] theorem setO_eq (o o':Ob):setO ((k,o)::ro) k o'=(k,o')::ro:=by simp[setO]
@[simp] theorem setO_ne (o o':Ob)(h:(j==k)=false):setO ((j,o)::ro) k o'=(j,o)::setO ro k o':=by simp at h; simp[setO,h]
@[simp] theorem put_some:put sl (some k) v=(k,v)::sl:=by simp only[put]
@[simp] theorem put_none:put sl none v=sl:=by simp only[put]
@[simp] theorem Ysm:A.ev sl (.t k)=look sl k:=by simp only[A.ev]
@[simp] theorem ev_int:A.ev sl (.int kd m)=.d (.int kd m):=by simp only[A.ev]
@[simp] theorem ev_bool:A.ev sl (.bool b)=.d (.bool b):=by simp only[A.ev]
@[simp] theorem ev_str:A.ev sl (.str s)=.d (.str s):=by simp only[A.ev]
@[simp] theorem ev_nils:A.ev sl .nils=.d .nils:=by simp only[A.ev]
@[simp] theorem ev_fn:A.ev sl (.fn k)=.fn k [] []:=by simp only[A.ev]
-- calm operations
@[simp] theorem wp_mv:C.wp sl ob K (.mv x)=K (x.ev sl):=by simp only[C.wp]
@[simp] theorem Yel:Xah K (.d (.bool true)) v v'=K v:=by unfold Xah; split<;>simp_all
@[simp] theorem Yek:Xah K (.d (.bool false)) v v'=K v':=by unfold Xah; split<;>simp_all
@[simp] theorem wp_not:C.wp sl ob K (.not x)=Xx5 K (x.ev sl):=by simp only[C.wp]
@[simp] theorem notK_b:Xx5 K (.d (.bool b))=K (.d (.bool (!b))):=by simp only[Xx5]
@[simp] theorem wp_mx:C.wp sl ob K (.mx x y)=mxK K (x.ev sl) (y.ev sl):=by simp only[C.wp]
@[simp] theorem wp_bin (op:BinOp):C.wp sl ob K (.bin op x y)=Xn5 op K (x.ev sl) (y.ev sl):=by simp only[C.wp]
@[simp] theorem binK_i (op:BinOp):Xn5 op K (.d (.int kd m)) (.d (.int kd' m'))=X0d op kd kd' m m' K:=by simp only[Xn5]
@[simp] theorem binK_s (op:BinOp):Xn5 op K (.d (.str s)) (.d (.str s'))=Xsb op s s' K:=by simp only[Xn5]
@[simp] theorem strK_eql:Xsb .eql s s' K=K (.d (.bool (s==s'))):=by simp[Xsb]
@[simp] theorem strK_neq:Xsb .neq s s' K=K (.d (.bool (s != s'))):=by simp[Xsb]
@[simp] theorem wp_isnil:C.wp sl ob K (.isnil b x)=Vh b K (x.ev sl):=by simp only[C.wp]
@[simp] theorem isnilK_n:Vh b K (.d .nili)=K (.d (.bool b)):=by simp only[Vh]
@[simp] theorem isnilK_di:Vh b K (.d (.iface k d))=K (.d (.bool (!b))):=by simp only[Vh]
@[simp] theorem mkiV_d:X4g k (.d d)=.d (.iface k d):=by simp only[X4g]
@[simp] theorem mkfV_eq (l1 l2:List V):X59 k l1 l2=Ybo k l1 l2 (V.allD l1) (V.allD l2):=by simp only[X59]
@[simp] theorem mkfO_n1 (l1 l2:List V)(o:Option (List D)):Ybo k l1 l2 none o=.fn k l1 l2:=by cases o<;>simp only[Ybo]
@[simp] theorem mkfO_n2 (l1 l2:List V)(o:Option (List D)):Ybo k l1 l2 o none=.fn k l1 l2:=by cases o<;>simp only[Ybo]
@[simp] theorem wp_cvi:C.wp sl ob K (.cvi kd x)=Xue kd K (x.ev sl):=by simp only[C.wp]
@[simp] theorem cviK_i:Xue kd K (.d (.int kd' m))=K (.d (.int kd (kd.wrap m))):=by simp only[Xue]
@[simp] theorem wp_idx:C.wp sl ob K (.idx x y)=X0b K (x.ev sl) (y.ev sl):=by simp only[C.wp]
@[simp] theorem idxK_s:X0b K (.d (.str s)) (.d (.int kd m))=((0<=m/\m<s.length)/\K (.d (.int .u8 (s.getD m.toNat 0).toNat))):=by simp only[X0b]
@[simp] theorem wp_idxA:C.wp sl ob K (.idxA n x y)=Xa9 ob n K (x.ev sl) (y.ev sl):=by simp only[C.wp]
@[simp] theorem idxAK_l:Xa9 ob n K (.d (.list n xs)) (.d (.int kd m))=((0<=m/\m<xs.length)/\K (.d (.ref (xs.getD m.toNat default)))):=by simp[Xa9]
@[simp] theorem wp_idxP:C.wp sl ob K (.idxP k n x y)=Xba ob k n K (x.ev sl) (y.ev sl):=by simp only[C.wp]
@[simp] theorem idxPK_p (p:List Nat):Xba ob k n K (.ptr j p) (.d (.int kd m))=((0<=m/\m<k)/\(∃ks,Zk (atO ob j p)=some ks/\ks.length=k/\∀k∈ks,k.size=n)/\K (.ptr j (p++[m.toNat]))):=by simp only[Xba]
@[simp] theorem idxPK_c:Xba ob k n K (.d (.ref (.agg xs))) (.d (.int kd m))=((0<=m/\m<k)/\xs.length=k/\(∀x∈xs,x.sz=n)/\K (.d (.ref (xs.getD m.toNat default)))):=by simp only[Xba]
@[simp] theorem wp_fldA:C.wp sl ob K (.fldA k n x)=V6 ob k n K (x.ev sl):=by simp only[C.wp]
@[simp] theorem fldAK_p (p:List Nat):V6 ob k n K (.ptr j p)=Q3 j p k n K (Zk (atO ob j p)):=by simp only[V6]
@[simp] theorem fldAK_c:V6 ob k n K (.d (.ref (.agg xs)))=(k<xs.length/\D.szs (xs.take k)=n/\K (.d (.ref (xs.getD k default)))):=by simp only[V6]
@[simp] theorem wp_ld:C.wp sl ob K (.ld n b x)=ldK ob n b K (x.ev sl):=by simp only[C.wp]
@[simp] theorem ldK_p (p:List Nat):ldK ob n b K (.ptr j p)=Xi2 n b K (atO ob j p):=by simp only[ldK]
@[simp] theorem ldKo_s:Xi2 n b K (some v)=(v.size=n/\v.isAgg=b/\K v):=by simp only[Xi2]
@[simp] theorem ldK_c:ldK ob n b K (.d (.ref d))=(d.sz=n/\(V.d d).isAgg=b/\K (.d d)):=by simp only[ldK]
@[simp] theorem wp_nilc:C.wp sl ob K (.nilc x)=Xbb K (x.ev sl):=by simp only[C.wp]
@[simp] theorem nilcK_p (p:List Nat):Xbb K (.ptr j p)=K (.ptr j p):=by simp only[Xbb]
@[simp] theorem nilcK_c:Xbb K (.d (.ref d))=K (.d (.ref d)):=by simp only[Xbb]
@[simp] theorem wp_lenS:C.wp sl ob K (.lenS x)=Xcl K (x.ev sl):=by simp only[C.wp]
@[simp] theorem lenSK_s:Xcl K (.d (.str s))=K (.d (.int .i64 s.length)):=by simp only[Xcl]
@[simp] theorem wp_lenL:C.wp sl ob K (.lenL x)=Jd ob K (x.ev sl):=by simp only[C.wp]
@[simp] theorem lenLK_l:Jd ob K (.d (.list n xs))=K (.d (.int .i64 xs.length)):=by simp only[Jd]
@[simp] theorem lenLK_n:Jd ob K (.d .nils)=K (.d (.int .i64 0)):=by simp only[Jd]
@[simp] theorem lenLK_o:Jd ob K (.sl j n)=(((∃E z xs,Xe ob j=some (.arr E z xs)/\n=xs.length)\/∃E z xs,Xe ob j=some (.vec E z xs)/\n=xs.length)/\K (.d (.int .i64 n))):=by simp only[Jd]
@[simp] theorem wp_slcS (lo hi:Option A):C.wp sl ob K (.slcS x lo hi)=Xdk (lo.map (A.ev sl)) (hi.map (A.ev sl)) K (x.ev sl):=by simp only[C.wp]
@[simp] theorem slcSK_s (lo hi:Option V):Xdk lo hi K (.d (.str s))=Qy s.length (fun l h=>K (.d (.str ((s.take h).drop l)))) lo hi:=by simp only[Xdk]
@[simp] theorem wp_slcL (lo hi:Option A):C.wp sl ob K (.slcL n x lo hi)=Xg2 n (lo.map (A.ev sl)) (hi.map (A.ev sl)) K (x.ev sl):=by simp only[C.wp]
@[simp] theorem slcLK_l (lo hi:Option V):Xg2 n lo hi K (.d (.list n xs))=Qy xs.length (fun l h=>K (.d (.list n ((xs.take h).drop l)))) lo hi:=by simp[Xg2]
@[simp] theorem bndK_sn (KK:Nat->Nat->Prop):Qy n KK (some (.d (.int kd m))) none=((0<=m/\m<=n)/\KK m.toNat n):=by simp only[Qy]
@[simp] theorem bndK_ns (KK:Nat->Nat->Prop):Qy n KK none (some (.d (.int kd m)))=((0<=m/\m<=n)/\KK 0 m.toNat):=by simp only[Qy]
@[simp] theorem bndK_ss (KK:Nat->Nat->Prop):Qy n KK (some (.d (.int kd m))) (some (.d (.int kd' m')))=((0<=m'/\m'<=n)/\(0<=m/\m<=m')/\KK m.toNat m'.toNat):=by simp only[Qy]
@[simp] theorem wp_ext:C.wp sl ob K (.ext x n)=X0a n K (x.ev sl):=by simp only[C.wp]
@[simp] theorem extK_t:X0a n K (.tup vs)=(n<vs.length/\K (vs.getD n .any)):=by simp only[X0a]
@[simp] theorem wp_bld (ps:List (Nat×A)):C.wp sl ob K (.bld xs ps)=Qx (xs.map .d) (ps.map fun p=>(p.1,p.2.ev sl)) fun ks=>K (V.mk ks):=by simp only[C.wp]
@[simp] theorem bldK_n (KL:List V->Prop):Qx vs [] KL=KL vs:=by simp only[Qx]
@[simp] theorem bldK_c (KL:List V->Prop)(l:List (Nat×V)):Qx vs ((k,v)::l) KL=(k<vs.length/\v.shape=(vs.getD k .any).shape/\v ≠ .any/\Qx (vs.set k v) l KL):=by simp only[Qx]
@[simp] theorem wp_mkf (l l':List A):C.wp sl ob K (.mkf k l l')=K (X59 k (l.map (A.ev sl)) (l'.map (A.ev sl))):=by simp only[C.wp]
@[simp] theorem wp_mki:C.wp sl ob K (.mki k x)=K (X4g k (x.ev sl)):=by simp only[C.wp]
@[simp] theorem wp_tas:C.wp sl ob K (.tas k d x)=X46 k d K (x.ev sl):=by simp only[C.wp]
-- trees
@[simp] theorem kids_agg:V.kids (.agg vs)=some vs:=by simp only[V.kids]
@[simp] theorem kids_d:V.kids (.d (.agg xs))=some (xs.map .d):=by simp only[V.kids]
@[simp] theorem kidsO_s:Zk (some v)=v.kids:=by simp only[Zk]
def atB (p:List Nat):Option Ob->Option V
 | some (.box _ t)=>t.at p
 | _=>none
@[simp] theorem atO_b (p:List Nat):atO ob k p=atB p (Xe ob k):=by
 unfold atO atB
 cases Xe ob k with
 | none=>rfl
 | some o=>cases o<;>rfl
@[simp] theorem atB_s (p:List Nat)(E:Nat):atB p (some (.box E v))=v.at p:=by simp only[atB]
@[simp] theorem at_nil:V.at v []=some v:=by simp[V.at]
def Xho (i:Nat)(p:List Nat):Option (List V)->Option V
 | some ks=>atKid' p ks[i]?
 | none=>none
where atKid' (p:List Nat):Option V->Option V
 | some k=>V.at k p
 | none=>none
@[simp] theorem at_cons (p:List Nat):V.at v (k::p)=Xho k p v.kids:=by
 simp only[V.at,Xho]
 cases v.kids with
 | none=>rfl
 | some ks=>simp only[Xho.atKid']; cases ks[k]?<;>rfl
@[simp] theorem atKid_s (p:List Nat):Xho k p (some vs)=Xho.atKid' p vs[k]?:=by simp only[Xho]
@[simp] theorem atKid'_s (p:List Nat):Xho.atKid' p (some v)=V.at v p:=by simp only[Xho.atKid']
@[simp] theorem set_nil:V.set v [] v'=some v':=by simp[V.set]
def V4 (i:Nat)(p:List Nat)(x:V):Option (List V)->Option V
 | some ks=>setKid1 i p x ks ks[i]?
 | none=>none
where
 setKid1 (i:Nat) (p:List Nat) (x:V) (ks:List V):Option V->Option V
 | some k=>setKid2 i ks (V.set k p x)
 | none=>none
 setKid2 (i:Nat) (ks:List V):Option V->Option V
 | some k'=>some (V.mk (ks.set i k'))
 | none=>none
@[simp] theorem set_cons (p:List Nat):V.set v (k::p) v'=V4 k p v' v.kids:=by
 simp only[V.set,V4]
 cases v.kids with
 | none=>rfl
 | some ks=>
  simp only[V4.setKid1]
  cases ks[k]? with
  | none=>rfl
  | some y=>simp only[V4.setKid2]; cases V.set y p v'<;>rfl
@[simp] theorem setKid_s (p:List Nat):V4 k p v (some vs)=V4.setKid1 k p v vs vs[k]?:=by simp only[V4]
@[simp] theorem setKid1_s (p:List Nat):V4.setKid1 k p v vs (some v')=V4.setKid2 k vs (V.set v' p v):=by simp only[V4.setKid1]
@[simp] theorem setKid2_s:V4.setKid2 k vs (some v)=some (V.mk (vs.set k v)):=by simp only[V4.setKid2]
@[simp] theorem allD_nil:V.allD []=some []:=by simp[V.allD]
def Xub (x:D):Option (List D)->Option (List D)
 | some l=>some (x::l)
 | none=>none
@[simp] theorem allD_cons:V.allD (.d d::vs)=Xub d (V.allD vs):=by simp only[V.allD]; cases V.allD vs<;>rfl
@[simp] theorem consD_s:Xub d (some xs)=some (d::xs):=by simp only[Xub]
@[simp] theorem consD_n:Xub d none=none:=by simp only[Xub]
@[simp] theorem allD_map:V.allD (xs.map .d)=some xs:=by induction xs with | nil=>rfl | cons x r ih=>simp[ih]
@[simp] theorem allD_fn (a1 a2:List V):V.allD (.fn k a1 a2::vs)=none:=by simp only[V.allD]
@[simp] theorem allD_sl:V.allD (.sl k n::vs)=none:=by simp only[V.allD]
@[simp] theorem allD_ptr (p:List Nat):V.allD (.ptr k p::vs)=none:=by simp only[V.allD]
def mkO (vs:List V):Option (List D)->V
 | some l=>.d (.agg l)
 | none=>.agg vs
@[simp] theorem mk_eq:V.mk vs=mkO vs (V.allD vs):=by unfold V.mk mkO; cases V.allD vs<;>rfl
@[simp] theorem mkO_s:mkO vs (some xs)=.d (.agg xs):=by simp only[mkO]
@[simp] theorem mkO_n:mkO vs none=.agg vs:=by simp only[mkO]
-- sizes,shapes
attribute [simp] D.sz D.szs Sh.size Sh.sizes D.shape D.shapes V.shape V.shapes V.isAgg V.sto V.stos V.size V.men V.mens
-- operations on memory
@[simp] theorem za (e:C):I.wp P sl ob KO Pn (.c e)=e.wp sl ob (fun v=>KO v ob):=by simp only[I.wp]
@[simp] theorem qy:I.wp P sl ob KO Pn (.box k x)=Xr7 k ob KO (x.ev sl):=by simp only[I.wp]
@[simp] theorem qu:I.wp P sl ob KO Pn (.alloc k d)=Xr7 k ob KO (.d d):=by simp only[I.wp]
@[simp] theorem boxK_eq:Xr7 k ob KO v=(v.sto=true/\KO (.ptr (Xb ob) []) ((Xb ob,.box k v)::ob)):=by simp only[Xr7]
@[simp] theorem qx (ps:List (Nat×A)):I.wp P sl ob KO Pn (.bls n xs ps)=Qx (xs.map .d) (ps.map fun p=>(p.1,p.2.ev sl)) (fun ks=>dK (fun l=>KO (.d (.list n l)) ob) (V.allD ks)):=by simp only[I.wp]
@[simp] theorem dK_s (KD:List D->Prop):dK KD (some xs)=KD xs:=by simp only[dK]
@[simp] theorem qw (ps:List (Nat×A)):I.wp P sl ob KO Pn (.blo j n xs ps)=Qx (xs.map .d) (ps.map fun p=>(p.1,p.2.ev sl)) (fun ks=>dK (fun l=>KO (.sl (Xb ob) l.length) ((Xb ob,.arr j n l)::ob)) (V.allD ks)):=by simp only[I.wp]
@[simp] theorem zm:I.wp P sl ob KO Pn (.st n x y)=stK ob n (y.ev sl) KO (x.ev sl):=by simp only[I.wp]
@[simp] theorem stK_p (p:List Nat):stK ob n v KO (.ptr k p)=Xzr ob k p n v KO (Xe ob k):=by simp only[stK]
@[simp] theorem stKo_s (p:List Nat)(t:V)(E:Nat):Xzr ob k p n v KO (some (.box E t))=Xzs ob k p n E v t KO (t.at p):=by simp only[Xzr]
def Yfh (ob:Xa)(id E:Nat)(K:V->Xa->Prop):Option V->Prop
 | some t'=>K .undef (setO ob id (.box E t'))
 | none=>False
@[simp] theorem stKt_s (p:List Nat)(t:V)(E:Nat):Xzs ob k p n E v t KO (some v')=(v.shape=v'.shape/\v'.size=n/\v.sto=true/\Yfh ob k E KO (t.set p v)):=by
 simp only[Xzs]; cases t.set p v<;>simp[Yfh]
@[simp] theorem stKs_s (E:Nat):Yfh ob k E KO (some v)=KO .undef (setO ob k (.box E v)):=by simp only[Yfh]
@[simp] theorem qv (E sz B:Nat):I.wp P sl ob KO Pn (.app E sz B x y)=Xzn sz (fun ys=>Xdp E sz B ob ys KO (x.ev sl)) (y.ev sl):=by simp only[I.wp]
@[simp] theorem srcK_l (KD:List D->Prop):Xzn n KD (.d (.list n xs))=KD xs:=by simp[Xzn]
@[simp] theorem appK_s (E sz B:Nat):Xdp E sz B ob xs KO (.sl k n)=Xde k E sz B n ob xs KO (Xe ob k):=by simp[Xdp]
@[simp] theorem appK_n (E sz B:Nat):Xdp E sz B ob xs KO (.d .nils)=((2*xs.length+192)*B<=281474976710656/\KO (.sl (Xb ob) xs.length) ((Xb ob,.arr E sz xs)::ob)):=by simp only[Xdp]
@[simp] theorem appKo_s (E sz B:Nat)(ys:List D):Xde k E sz B n ob xs KO (some (.arr E sz ys))=(n=ys.length/\(2*(ys.length+xs.length)+192)*B<=281474976710656/\KO (.sl k (ys.length+xs.length)) (setO ob k (.arr E sz (ys++xs)))):=by simp[Xde]
@[simp] theorem zi (E sz:Nat)(p:List Nat):I.wp P sl ob KO Pn (.mvg E sz y x p)=Xkh ob E sz p (y.ev sl) KO (x.ev sl):=by simp only[I.wp]
@[simp] theorem mvgK_p (E sz:Nat)(p q:List Nat):Xkh ob E sz p v KO (.ptr k q)=Xdh ob k (q++p) E sz v KO (Xe ob k):=by simp only[Xkh]
@[simp] theorem mvgKt_s (E E0 sz:Nat)(p:List Nat)(t:V):Xdh ob k p E sz v KO (some (.box E0 t))=((t.at p=some (.d .nils)/\Xja ob k E0 E sz v KO (t.set p (.sl (Xb ob) 0)))\/((∃i n,t.at p=some (.sl i n))/\KO v ob)):=by simp only[Xdh]
@[simp] theorem mvgKs_s (E E0 sz:Nat)(t:V):Xja ob k E0 E sz v KO (some t)=KO v ((Xb ob,.arr E sz [])::setO ob k (.box E0 t)):=by simp only[Xja]
@[simp] theorem iwp_cvb:I.wp P sl ob KO Pn (.cvb x)=Xud ob KO (x.ev sl):=by simp only[I.wp]
@[simp] theorem cvbK_s:Xud ob KO (.sl k n)=Xe5 k n ob KO (Xe ob k):=by simp only[Xud]
@[simp] theorem cvbKo_s (E sz:Nat):Xe5 k n ob KO (some (.arr E sz xs))=(sz ≠ 0/\n=xs.length/\xs ≠ []/\KO (.d (.list sz xs)) (setO ob k .gone)):=by simp only[Xe5]
-- values given up
@[simp] theorem giv_d:V.giv ob (.d d)=some (d,ob):=by simp only[V.giv]
@[simp] theorem giv_sl:V.giv ob (.sl k n)=Yg0 ob k n (Xe ob k):=by simp only[V.giv]
@[simp] theorem givO_s (E sz:Nat):Yg0 ob k n (some (.arr E sz xs))=if sz ≠ 0/\n=xs.length then some (.list sz xs,setO ob k .gone) else none:=by simp only[Yg0]
@[simp] theorem giv_agg:V.giv ob (.agg vs)=X01 (V.givs ob vs):=by simp only[V.giv]
@[simp] theorem giv_fn (l1 l2:List V):V.giv ob (.fn k l1 l2)=fnG k ob (V.allD l1) (V.allD l2):=by simp only[V.giv]
@[simp] theorem fnG_s (l1 l2:List D):fnG k ob (some l1) (some l2)=some (.fn k l1 l2,ob):=by simp only[fnG]
@[simp] theorem givs_nil:V.givs ob []=some ([],ob):=by simp only[V.givs]
def X8a (r:List V):Option (D×Xa)->Option (List D×Xa)
 | some (x,ob1)=>Xa8 x (V.givs ob1 r)
 | none=>none
@[simp] theorem givs_cons:V.givs ob (v::vs)=X8a vs (V.giv ob v):=by
 simp only[V.givs]; cases V.giv ob v with
 | none=>rfl
 | some q=>obtain⟨y,ob1⟩:=q; rfl
@[simp] theorem bindO_s:X8a vs (some (d,ob))=Xa8 d (V.givs ob vs):=by simp only[X8a]
@[simp] theorem consO_s (l:List D):Xa8 d (some (l,ob))=some (d::l,ob):=by simp only[Xa8]
@[simp] theorem aggO_s (l:List D):X01 (some (l,ob))=some (.agg l,ob):=by simp only[X01]
@[simp] theorem givsK_s (KD:List D->Xa->Prop)(l:List D):Wy KD (some (l,ob))=KD l ob:=by simp only[Wy]
@[simp] theorem gvsK_nil (KL:List V->Xa->Prop):Xdf [] ob KL=KL [] ob:=by simp only[Xdf]
@[simp] theorem gvsK_cons (KL:List V->Xa->Prop):Xdf (v::vs) ob KL=gvO v ob (fun v' ob'=>Xdf vs ob' fun vs ob''=>KL (v'::vs) ob'') (V.giv ob v):=by simp only[Xdf]
@[simp] theorem gvO_s:gvO v ob KO (some (d,ro))=KO (.d d) ro:=by simp only[gvO]
-- names
@[simp] theorem fresh_nil:Xb []=0:=by simp only[Xb]
@[simp] theorem fresh_cons (o:Ob):Xb ((k,o)::ro)=if Xb ro<=k then k+1 else Xb ro:=by simp only[Xb]
@[simp] theorem fresh_set (o:Ob):Xb (setO ob k o)=Xb ob:=by
 induction ob with
 | nil=>simp[setO]
 | cons e r ih=>obtain⟨i,y⟩:=e; simp only[setO]; split<;>simp[Xb,ih]
@[simp] theorem fresh_ne (h:(Xe ob k).isSome=true):(Xb ob==k)=false:=by
 rw[beq_eq_false_iff_ne]; intro e; rw[<-e,Xw]at h; cases h
@[simp] theorem fresh_add_ne (h:(Xe ob k).isSome=true):(Xb ob+n==k)=false:=by
 rw[beq_eq_false_iff_ne]; intro e; rw[<-e,Xy ob _ (by omega)]at h; cases h
@[simp] theorem lookO_set_eq (o:Ob)(h:(Xe ob k).isSome=true):Xe (setO ob k o) k=some o:=by
 rw[Xp ob k k (Option.isSome_iff_exists.1 h)]; simp
@[simp] theorem lookO_set_ne (o:Ob)(h:(j==k)=false):Xe (setO ob j o) k=Xe ob k:=by
 by_cases hs:(Xe ob j).isSome=true
 ·rw[Xp ob j k (Option.isSome_iff_exists.1 hs)]; simp at h; rw[if_neg (fun e=>h e.symm)]
 ·have hn:Xe ob j=none:=by simpa using hs
  have:∀(ob:Xa),Xe ob j=none->setO ob j o=ob:=fun ob=>by
   induction ob with
   | nil=>intro _; rfl
   | cons e r ih=>obtain⟨i,y⟩:=e; intro h; simp only[Xe]at h; split at h; cases h; rename_i hne; simp[setO,hne,ih h]
  rw[this ob hn]
@[simp] theorem Xp4 (o o':Ob):setO (setO ob k o) k o'=setO ob k o':=by
 induction ob with
 | nil=>rfl
 | cons e r ih=>
  obtain⟨i,y⟩:=e
  by_cases h:i=k
  ·subst h; simp[setO]
  ·simp[setO,h,ih]
-- Xd objects dropped
@[simp] theorem young_lt (l:List Nat)(h:k<n):Xd n l k=false:=by simp[Xd]; omega
@[simp] theorem young_old (l:List Nat)(h:(Xe ob k).isSome=true):Xd (Xb ob) l k=false:=by
 have:k<Xb ob:=by
  rcases Nat.lt_or_ge k (Xb ob) with h1 | h1
  ·exact h1
  ·rw[Xy ob k h1]at h; cases h
 simp[Xd]; omega
@[simp] theorem young_self:Xd n [] n=true:=by simp[Xd]
theorem Xq (ids:Nat->Bool)(E:Nat)(h:Xh ids ob=true)(hv:V.men ids v=false):Xh ids (setO ob k (.box E v))=true:=by
 induction ob with
 | nil=>rfl
 | cons e r ih=>
  obtain⟨i,y⟩:=e
  simp only[setO]
  split
  ·cases y<;>simp_all[Xh]
  ·cases y<;>simp_all[Xh]
theorem Y1 (ids:Nat->Bool)(E z:Nat)(h:Xh ids ob=true):Xh ids (setO ob k (.arr E z xs))=true:=by
 induction ob with
 | nil=>rfl
 | cons e r ih=>
  obtain⟨i,y⟩:=e
  simp only[setO]
  split
  ·cases y<;>simp_all[Xh]
  ·cases y<;>simp_all[Xh]
@[simp] theorem zd (l:List A):I.wp P sl ob KO Pn (.call k l)=ACall P k (l.map (A.ev sl)) ob (Xda KO Pn):=by simp only[I.wp]
@[simp] theorem ze (l:List A):I.wp P sl ob KO Pn (.callv x l)=Ve P (l.map (A.ev sl)) ob KO Pn (x.ev sl):=by simp only[I.wp]
@[simp] theorem callvK_f (a1 a2:List V):Ve P vs ob KO Pn (.fn k a1 a2)=(Xm P.p k=true/\ACall P k (a1++vs++a2) ob (Xda KO Pn)):=by simp only[Ve]
@[simp] theorem callvK_df (a1 a2:List D):Ve P vs ob KO Pn (.d (.fn k a1 a2))=(Xm P.p k=true/\ACall P k (a1.map .d++vs++a2.map .d) ob (Xda KO Pn)):=by simp only[Ve]
@[simp] theorem zo:Xda KO Pn (.ret v) ob=KO v ob:=by simp only[Xda]
@[simp] theorem zn:Xda KO Pn (.panic v) ob=Pn v ob:=by simp only[Xda]
@[simp] theorem iwp_panic:I.wp P sl ob KO Pn (.panic x)=Jk ob Pn (x.ev sl):=by simp only[I.wp]
@[simp] theorem panicK_d:Jk ob Pn (.d (.iface k d))=Pn (.d (.iface k d)) ob:=by simp only[Jk]
@[simp] theorem zk (E sz:Nat):I.wp P sl ob KO Pn (.nilo E sz x)=Xgq E sz ob KO (x.ev sl):=by simp only[I.wp]
@[simp] theorem niloK_n (E sz:Nat):Xgq E sz ob KO (.d .nils)=KO (.sl (Xb ob) 0) ((Xb ob,.arr E sz [])::ob):=by simp only[Xgq]
-- regions and statements
@[simp] theorem keepS_nil:Xk sl []=[]:=by simp only[Xk]
@[simp] theorem keepS_cons (l:List Nat):Xk sl (k::l)=(k,look sl k)::Xk sl l:=by simp only[Xk]
@[simp] theorem zl (l:List A):I.wp P sl ob KO Pn (.pcall k l)=PCall P k (l.map (A.ev sl)) ob (fun v=>KO v ob):=by simp only[I.wp]
@[simp] theorem condK_t (Y N:Prop):J7 Y N (.d (.bool true))=Y:=by simp[J7]
@[simp] theorem condK_f (Y N:Prop):J7 Y N (.d (.bool false))=N:=by simp[J7]
@[simp low] theorem condK_b (Y N:Prop):J7 Y N (.d (.bool b))=((b=true->Y)/\(b=false->N)):=by simp only[J7]
@[simp] theorem wc:Wm next Q .normal sl ob=next sl ob:=by simp only[Wm]
@[simp] theorem wb:Wm next Q (.exit n) sl ob=Q (.exit n) sl ob:=by simp only[Wm]
@[simp] theorem wf:Wm next Q .ret sl ob=Q .ret sl ob:=by simp only[Wm]
@[simp] theorem we:Wm next Q (.panic v) sl ob=Q (.panic v) sl ob:=by simp only[Wm]
@[simp] theorem qc:Yl n Q .normal sl ob=Q .normal sl ob:=by simp only[Yl]
@[simp] theorem qa:Yl n Q (.exit n) sl ob=Q .normal sl ob:=by simp[Yl]
@[simp] theorem qe:Yl n Q .ret sl ob=Q .ret sl ob:=by simp only[Yl]
@[simp] theorem qd:Yl n Q (.panic v) sl ob=Q (.panic v) sl ob:=by simp only[Yl]
attribute [simp] Wg Xh Y4
-- results
@[simp] theorem pureQ_r (rs:List RV):U0 rs K .ret sl ob=Wu sl ob rs fun vs=>Wy (fun l _=>K (Wv (l.map .d))) (V.givs ob vs):=by simp only[U0]
@[simp] theorem pureQ_p (rs:List RV):U0 rs K (.panic v) sl ob=False:=by simp only[U0]
@[simp] theorem qf (rs:List RV)(KU:Out->Xa->Prop):Vq n rs KU .normal sl ob=Wu sl ob rs fun vs=>Xdf vs ob fun vs ob=>X4 n (KU (.ret (Wv vs))) vs ob:=by simp only[Vq]
@[simp] theorem qh (rs:List RV)(KU:Out->Xa->Prop):Vq n rs KU .ret sl ob=Wu sl ob rs fun vs=>Xdf vs ob fun vs ob=>X4 n (KU (.ret (Wv vs))) vs ob:=by simp only[Vq]
@[simp] theorem qg (rs:List RV)(KU:Out->Xa->Prop):Vq n rs KU (.panic v) sl ob=X4 n (KU (.panic v)) [v] ob:=by simp only[Vq]
@[simp] theorem resK_nil (KL:List V->Prop):Wu sl ob [] KL=KL []:=by simp only[Wu]
@[simp] theorem resK_t (KL:List V->Prop)(rs:List RV):Wu sl ob (.t k::rs) KL=Wu sl ob rs fun vs=>KL (look sl k::vs):=by simp only[Wu,RV.wp]
@[simp] theorem resK_c (KL:List V->Prop)(rs:List RV):Wu sl ob (.c k n b::rs) KL=ldK ob n b (fun v=>Wu sl ob rs fun vs=>KL (v::vs)) (look sl k):=by simp only[Wu,RV.wp]
@[simp] theorem retV_1:Wv [v]=v:=by simp only[Wv]
@[simp] theorem retV_0:Wv []=.tup []:=by simp only[Wv]
@[simp] theorem retV_2:Wv (v::v'::vs)=.tup (v::v'::vs):=by simp only[Wv]
@[simp] theorem argS_nil:Vo k []=[]:=by simp only[Vo]
@[simp] theorem argS_cons:Vo k (v::vs)=(k,v)::Vo (k+1) vs:=by simp only[Vo]
end

@[congr] theorem I_wp_congr {P:Prg}{sl:Xf}{ob:Xa}{KO:V->Xa->Prop}{Pn:V->Xa->Prop}{i:I}:I.wp P sl ob KO Pn i=I.wp P sl ob KO Pn i:=rfl
@[congr] theorem C_wp_congr {sl:Xf}{ob:Xa}{K:V->Prop}{e:C}:C.wp sl ob K e=C.wp sl ob K e:=rfl
@[congr] theorem rwp_congr {P:Prg}{KS:Xf->Xa->Prop}{PS:V->Xf->Xa->Prop}{l:List It}{sl:Xf}{ob:Xa}:rwp P KS PS l sl ob=rwp P KS PS l sl ob:=rfl
@[congr] theorem gdK_congr {k:Nat}{b:Bool}{sl:Xf}{Y N:Xf->Prop}{v v':V}(h0:v=v'):gdK k b sl Y N v=gdK k b sl Y N v':=by rw[h0]
@[congr] theorem condK_congr {Y N:Prop}{v v':V}(h0:v=v'):J7 Y N v=J7 Y N v':=by rw[h0]
@[congr] theorem pickK_congr {K:V->Prop}{u u':V}{v v':V}{w w':V}(h0:u=u')(h1:v=v')(h2:w=w'):Xah K u v w=Xah K u' v' w':=by rw[h0,h1,h2]
@[congr] theorem notK_congr {K:V->Prop}{v v':V}(h0:v=v'):Xx5 K v=Xx5 K v':=by rw[h0]
@[congr] theorem cplK_congr {K:V->Prop}{v v':V}(h0:v=v'):X8x K v=X8x K v':=by rw[h0]
@[congr] theorem mxK_congr {K:V->Prop}{u u' v v':V}(h0:u=u')(h1:v=v'):mxK K u v=mxK K u' v':=by rw[h0,h1]
@[congr] theorem negK_congr {K:V->Prop}{v v':V}(h0:v=v'):Yea K v=Yea K v':=by rw[h0]
@[congr] theorem cvsK_congr {K:V->Prop}{v v':V}(h0:v=v'):X80 K v=X80 K v':=by rw[h0]
@[congr] theorem nilcK_congr {K:V->Prop}{v v':V}(h0:v=v'):Xbb K v=Xbb K v':=by rw[h0]
@[congr] theorem lenSK_congr {K:V->Prop}{v v':V}(h0:v=v'):Xcl K v=Xcl K v':=by rw[h0]
@[congr] theorem b2sK_congr {K:V->Prop}{v v':V}(h0:v=v'):Ysf K v=Ysf K v':=by rw[h0]
@[congr] theorem s2bK_congr {K:V->Prop}{v v':V}(h0:v=v'):Ysy K v=Ysy K v':=by rw[h0]
@[congr] theorem binK_congr {op:BinOp}{K:V->Prop}{u u':V}{v v':V}(h0:u=u')(h1:v=v'):Xn5 op K u v=Xn5 op K u' v':=by rw[h0,h1]
@[congr] theorem intK_congr {op:BinOp}{k j:IntKind}{K:V->Prop}{a a':Int}{b b':Int}(h0:a=a')(h1:b=b'):X0d op k j a b K=X0d op k j a' b' K:=by rw[h0,h1]
@[congr] theorem strK_congr {op:BinOp}{K:V->Prop}{a a':List UInt8}{b b':List UInt8}(h0:a=a')(h1:b=b'):Xsb op a b K=Xsb op a' b' K:=by rw[h0,h1]
@[congr] theorem beqK_congr {e:Bool}{K:V->Prop}{u u':V}{v v':V}(h0:u=u')(h1:v=v'):X77 e K u v=X77 e K u' v':=by rw[h0,h1]
@[congr] theorem isnilK_congr {e:Bool}{K:V->Prop}{v v':V}(h0:v=v'):Vh e K v=Vh e K v':=by rw[h0]
@[congr] theorem cviK_congr {k:IntKind}{K:V->Prop}{v v':V}(h0:v=v'):Xue k K v=Xue k K v':=by rw[h0]
@[congr] theorem idxK_congr {K:V->Prop}{u u':V}{v v':V}(h0:u=u')(h1:v=v'):X0b K u v=X0b K u' v':=by rw[h0,h1]
@[congr] theorem idxAK_congr {ob:Xa}{n:Nat}{K:V->Prop}{u u':V}{v v':V}(h0:u=u')(h1:v=v'):Xa9 ob n K u v=Xa9 ob n K u' v':=by rw[h0,h1]
@[congr] theorem idxPK_congr {ob:Xa}{k n:Nat}{K:V->Prop}{u u':V}{v v':V}(h0:u=u')(h1:v=v'):Xba ob k n K u v=Xba ob k n K u' v':=by rw[h0,h1]
@[congr] theorem fldAK_congr {ob:Xa}{k n:Nat}{K:V->Prop}{v v':V}(h0:v=v'):V6 ob k n K v=V6 ob k n K v':=by rw[h0]
@[congr] theorem fldAKo_congr {j:Nat}{p:List Nat}{k n:Nat}{K:V->Prop}{v v':Option (List V)}(h0:v=v'):Q3 j p k n K v=Q3 j p k n K v':=by rw[h0]
@[congr] theorem fldK_congr {k j n:Nat}{b:Bool}{K:V->Prop}{v v':Option (List V)}(h0:v=v'):X9n k j n b K v=X9n k j n b K v':=by rw[h0]
@[congr] theorem ldK_congr {ob:Xa}{n:Nat}{b:Bool}{K:V->Prop}{v v':V}(h0:v=v'):ldK ob n b K v=ldK ob n b K v':=by rw[h0]
@[congr] theorem ldKo_congr {n:Nat}{b:Bool}{K:V->Prop}{v v':Option V}(h0:v=v'):Xi2 n b K v=Xi2 n b K v':=by rw[h0]
@[congr] theorem lenLK_congr {ob:Xa}{K:V->Prop}{v v':V}(h0:v=v'):Jd ob K v=Jd ob K v':=by rw[h0]
@[congr] theorem bndK_congr {n:Nat}{KK:Nat->Nat->Prop}{u u':Option V}{v v':Option V}(h0:u=u')(h1:v=v'):Qy n KK u v=Qy n KK u' v':=by rw[h0,h1]
@[congr] theorem slcSK_congr {K:V->Prop}{l l':Option V}{h h':Option V}{v v':V}(h0:l=l')(h1:h=h')(h2:v=v'):Xdk l h K v=Xdk l' h' K v':=by rw[h0,h1,h2]
@[congr] theorem slcLK_congr {n:Nat}{K:V->Prop}{l l':Option V}{h h':Option V}{v v':V}(h0:l=l')(h1:h=h')(h2:v=v'):Xg2 n l h K v=Xg2 n l' h' K v':=by rw[h0,h1,h2]
@[congr] theorem extK_congr {n:Nat}{K:V->Prop}{v v':V}(h0:v=v'):X0a n K v=X0a n K v':=by rw[h0]
@[congr] theorem bldK_congr {KL:List V->Prop}{u u':List V}{l l':List (Nat×V)}(h0:u=u')(h1:l=l'):Qx u l KL=Qx u' l' KL:=by rw[h0,h1]
@[congr] theorem tasK_congr {k:Nat}{d:D}{K:V->Prop}{v v':V}(h0:v=v'):X46 k d K v=X46 k d K v':=by rw[h0]
@[congr] theorem boxK_congr {k:Nat}{ob:Xa}{KO:V->Xa->Prop}{v v':V}(h0:v=v'):Xr7 k ob KO v=Xr7 k ob KO v':=by rw[h0]
@[congr] theorem stK_congr {ob:Xa}{n:Nat}{KO:V->Xa->Prop}{u u':V}{v v':V}(h0:u=u')(h1:v=v'):stK ob n u KO v=stK ob n u' KO v':=by rw[h0,h1]
@[congr] theorem stKo_congr {ob:Xa}{k:Nat}{p:List Nat}{n:Nat}{u:V}{KO:V->Xa->Prop}{v v':Option Ob}(h0:v=v'):Xzr ob k p n u KO v=Xzr ob k p n u KO v':=by rw[h0]
@[congr] theorem stKt_congr {ob:Xa}{k:Nat}{p:List Nat}{n E:Nat}{u t:V}{KO:V->Xa->Prop}{v v':Option V}(h0:v=v'):Xzs ob k p n E u t KO v=Xzs ob k p n E u t KO v':=by rw[h0]
@[congr] theorem stKs_congr {ob:Xa}{k E:Nat}{KO:V->Xa->Prop}{v v':Option V}(h0:v=v'):Yfh ob k E KO v=Yfh ob k E KO v':=by rw[h0]
@[congr] theorem dK_congr {KD:List D->Prop}{v v':Option (List D)}(h0:v=v'):dK KD v=dK KD v':=by rw[h0]
@[congr] theorem callvK_congr {P:Prg}{ob:Xa}{KO:V->Xa->Prop}{Pn:V->Xa->Prop}{u u':List V}{v v':V}(h0:u=u')(h1:v=v'):Ve P u ob KO Pn v=Ve P u' ob KO Pn v':=by rw[h0,h1]
@[congr] theorem panicK_congr {ob:Xa}{Pn:V->Xa->Prop}{v v':V}(h0:v=v'):Jk ob Pn v=Jk ob Pn v':=by rw[h0]
@[congr] theorem srcK_congr {n:Nat}{KD:List D->Prop}{v v':V}(h0:v=v'):Xzn n KD v=Xzn n KD v':=by rw[h0]
@[congr] theorem appK_congr {E sz B:Nat}{ob:Xa}{xs:List D}{KO:V->Xa->Prop}{v v':V}(h0:v=v'):Xdp E sz B ob xs KO v=Xdp E sz B ob xs KO v':=by rw[h0]
@[congr] theorem appKo_congr {k E sz B n:Nat}{ob:Xa}{xs:List D}{KO:V->Xa->Prop}{v v':Option Ob}(h0:v=v'):Xde k E sz B n ob xs KO v=Xde k E sz B n ob xs KO v':=by rw[h0]
@[congr] theorem niloK_congr {E sz:Nat}{ob:Xa}{KO:V->Xa->Prop}{v v':V}(h0:v=v'):Xgq E sz ob KO v=Xgq E sz ob KO v':=by rw[h0]
@[congr] theorem srcSK_congr {KD:List D->Prop}{v v':V}(h0:v=v'):X42 KD v=X42 KD v':=by rw[h0]
@[congr] theorem pnilK_congr {e:Bool}{K:V->Prop}{v v':V}(h0:v=v'):Xmx e K v=Xmx e K v':=by rw[h0]
@[congr] theorem fnilK_congr {e:Bool}{K:V->Prop}{v v':V}(h0:v=v'):Xk5 e K v=Xk5 e K v':=by rw[h0]
@[congr] theorem peqK_congr {ob:Xa}{e:Bool}{K:V->Prop}{u u' v v':V}(h1:u=u')(h0:v=v'):Yfc ob e K u v=Yfc ob e K u' v':=by rw[h0,h1]
@[congr] theorem givK_congr {KO:V->Xa->Prop}{v v':Option (D×Xa)}(h0:v=v'):Xq6 KO v=Xq6 KO v':=by rw[h0]
@[congr] theorem givsK_congr {KO:List D->Xa->Prop}{v v':Option (List D×Xa)}(h0:v=v'):Wy KO v=Wy KO v':=by rw[h0]
@[congr] theorem gvO_congr {u:V}{ob:Xa}{KO:V->Xa->Prop}{v v':Option (D×Xa)}(h0:v=v'):gvO u ob KO v=gvO u ob KO v':=by rw[h0]
@[congr] theorem gvsK_congr {KL:List V->Xa->Prop}{u u':List V}{ob ob':Xa}(h0:u=u')(h1:ob=ob'):Xdf u ob KL=Xdf u' ob' KL:=by rw[h0,h1]
@[congr] theorem leaveK_congr {n:Nat}{K:Xa->Prop}{u u':List V}{ob ob':Xa}(h0:u=u')(h1:ob=ob'):X4 n K u ob=X4 n K u' ob':=by rw[h0,h1]
@[congr] theorem ldfK_congr {n:Nat}{b:Bool}{ob:Xa}{KO:V->Xa->Prop}{v v':V}(h0:v=v'):X54 n b ob KO v=X54 n b ob KO v':=by rw[h0]
@[congr] theorem ldfKo_congr {n:Nat}{b:Bool}{ob:Xa}{KO:V->Xa->Prop}{v v':Option V}(h0:v=v'):Xlg n b ob KO v=Xlg n b ob KO v':=by rw[h0]
@[congr] theorem mvgK_congr {ob:Xa}{E sz:Nat}{p:List Nat}{KO:V->Xa->Prop}{u u' v v':V}(h1:u=u')(h0:v=v'):Xkh ob E sz p u KO v=Xkh ob E sz p u' KO v':=by rw[h0,h1]
@[congr] theorem mvgKt_congr {ob:Xa}{k E sz:Nat}{p p':List Nat}{KO:V->Xa->Prop}{u:V}{v v':Option Ob}(h1:p=p')(h0:v=v'):Xdh ob k p E sz u KO v=Xdh ob k p' E sz u KO v':=by rw[h0,h1]
@[congr] theorem mvgKs_congr {ob:Xa}{k E0 E sz:Nat}{KO:V->Xa->Prop}{u:V}{v v':Option V}(h0:v=v'):Xja ob k E0 E sz u KO v=Xja ob k E0 E sz u KO v':=by rw[h0]
@[congr] theorem cvbK_congr {ob:Xa}{KO:V->Xa->Prop}{v v':V}(h0:v=v'):Xud ob KO v=Xud ob KO v':=by rw[h0]
@[congr] theorem cvbKo_congr {k n:Nat}{ob:Xa}{KO:V->Xa->Prop}{v v':Option Ob}(h0:v=v'):Xe5 k n ob KO v=Xe5 k n ob KO v':=by rw[h0]
@[congr] theorem usdK_congr {ob:Xa}{K:V->Prop}{v v':V}(h0:v=v'):Yez ob K v=Yez ob K v':=by rw[h0]
@[congr] theorem ustrK_congr {E:Nat}{ob:Xa}{KO:V->Xa->Prop}{u u' v v':V}(h1:u=u')(h0:v=v'):Xr2 E ob KO u v=Xr2 E ob KO u' v':=by rw[h0,h1]
@[congr] theorem ustrKo_congr {k n:Nat}{m:Int}{E:Nat}{ob:Xa}{KO:V->Xa->Prop}{v v':Option Ob}(h0:v=v'):Xj8 k n m E ob KO v=Xj8 k n m E ob KO v':=by rw[h0]
@[congr] theorem resK_congr {sl:Xf}{ob:Xa}{rs:List RV}{KL:List V->Prop}:Wu sl ob rs KL=Wu sl ob rs KL:=rfl
@[congr] theorem ACall_congr {P:Prg}{f:Nat}{vs vs':List V}{ob ob':Xa}{K:Out->Xa->Prop}(h:vs=vs')(h':ob=ob'):ACall P f vs ob K=ACall P f vs' ob' K:=by rw[h,h']
@[congr] theorem PCall_congr {P:Prg}{f:Nat}{vs vs':List V}{ob ob':Xa}{K:V->Prop}(h:vs=vs')(h':ob=ob'):PCall P f vs ob K=PCall P f vs' ob' K:=by rw[h,h']
@[congr] theorem ALoop_congr {keep:List Nat}{body:Yx->Xf->Xa->Prop}{Q:Yx}{sl sl':Xf}{ob ob':Xa}(h:sl=sl')(h':ob=ob'):ALoop keep body Q sl ob=ALoop keep body Q sl' ob':=by rw[h,h']

theorem ALoop.of {keep:List Nat}{body:Yx->Xf->Xa->Prop}{Q:Yx}{sl:Xf}{ob:Xa}{ι:Type}(S:ι->Xf)(O:ι->Xa)(I:ι->Prop)(μ:ι->Nat)(i0:ι)(h0:I i0)(hs:Xk sl keep=S i0)(ho:ob=O i0)
  (step:∀i,I i->body (Wm (sub keep (Xb (O i)) fun sl' ob'=>∃j,I j/\μ j<μ i/\sl'=S j/\ob'=O j) Q) (S i) (O i)):ALoop keep body Q sl ob:=
 ⟨⟨ι,S,O,I,μ,i0,h0,hs,ho,step⟩⟩

theorem ALoop.go {keep:List Nat}{body:Yx->Xf->Xa->Prop}{Q:Yx}{sl:Xf}{ob:Xa}{ι:Type}(S:ι->Xf)(O:ι->Xa)(I:ι->Prop)(μ:ι->Nat)(i0:ι)(h0:I i0)(hs:Xk sl keep=S i0)(ho:ob=O i0)
  (step:∀i,I i->∀R:Yx,(∀kp j sl' ob',I j->μ j<μ i->Xk sl' keep=S j->Y4 (Xd (Xb (O i)) kp) ob'=O j->Wg (Xd (Xb (O i)) kp) (S j)=true->Xh (Xd (Xb (O i)) kp) (O j)=true->R .normal sl' ob')->
   (∀n sl' ob',Q (.exit n) sl' ob'->R (.exit n) sl' ob')->(∀sl' ob',Q .ret sl' ob'->R .ret sl' ob')->(∀v sl' ob',Q (.panic v) sl' ob'->R (.panic v) sl' ob')->body R (S i) (O i)):ALoop keep body Q sl ob:=by
 refine ALoop.of S O I μ i0 h0 hs ho fun i hi=>step i hi _ (fun kp j sl' ob' h1 h2 h3 h4 h5 h6=>?_) (fun _ _ _ h=>h) (fun _ _ h=>h) (fun _ _ _ h=>h)
 simp only[Wm,sub]
 refine⟨kp,?_⟩
 rw[h3,h4]
 exact⟨h5,h6,j,h1,h2,rfl,rfl⟩
@[congr] theorem cwp_congr {P:Prg}{s:S}{Q:Yx}{sl sl':Xf}{ob ob':Xa}(h:sl=sl')(h':ob=ob'):cwp P s Q sl ob=cwp P s Q sl' ob':=by rw[h,h']
end Go.Ab
namespace Go.Ab
open Go

def Xcw:V->V->V->V
 | .d (.bool t),.d (.bool x),.d (.bool y)=>.d (.bool (if t then x else y))
 | .d (.bool t),x,y=>if t then x else y
 | _,_,_=>.any
def Yeb:V->V
 | .d (.bool b)=>.d (.bool (!b))
 | _=>.any
def Yym:V->V
 | .d (.int k n)=>.d (.int k (k.wrap (0-n)))
 | _=>.any
def Yut:V->V
 | .d (.int k n)=>.d (.int k (Xqo .xor k (if k.signed then -1 else k.max) n))
 | _=>.any
def mxV:V->V->V
 | .d (.int k a),.d (.int _ b)=>.d (.int k (if b > a then b else a))
 | _,_=>.any
def Xaw (op:BinOp)(k:IntKind)(a b:Int):V:=
 match op with
 | .add=>.d (.int k (k.wrap (a+b)))
 | .sub=>.d (.int k (k.wrap (a-b)))
 | .mul=>.d (.int k (k.wrap (a*b)))
 | .quo=>.d (.int k (k.wrap (a.tdiv b)))
 | .rem=>.d (.int k (a.tmod b))
 | .and | .or | .xor | .andNot=>.d (.int k (Xqo op k a b))
 | .shl=>.d (.int k (k.wrap (a*2 ^ (min b.toNat k.bits))))
 | .shr=>.d (.int k (a.fdiv (2 ^ (min b.toNat k.bits))))
 | .eql=>.d (.bool (a==b))
 | .neq=>.d (.bool (a != b))
 | .lss=>.d (.bool (decide (a<b)))
 | .leq=>.d (.bool (decide (a<=b)))
 | .gtr=>.d (.bool (decide (b<a)))
 | .geq=>.d (.bool (decide (b<=a)))
def X7h (op:BinOp)(x y:List UInt8):V:=
 match op with
 | .add=>.d (.str (x++y))
 | .eql=>.d (.bool (x==y))
 | .neq=>.d (.bool (x != y))
 | .lss=>.d (.bool (Op.bytesLess x y))
 | .leq=>.d (.bool (Op.bytesLess x y||x==y))
 | .gtr=>.d (.bool (!(Op.bytesLess x y||x==y)))
 | .geq=>.d (.bool (!Op.bytesLess x y))
 | _=>.any
def X79 (op:BinOp):V->V->V
 | .d (.int k a),.d (.int _ b)=>Xaw op k a b
 | .d (.str x),.d (.str y)=>X7h op x y
 | _,_=>.any
def Yuj (e:Bool):V->V->V
 | .d (.bool x),.d (.bool y)=>.d (.bool ((x==y)==e))
 | _,_=>.any
def Ja (e:Bool):V->V
 | .d .nili=>.d (.bool e)
 | .iface _ _=>.d (.bool (!e))
 | .d (.iface _ _)=>.d (.bool (!e))
 | _=>.any
def Yem (e:Bool):V->V
 | .d .nilp=>.d (.bool e)
 | .d (.ref _)=>.d (.bool (!e))
 | .ptr _ _=>.d (.bool (!e))
 | _=>.any
def X9o (e:Bool):V->V
 | .d .nilf=>.d (.bool e)
 | .d (.fn _ _ _)=>.d (.bool (!e))
 | .fn _ _ _=>.d (.bool (!e))
 | _=>.any
def Zi3:V->V
 | .sl id n=>.sd id n
 | .d .nils=>.d .nilp
 | _=>.any
def X8z (k:IntKind):V->V
 | .d (.int _ n)=>.d (.int k (k.wrap n))
 | _=>.any
def Yuu:V->V
 | .d (.str s)=>.d (.str s)
 | _=>.any
def Yg3:V->V->V
 | .d (.str s),.d (.int _ n)=>.d (.int .u8 (s.getD n.toNat 0).toNat)
 | _,_=>.any
def Xir (z:Nat):V->V->V
 | .d (.list _ xs),.d (.int _ n)=>.d (.ref (xs.getD n.toNat default))
 | .sl id n,.d (.int _ m)=>.ep id n z m.toNat 0 []
 | .bs id p lo _,.d (.int _ m)=>.ptr id (p++[lo+m.toNat])
 | _,_=>.any
def Xfh:V->V->V
 | .ptr id p,.d (.int _ n)=>.ptr id (p++[n.toNat])
 | .d (.ref (.agg xs)),.d (.int _ n)=>.d (.ref (xs.getD n.toNat default))
 | _,_=>.any
def Xk4 (f fo:Nat):V->V
 | .ptr id p=>.ptr id (p++[f])
 | .ep id n z i g p=>.ep id n z i (g+fo) (p++[f])
 | .d (.ref (.agg xs))=>.d (.ref (xs.getD f default))
 | _=>.any
def Zcl (f:Nat):Option (List V)->V
 | some ks=>ks.getD f .any
 | none=>.any
def X53:Option V->V
 | some v=>v
 | none=>.any
def ldV (ob:Xa):V->V
 | .ptr id p=>X53 (atO ob id p)
 | .d (.ref x)=>.d x
 | .ep id m z i f p=>X53 (atE ob id m z i f p)
 | _=>.any
def Xlh:V->V
 | .d (.str s)=>.d (.int .i64 s.length)
 | _=>.any
def Uz:V->V
 | .d (.list _ xs)=>.d (.int .i64 xs.length)
 | .d .nils=>.d (.int .i64 0)
 | .sl _ n=>.d (.int .i64 n)
 | .bs _ _ _ n=>.d (.int .i64 n)
 | _=>.any
def X5m (len:Nat)(K:Nat->Nat->V):Option V->Option V->V
 | none,none=>K 0 len
 | some (.d (.int _ l)),none=>K l.toNat len
 | none,some (.d (.int _ h))=>K 0 h.toNat
 | some (.d (.int _ l)),some (.d (.int _ h))=>K l.toNat h.toNat
 | _,_=>.any
def Jv (lo hi:Option V):V->V
 | .d (.str s)=>X5m s.length (fun l h=>.d (.str ((s.take h).drop l))) lo hi
 | _=>.any
def Y27 (lo hi:Option V):V->V
 | .d (.list sz xs)=>X5m xs.length (fun l h=>.d (.list sz ((xs.take h).drop l))) lo hi
 | _=>.any
def Ye6 (i:Nat):V->V
 | .tup xs=>xs.getD i .any
 | _=>.any
def Yfi (t:Nat)(z:D):V->V
 | .iface t' v=>if t'=t then .tup [v,.d (.bool true)] else .tup [.d z,.d (.bool false)]
 | .d (.iface t' x)=>if t'=t then .tup [.d x,.d (.bool true)] else .tup [.d z,.d (.bool false)]
 | .d .nili=>.tup [.d z,.d (.bool false)]
 | _=>.any

def Ye5 (e:Bool):V->V->V
 | .d x,.d y=>.d (.bool (D.eqb x y==e))
 | _,_=>.any
def Xq8:V->V->V
 | .d (.agg xs),.d (.int _ n)=>.d (xs.getD n.toNat default)
 | _,_=>.any

def C.val (sl:Xf)(ob:Xa):C->V
 | .mv x=>x.ev sl
 | .pick c a b=>Xcw (c.ev sl) (a.ev sl) (b.ev sl)
 | .not x=>Yeb (x.ev sl)
 | .neg x=>Yym (x.ev sl)
 | .cpl x=>Yut (x.ev sl)
 | .mx x y=>mxV (x.ev sl) (y.ev sl)
 | .bin op x y=>X79 op (x.ev sl) (y.ev sl)
 | .beq e x y=>Yuj e (x.ev sl) (y.ev sl)
 | .isnil e x=>Ja e (x.ev sl)
 | .pnil e x=>Yem e (x.ev sl)
 | .fnil e x=>X9o e (x.ev sl)
 | .peq e _ _=>.d (.bool e)
 | .usd x=>Zi3 (x.ev sl)
 | .cvi k x=>X8z k (x.ev sl)
 | .cvs x=>Yuu (x.ev sl)
 | .idx x i=>Yg3 (x.ev sl) (i.ev sl)
 | .idxA z x i=>Xir z (x.ev sl) (i.ev sl)
 | .idxP _ _ x i=>Xfh (x.ev sl) (i.ev sl)
 | .fldA f fo x=>Xk4 f fo (x.ev sl)
 | .fld f _ _ _ x=>Zcl f (x.ev sl).kids
 | .ld _ _ x=>ldV ob (x.ev sl)
 | .ldd _ _ x=>ldV ob (x.ev sl)
 | .nilc x=>x.ev sl
 | .lenS x=>Xlh (x.ev sl)
 | .lenL x=>Uz (x.ev sl)
 | .lenA n=>.d (.int .i64 n)
 | .slcS x lo hi=>Jv (lo.map (A.ev sl)) (hi.map (A.ev sl)) (x.ev sl)
 | .slcL _ x lo hi=>Y27 (lo.map (A.ev sl)) (hi.map (A.ev sl)) (x.ev sl)
 | .ext x i=>Ye6 i (x.ev sl)
 | .bld _ _=>.any
 | .mkf f first cap=>X59 f (first.map (A.ev sl)) (cap.map (A.ev sl))
 | .mki t x=>X4g t (x.ev sl)
 | .tas t z x=>Yfi t z (x.ev sl)
 | .eqD _ e x y=>Ye5 e (x.ev sl) (y.ev sl)
 | .aix _ _ _ x i=>Xq8 (x.ev sl) (i.ev sl)

def C.ok (sl:Xf)(ob:Xa)(c:C):Prop:=c.wp sl ob fun v=>v=c.val sl ob

theorem Xv9 {op:BinOp}{k k':IntKind}{a b:Int}{K K':V->Prop}(hk:∀v,K v->K' v)(h:X0d op k k' a b K):X0d op k k' a b K':=by
 cases op<;>simp only[X0d]at h⊢<;>first | exact⟨h.1,hk _ h.2⟩ | exact⟨h.1,h.2.1,hk _ h.2.2⟩
theorem Xzt {op:BinOp}{a b:List UInt8}{K K':V->Prop}(hk:∀v,K v->K' v)(h:Xsb op a b K):Xsb op a b K':=by
 cases op<;>simp only[Xsb]at h⊢<;>first | exact hk _ h | exact⟨h.1,hk _ h.2⟩ | exact h.elim
theorem Xb3 {n:Nat}{K K':Nat->Nat->Prop}(hk:∀l h,K l h->K' l h){lo hi:Option V}(h:Qy n K lo hi):Qy n K' lo hi:=by
 unfold Qy at h⊢
 split<;>simp_all
theorem V9 {K K':List V->Prop}(hk:∀l,K l->K' l):∀(ps:List (Nat×V)) (ks:List V),Qx ks ps K->Qx ks ps K'
 | [],_,h=>hk _ h
 | (_,_)::r,_,h=>⟨h.1,h.2.1,h.2.2.1,V9 hk r _ h.2.2.2⟩
theorem C.wp_mono {sl:Xf}{ob:Xa}{K K':V->Prop}(hk:∀v,K v->K' v)(c:C)(h:c.wp sl ob K):c.wp sl ob K':=by
 cases c<;>simp only[C.wp]at h⊢
 case mv=>exact hk _ h
 case lenA=>exact hk _ h
 case mkf=>exact hk _ h
 case mki=>exact hk _ h
 case bld=>exact V9 (fun _=>hk _) _ _ h
 case bin x y=>
  generalize A.ev sl x=v at h⊢; generalize A.ev sl y=u at h⊢
  unfold Xn5 at h; split at h
  ·exact Xv9 hk h
  ·exact Xzt hk h
  ·exact h.elim
 case slcS x lo hi=>
  generalize A.ev sl x=v at h⊢
  unfold Xdk at h; split at h
  ·exact Xb3 (fun _ _=>hk _) h
  ·exact h.elim
 case slcL x lo hi=>
  generalize A.ev sl x=v at h⊢
  unfold Xg2 at h; split at h
  ·exact⟨h.1,Xb3 (fun _ _=>hk _) h.2⟩
  ·exact h.elim
 case pick x y z=>
  generalize A.ev sl x=v at h⊢; generalize A.ev sl y=u at h⊢; generalize A.ev sl z=t at h⊢
  unfold Xah at h; split at h
  ·exact hk _ h
  ·rename_i hn; simp only[Xah]; exact⟨fun e=>hk _ (h.1 e),fun e=>hk _ (h.2 e)⟩
  ·exact h.elim
 case fld x=>
  generalize (A.ev sl x).kids=v at h⊢
  unfold X9n at h; split at h
  ·exact⟨h.1,h.2.1,h.2.2.1,h.2.2.2.1,hk _ h.2.2.2.2⟩
  ·exact h.elim
 case fldA x=>
  generalize A.ev sl x=v at h⊢
  unfold V6 at h; split at h
  ·simp only[V6]
   generalize Zk _=v at h⊢
   unfold Q3 at h; split at h
   ·exact⟨h.1,h.2.1,hk _ h.2.2⟩
   ·exact h.elim
  ·exact⟨h.1,h.2.1,hk _ h.2.2⟩
  ·exact hk _ h
  ·exact h.elim
 case ld x=>
  generalize A.ev sl x=v at h⊢
  unfold ldK at h; split at h
  ·simp only[ldK]
   generalize atO _ _ _=v at h⊢
   unfold Xi2 at h; split at h
   ·exact⟨h.1,h.2.1,hk _ h.2.2⟩
   ·exact h.elim
  ·exact⟨h.1,h.2.1,hk _ h.2.2⟩
  ·simp only[ldK]
   generalize atE _ _ _ _ _ _ _=v at h⊢
   unfold Xi2 at h; split at h
   ·exact⟨h.1,h.2.1,hk _ h.2.2⟩
   ·exact h.elim
  ·exact h.elim
 case tas x=>
  generalize A.ev sl x=v at h⊢
  unfold X46 at h; split at h
  ·exact⟨fun e=>hk _ (h.1 e),fun e=>hk _ (h.2 e)⟩
  ·exact⟨fun e=>hk _ (h.1 e),fun e=>hk _ (h.2 e)⟩
  ·exact hk _ h
  ·exact h.elim
 case pnil x=>generalize A.ev sl x=v at h⊢; unfold Xmx at h; split at h<;>first | exact hk _ h | exact h.elim
 case fnil x=>generalize A.ev sl x=v at h⊢; unfold Xk5 at h; split at h<;>first | exact hk _ h | exact h.elim
 case usd x=>generalize A.ev sl x=v at h⊢; unfold Yez at h; split at h<;>first | exact⟨h.1,hk _ h.2⟩ | exact hk _ h | exact h.elim
 case peq x y=>generalize A.ev sl x=v at h⊢; generalize A.ev sl y=u at h⊢; unfold Yfc at h; split at h<;>first | exact⟨h.1,h.2.1,h.2.2.1,hk _ h.2.2.2⟩ | exact h.elim
 case not x=>generalize A.ev sl x=v at h⊢; unfold Xx5 at h; split at h<;>first | exact hk _ h | exact h.elim
 case cpl x=>generalize A.ev sl x=v at h⊢; unfold X8x at h; split at h<;>first | exact hk _ h | exact h.elim
 case mx x y=>generalize A.ev sl x=v at h⊢; generalize A.ev sl y=u at h⊢; unfold mxK at h; split at h<;>first | exact hk _ h | exact h.elim
 case neg x=>generalize A.ev sl x=v at h⊢; unfold Yea at h; split at h<;>first | exact hk _ h | exact h.elim
 case isnil x=>generalize A.ev sl x=v at h⊢; unfold Vh at h; split at h<;>first | exact hk _ h | exact h.elim
 case cvi x=>generalize A.ev sl x=v at h⊢; unfold Xue at h; split at h<;>first | exact hk _ h | exact h.elim
 case cvs x=>generalize A.ev sl x=v at h⊢; unfold X80 at h; split at h<;>first | exact hk _ h | exact h.elim
 case nilc x=>generalize A.ev sl x=v at h⊢; unfold Xbb at h; split at h<;>first | exact hk _ h | exact h.elim
 case lenS x=>generalize A.ev sl x=v at h⊢; unfold Xcl at h; split at h<;>first | exact hk _ h | exact h.elim
 case lenL x=>generalize A.ev sl x=v at h⊢; unfold Jd at h; split at h<;>first | exact hk _ h | exact⟨h.1,hk _ h.2⟩ | exact h.elim
 case ext x _=>generalize A.ev sl x=v at h⊢; unfold X0a at h; split at h<;>first | exact⟨h.1,hk _ h.2⟩ | exact h.elim
 case ldd x=>generalize A.ev sl x=v at h⊢; unfold Yfa at h; split at h<;>first | exact⟨h.1,h.2.1,hk _ h.2.2⟩ | exact h.elim
 case eqD x y=>generalize A.ev sl x=v at h⊢; generalize A.ev sl y=u at h⊢; unfold Ygt at h; split at h<;>first | exact⟨h.1,h.2.1,hk _ h.2.2⟩ | exact h.elim
 case aix x y=>generalize A.ev sl x=v at h⊢; generalize A.ev sl y=u at h⊢; unfold Xlb at h; split at h<;>first | exact⟨h.1,h.2.1,h.2.2.1,hk _ h.2.2.2⟩ | exact h.elim
 case beq x y=>generalize A.ev sl x=v at h⊢; generalize A.ev sl y=u at h⊢; unfold X77 at h; split at h<;>first | exact hk _ h | exact h.elim
 case idx x y=>generalize A.ev sl x=v at h⊢; generalize A.ev sl y=u at h⊢; unfold X0b at h; split at h<;>first | exact⟨h.1,hk _ h.2⟩ | exact h.elim
 case idxA x y=>generalize A.ev sl x=v at h⊢; generalize A.ev sl y=u at h⊢; unfold Xa9 at h; split at h<;>first | exact⟨h.1,h.2.1,hk _ h.2.2⟩ | exact h.elim
 case idxP x y=>generalize A.ev sl x=v at h⊢; generalize A.ev sl y=u at h⊢; unfold Xba at h; split at h<;>first | exact⟨h.1,h.2.1,hk _ h.2.2⟩ | exact⟨h.1,h.2.1,h.2.2.1,hk _ h.2.2.2⟩ | exact h.elim
theorem C.wp_of {sl:Xf}{ob:Xa}{K:V->Prop}{c:C}(h:c.ok sl ob)(hK:K (c.val sl ob)):c.wp sl ob K:=
 C.wp_mono (fun _ e=>e▸hK) c h
end Go.Ab
namespace Go.Ab
open Go

inductive E where
 | a (x:A)
 | u (c:C) (x:E)
 | b (c:C) (x y:E)
 | t (c:C) (x y z:E)
 | ite (c x y:E)
 | call (f:Nat) (x:E)
 | nil
 | cons (x r:E)

structure Fn where
 pre:List V->Prop
 val:List V->V
abbrev Tab:=List (Nat×Fn)
def Je:Tab->Nat->Option Fn
 | [],_=>none
 | (j,x)::r,k=>if j=k then some x else Je r k
def TOk (P:Prg)(T:Tab):Prop:=∀f F,Je T f=some F->∀vs,F.pre vs->∀(ob:Xa) (K:V->Prop),K (F.val vs)->PCall P f vs ob K

def isB (pol:Bool):V->Bool
 | .d (.bool b)=>b==pol
 | _=>false
def Xb4:V->Prop
 | .d (.bool _)=>True
 | _=>False
def Xuc (x:V):V->V
 | .tup xs=>.tup (x::xs)
 | _=>.any
def X1m:Option Fn->V->V
 | some F,.tup vs=>F.val vs
 | _,_=>.any
def X1l:Option Fn->V->Prop
 | some F,.tup vs=>F.pre vs
 | _,_=>False

def E.val (T:Tab)(sl:Xf)(ob:Xa):E->V
 | .a x=>x.ev sl
 | .u c x=>c.val [(0,x.val T sl ob)] ob
 | .b c x y=>c.val [(0,x.val T sl ob),(1,y.val T sl ob)] ob
 | .t c x y z=>c.val [(0,x.val T sl ob),(1,y.val T sl ob),(2,z.val T sl ob)] ob
 | .ite c x y=>Xcw (c.val T sl ob) (x.val T sl ob) (y.val T sl ob)
 | .call f x=>X1m (Je T f) (x.val T sl ob)
 | .nil=>.tup []
 | .cons x r=>Xuc (x.val T sl ob) (r.val T sl ob)
def E.ok (T:Tab)(sl:Xf)(ob:Xa):E->Prop
 | .a _=>True
 | .u c x=>x.ok T sl ob/\c.ok [(0,x.val T sl ob)] ob
 | .b c x y=>x.ok T sl ob/\y.ok T sl ob/\c.ok [(0,x.val T sl ob),(1,y.val T sl ob)] ob
 | .t c x y z=>x.ok T sl ob/\y.ok T sl ob/\z.ok T sl ob/\c.ok [(0,x.val T sl ob),(1,y.val T sl ob),(2,z.val T sl ob)] ob
 | .ite c x y=>c.ok T sl ob/\Xb4 (c.val T sl ob)/\(isB true (c.val T sl ob)=true->x.ok T sl ob)/\(isB false (c.val T sl ob)=true->y.ok T sl ob)
 | .call f x=>x.ok T sl ob/\X1l (Je T f) (x.val T sl ob)
 | .nil=>True
 | .cons x r=>x.ok T sl ob/\r.ok T sl ob

def A.men (k:Nat):A->Bool
 | .t j=>j==k
 | _=>false
def E.men (k:Nat):E->Bool
 | .a x=>x.men k
 | .u _ x=>x.men k
 | .b _ x y=>x.men k||y.men k
 | .t _ x y z=>x.men k||y.men k||z.men k
 | .ite x y z=>x.men k||y.men k||z.men k
 | .call _ x=>x.men k
 | .nil=>false
 | .cons x y=>x.men k||y.men k
def C.rd:C->Bool
 | .ld _ _ _=>true
 | .ldd _ _ _=>true
 | _=>false
def E.rd:E->Bool
 | .a _=>false
 | .u c x=>c.rd||x.rd
 | .b c x y=>c.rd||x.rd||y.rd
 | .t c x y z=>c.rd||x.rd||y.rd||z.rd
 | .ite x y z=>x.rd||y.rd||z.rd
 | .call _ x=>x.rd
 | .nil=>false
 | .cons x y=>x.rd||y.rd
def E.isA:E->Bool
 | .a _=>true
 | _=>false

theorem E.val_sl {T:Tab}{sl:Xf}{ob:Xa}{k:Nat}{v:V}:∀{e:E},e.men k=false->e.val T ((k,v)::sl) ob=e.val T sl ob
 | .a x,h=>by
  cases x<;>simp only[E.val,A.ev]
  rename_i j
  simp only[E.men,A.men,beq_eq_false_iff_ne,ne_eq]at h
  have h':¬k=j:=fun e=>h e.symm
  simp[look,h']
 | .u c x,h=>by simp only[E.men]at h; simp only[E.val,E.val_sl h]
 | .b c x y,h=>by simp only[E.men,Bool.or_eq_false_iff]at h; simp only[E.val,E.val_sl h.1,E.val_sl h.2]
 | .t c x y z,h=>by simp only[E.men,Bool.or_eq_false_iff]at h; simp only[E.val,E.val_sl h.1.1,E.val_sl h.1.2,E.val_sl h.2]
 | .ite x y z,h=>by simp only[E.men,Bool.or_eq_false_iff]at h; simp only[E.val,E.val_sl h.1.1,E.val_sl h.1.2,E.val_sl h.2]
 | .call f x,h=>by simp only[E.men]at h; simp only[E.val,E.val_sl h]
 | .nil,_=>rfl
 | .cons x y,h=>by simp only[E.men,Bool.or_eq_false_iff]at h; simp only[E.val,E.val_sl h.1,E.val_sl h.2]
theorem C.val_ob {sl:Xf}{ob ob':Xa}{c:C}(h:c.rd=false):c.val sl ob=c.val sl ob':=by
 cases c<;>simp_all[C.rd,C.val]
theorem E.val_ob {T:Tab}{sl:Xf}{ob ob':Xa}:∀{e:E},e.rd=false->e.val T sl ob=e.val T sl ob'
 | .a x,h=>rfl
 | .u c x,h=>by simp only[E.rd,Bool.or_eq_false_iff]at h; simp only[E.val,E.val_ob (ob':=ob') h.2,C.val_ob (ob':=ob') h.1]
 | .b c x y,h=>by simp only[E.rd,Bool.or_eq_false_iff]at h; simp only[E.val,E.val_ob (ob':=ob') h.1.2,E.val_ob (ob':=ob') h.2,C.val_ob (ob':=ob') h.1.1]
 | .t c x y z,h=>by simp only[E.rd,Bool.or_eq_false_iff]at h; simp only[E.val,E.val_ob (ob':=ob') h.1.1.2,E.val_ob (ob':=ob') h.1.2,E.val_ob (ob':=ob') h.2,C.val_ob (ob':=ob') h.1.1.1]
 | .ite x y z,h=>by simp only[E.rd,Bool.or_eq_false_iff]at h; simp only[E.val,E.val_ob (ob':=ob') h.1.1,E.val_ob (ob':=ob') h.1.2,E.val_ob (ob':=ob') h.2]
 | .call f x,h=>by simp only[E.rd]at h; simp only[E.val,E.val_ob (ob':=ob') h]
 | .nil,_=>rfl
 | .cons x y,h=>by simp only[E.rd,Bool.or_eq_false_iff]at h; simp only[E.val,E.val_ob (ob':=ob') h.1,E.val_ob (ob':=ob') h.2]


abbrev V5:=List (Nat×Bool)
abbrev Sg:=List (Nat×Option (V5×E))
def Wb:Sg->Nat->Option (Option (V5×E))
 | [],_=>none
 | (j,x)::r,k=>if j=k then some x else Wb r k
def ent (σ:Sg)(k:Nat):Option (V5×E):=match Wb σ k with
 | none=>some ([],.a (.t k))
 | some x=>x
def Xt (sl:Xf)(p:V5):Bool:=p.all fun g=>isB g.2 (look sl g.1)
def Zh (T:Tab)(sl:Xf)(ob:Xa)(p:List (E×Bool)):Bool:=p.all fun g=>isB g.2 (g.1.val T sl ob)
def Inv (T:Tab)(σ:Sg)(sl sl0:Xf)(ob:Xa):Prop:=∀k p e,ent σ k=some (p,e)->
 (Xt sl p=true->look sl k=e.val T sl0 ob)/\(Xt sl p=false->look sl k=.undef)

def opE (σ:Sg)(p:V5):A->Option E
 | .t k=>match ent σ k with
  | some (q,e)=>if q.isPrefixOf p then some e else none
  | none=>none
 | x=>some (.a x)
def Wa (σ:Sg)(p:V5)(c:C)(x:A):Option E:=match opE σ p x with
 | some x=>some (.u c x)
 | none=>none
def Ue (σ:Sg)(p:V5)(c:C)(x y:A):Option E:=match opE σ p x,opE σ p y with
 | some x,some y=>some (.b c x y)
 | _,_=>none
def Xrc (σ:Sg)(p:V5)(c:C)(x y z:A):Option E:=match opE σ p x,opE σ p y,opE σ p z with
 | some x,some y,some z=>some (.t c x y z)
 | _,_,_=>none
def Yej (σ:Sg)(p:V5)(g:Nat)(x y:A):Option E:=match opE σ p (.t g),opE σ (p++[(g,true)]) x,opE σ (p++[(g,false)]) y with
 | some c,some x,some y=>some (.ite c x y)
 | _,_,_=>none
def Xko (σ:Sg)(p:V5):List A->Option E
 | []=>some .nil
 | x::r=>match opE σ p x,Xko σ p r with
  | some x,some r=>some (.cons x r)
  | _,_=>none

def C.lift (σ:Sg)(p:V5):C->Option E
 | .mv x=>opE σ p x
 | .pick (.t g) x y=>Yej σ p g x y
 | .pick _ _ _=>none
 | .not x=>Wa σ p (.not (.t 0)) x
 | .neg x=>Wa σ p (.neg (.t 0)) x
 | .cpl x=>Wa σ p (.cpl (.t 0)) x
 | .mx x y=>Ue σ p (.mx (.t 0) (.t 1)) x y
 | .bin o x y=>Ue σ p (.bin o (.t 0) (.t 1)) x y
 | .beq e x y=>Ue σ p (.beq e (.t 0) (.t 1)) x y
 | .isnil e x=>Wa σ p (.isnil e (.t 0)) x
 | .pnil e x=>Wa σ p (.pnil e (.t 0)) x
 | .fnil e x=>Wa σ p (.fnil e (.t 0)) x
 | .peq e x y=>Ue σ p (.peq e (.t 0) (.t 1)) x y
 | .usd x=>Wa σ p (.usd (.t 0)) x
 | .cvi k x=>Wa σ p (.cvi k (.t 0)) x
 | .cvs x=>Wa σ p (.cvs (.t 0)) x
 | .idx x i=>Ue σ p (.idx (.t 0) (.t 1)) x i
 | .idxA z x i=>Ue σ p (.idxA z (.t 0) (.t 1)) x i
 | .idxP n z x i=>Ue σ p (.idxP n z (.t 0) (.t 1)) x i
 | .fldA f fo x=>Wa σ p (.fldA f fo (.t 0)) x
 | .fld f fo n ag x=>Wa σ p (.fld f fo n ag (.t 0)) x
 | .ld n ag x=>Wa σ p (.ld n ag (.t 0)) x
 | .nilc x=>Wa σ p (.nilc (.t 0)) x
 | .lenS x=>Wa σ p (.lenS (.t 0)) x
 | .lenL x=>Wa σ p (.lenL (.t 0)) x
 | .lenA n=>some (.a (.int .i64 n))
 | .slcS x none none=>Wa σ p (.slcS (.t 0) none none) x
 | .slcS x (some l) none=>Ue σ p (.slcS (.t 0) (some (.t 1)) none) x l
 | .slcS x none (some h)=>Ue σ p (.slcS (.t 0) none (some (.t 1))) x h
 | .slcS x (some l) (some h)=>Xrc σ p (.slcS (.t 0) (some (.t 1)) (some (.t 2))) x l h
 | .slcL z x none none=>Wa σ p (.slcL z (.t 0) none none) x
 | .slcL z x (some l) none=>Ue σ p (.slcL z (.t 0) (some (.t 1)) none) x l
 | .slcL z x none (some h)=>Ue σ p (.slcL z (.t 0) none (some (.t 1))) x h
 | .slcL z x (some l) (some h)=>Xrc σ p (.slcL z (.t 0) (some (.t 1)) (some (.t 2))) x l h
 | .ext x i=>Wa σ p (.ext (.t 0) i) x
 | .mki t x=>Wa σ p (.mki t (.t 0)) x
 | .tas t z x=>Wa σ p (.tas t z (.t 0)) x
 | .eqD ty e x y=>Ue σ p (.eqD ty e (.t 0) (.t 1)) x y
 | .aix n z ag x i=>Ue σ p (.aix n z ag (.t 0) (.t 1)) x i
 | .ldd n ag x=>Wa σ p (.ldd n ag (.t 0)) x
 | .bld _ _=>none
 | .mkf _ _ _=>none
def I.lift (fs:List Nat)(σ:Sg)(p:V5):I->Option E
 | .c x=>x.lift σ p
 | .pcall f args=>if fs.contains f then (match Xko σ p args with | some e=>some (.call f e) | none=>none) else none
 | _=>none

def Xc7 (σ:Sg)(p:V5):A->List Nat
 | .t k=>match ent σ k with
  | some (q,_)=>if q==p then[k] else[]
  | none=>[]
 | _=>[]
def Yr5 (σ:Sg)(p:V5):List A->List Nat
 | []=>[]
 | x::r=>Xc7 σ p x++Yr5 σ p r
def C.cons (σ:Sg)(p:V5):C->List Nat
 | .mv x | .not x | .neg x | .cpl x | .isnil _ x | .pnil _ x | .fnil _ x | .usd x | .cvi _ x | .cvs x | .fldA _ _ x | .fld _ _ _ _ x | .ld _ _ x | .ldd _ _ x | .nilc x | .lenS x | .lenL x | .ext x _ | .mki _ x | .tas _ _ x=>Xc7 σ p x
 | .bin _ x y | .mx x y | .beq _ x y | .peq _ x y | .idx x y | .idxA _ x y | .idxP _ _ x y | .eqD _ _ x y | .aix _ _ _ x y=>Xc7 σ p x++Xc7 σ p y
 | .slcS x none none | .slcL _ x none none=>Xc7 σ p x
 | .slcS x (some y) none | .slcL _ x (some y) none | .slcS x none (some y) | .slcL _ x none (some y)=>Xc7 σ p x++Xc7 σ p y
 | .slcS x (some y) (some z) | .slcL _ x (some y) (some z)=>Xc7 σ p x++Xc7 σ p y++Xc7 σ p z
 | .pick (.t g) x y=>Xc7 σ p (.t g)++Xc7 σ (p++[(g,true)]) x++Xc7 σ (p++[(g,false)]) y
 | _=>[]
def I.cons (σ:Sg)(p:V5):I->List Nat
 | .c x=>x.cons σ p
 | .pcall _ args=>Yr5 σ p args
 | _=>[]
def I.gcons (σ:Sg)(p:V5):I->List Nat
 | .c (.pick (.t g) _ _)=>Xc7 σ p (.t g)
 | _=>[]

section
variable {P:Prg} {T:Tab} {σ:Sg} {sl sl0:Xf} {ob:Xa} {p:V5}

theorem Xav {q:V5}(h:q.isPrefixOf p=true)(hp:Xt sl p=true):Xt sl q=true:=by
 rw[List.isPrefixOf_iff_prefix]at h
 obtain⟨t,rfl⟩:=h
 simp only[Xt,List.all_append,Bool.and_eq_true]at hp⊢
 exact hp.1
theorem Zv (hI:Inv T σ sl sl0 ob)(hp:Xt sl p=true){x:A}{e:E}(h:opE σ p x=some e):e.val T sl0 ob=x.ev sl:=by
 cases x with
 | t k=>
  simp only[opE]at h
  split at h
  ·rename_i q e' he
   split at h
   ·rename_i hq
    cases h
    exact ((hI k q e he).1 (Xav hq hp)).symm
   ·cases h
  ·cases h
 | _=>simp only[opE]at h; cases h; rfl
theorem Xpf {c:C}{x:A}{e:E}(h:Wa σ p c x=some e):∃ex,e=.u c ex/\opE σ p x=some ex:=by
 unfold Wa at h; split at h
 ·cases h; exact⟨_,rfl,by assumption⟩
 ·cases h
theorem Xpg {c:C}{x y:A}{e:E}(h:Ue σ p c x y=some e):∃ex ey,e=.b c ex ey/\opE σ p x=some ex/\opE σ p y=some ey:=by
 unfold Ue at h; split at h
 ·cases h; exact⟨_,_,rfl,by assumption,by assumption⟩
 ·cases h
theorem Xph {c:C}{x y z:A}{e:E}(h:Xrc σ p c x y z=some e):∃ex ey ez,e=.t c ex ey ez/\opE σ p x=some ex/\opE σ p y=some ey/\opE σ p z=some ez:=by
 unfold Xrc at h; split at h
 ·cases h; exact⟨_,_,_,rfl,by assumption,by assumption,by assumption⟩
 ·cases h
theorem Xgx {g:Nat}{x y:A}{e:E}(h:Yej σ p g x y=some e):∃ec ex ey,e=.ite ec ex ey/\opE σ p (.t g)=some ec/\opE σ (p++[(g,true)]) x=some ex/\opE σ (p++[(g,false)]) y=some ey:=by
 unfold Yej at h; split at h
 ·cases h; exact⟨_,_,_,rfl,by assumption,by assumption,by assumption⟩
 ·cases h
theorem Xhm (hI:Inv T σ sl sl0 ob)(hp:Xt sl p=true):∀{xs:List A} {e:E},Xko σ p xs=some e->e.val T sl0 ob=.tup (xs.map (A.ev sl))
 | [],e,h=>by simp only[Xko]at h; cases h; rfl
 | x::r,e,h=>by
  simp only[Xko]at h
  split at h
  ·rename_i ex er hx hr
   cases h
   simp only[E.val,Zv hI hp hx,Xhm hI hp hr,Xuc,List.map_cons]
  ·cases h
theorem Xyg (x y:V):Xcw (.d (.bool true)) x y=x:=by unfold Xcw; split<;>simp_all
theorem Xye (x y:V):Xcw (.d (.bool false)) x y=y:=by unfold Xcw; split<;>simp_all
theorem Xyf {v:V}(h:¬Xb4 v)(x y:V):Xcw v x y=.any:=by unfold Xcw; split<;>simp_all[Xb4]
theorem Xez {v:V}(h:Xb4 v):v=.d (.bool true)\/v=.d (.bool false):=by
 unfold Xb4 at h; split at h
 ·rename_i b; cases b<;>simp
 ·exact h.elim

theorem C.lift_sound (hI:Inv T σ sl sl0 ob)(hp:Xt sl p=true){c:C}{e:E}(h:c.lift σ p=some e):e.val T sl0 ob=c.val sl ob/\(e.ok T sl0 ob->c.ok sl ob):=by
 have l1:∀{c x},Wa σ p c x=some e->∃ex,e=.u c ex/\ex.val T sl0 ob=x.ev sl:=fun h=>by
  obtain⟨ex,rfl,hx⟩:=Xpf h; exact⟨ex,rfl,Zv hI hp hx⟩
 have l2:∀{c x y},Ue σ p c x y=some e->∃ex ey,e=.b c ex ey/\ex.val T sl0 ob=x.ev sl/\ey.val T sl0 ob=y.ev sl:=fun h=>by
  obtain⟨ex,ey,rfl,hx,hy⟩:=Xpg h; exact⟨ex,ey,rfl,Zv hI hp hx,Zv hI hp hy⟩
 have l3:∀{c x y z},Xrc σ p c x y z=some e->∃ex ey ez,e=.t c ex ey ez/\ex.val T sl0 ob=x.ev sl/\ey.val T sl0 ob=y.ev sl/\ez.val T sl0 ob=z.ev sl:=fun h=>by
  obtain⟨ex,ey,ez,rfl,hx,hy,hz⟩:=Xph h; exact⟨ex,ey,ez,rfl,Zv hI hp hx,Zv hI hp hy,Zv hI hp hz⟩
 unfold C.lift at h
 split at h
 case h_1=>exact⟨by rw[Zv hI hp h]; rfl,fun _=>rfl⟩
 case h_2 g x y=>
  obtain⟨ec,ex,ey,rfl,hc,hx,hy⟩:=Xgx h
  have hcv:=Zv hI hp hc
  simp only[A.ev]at hcv
  have hpt:∀b,look sl g=.d (.bool b)->Xt sl (p++[(g,b)])=true:=fun b hb=>by
   simp only[Xt,List.all_append,Bool.and_eq_true]at hp⊢
   exact⟨hp,by simp[hb,isB]⟩
  simp only[E.val,E.ok,C.val,C.ok,C.wp,Ysm,hcv]
  by_cases hb:Xb4 (look sl g)
  ·rcases Xez hb with hb | hb
   ·have:=Zv hI (hpt true hb) hx
    rw[hb]; simp only[Xyg,Yel,this]; exact⟨trivial,fun _=>trivial⟩
   ·have:=Zv hI (hpt false hb) hy
    rw[hb]; simp only[Xye,Yek,this]; exact⟨trivial,fun _=>trivial⟩
  ·rw[Xyf hb,Xyf hb]; exact⟨rfl,fun h=>(hb h.2.1).elim⟩
 case h_26=>cases h; exact⟨rfl,fun _=>rfl⟩
 all_goals first
  | (cases h; done)
  | (obtain⟨ex,rfl,hx⟩:=l1 h; simp only[E.val,E.ok,C.val,C.ok,C.wp,Ysm,Xlj,hx,Option.map]; exact⟨trivial,fun h=>h.2⟩)
  | (obtain⟨ex,ey,rfl,hx,hy⟩:=l2 h; simp only[E.val,E.ok,C.val,C.ok,C.wp,Ysm,Xlj,Xwq,Nat.reduceBEq,hx,hy,Option.map]; exact⟨trivial,fun h=>h.2.2⟩)
  | (obtain⟨ex,ey,ez,rfl,hx,hy,hz⟩:=l3 h; simp only[E.val,E.ok,C.val,C.ok,C.wp,Ysm,Xlj,Xwq,Nat.reduceBEq,hx,hy,hz,Option.map]; exact⟨trivial,fun h=>h.2.2.2⟩)
end
end Go.Ab
namespace Go.Ab
open Go

section
variable {P:Prg} {T:Tab} {σ:Sg} {sl sl0:Xf} {ob:Xa} {p:V5}

theorem Wd {x:A}{k:Nat}{ex:E}(hk:k∈Xc7 σ p x)(h:opE σ p x=some ex):ent σ k=some (p,ex):=by
 cases x with
 | t j=>
  simp only[Xc7]at hk
  simp only[opE]at h
  split at hk
  ·rename_i q e he
   split at hk
   ·rename_i hq
    simp at hk; subst hk
    simp at hq; subst hq
    rw[he]at h
    simp at h
    rw[he,h]
   ·cases hk
  ·cases hk
 | _=>simp[Xc7]at hk
theorem Yw {g:Nat}{b:Bool}:Xt sl (p++[(g,b)])=(Xt sl p&&isB b (look sl g)):=by
 simp[Xt,List.all_append]
theorem Xqa:∀{xs:List A} {e:E},Xko σ p xs=some e->∀{k q ek},k∈Yr5 σ p xs->ent σ k=some (q,ek)->q=p/\(e.ok T sl0 ob->ek.ok T sl0 ob)
 | [],_,_,k,_,_,hk,_=>by simp[Yr5]at hk
 | x::r,e,h,k,q,ek,hk,he=>by
  simp only[Xko]at h
  split at h
  ·rename_i ex er hx hr
   cases h
   simp only[Yr5,List.mem_append]at hk
   rcases hk with hk | hk
   ·have:=Wd hk hx
    rw[he]at this; cases this
    exact⟨rfl,fun h=>h.1⟩
   ·obtain⟨h1,h2⟩:=Xqa hr hk he
    exact⟨h1,fun h=>h2 h.2⟩
  ·cases h

theorem C.cov (hI:Inv T σ sl sl0 ob){c:C}{e:E}(h:c.lift σ p=some e){k:Nat}{q:V5}{ek:E}(hk:k∈c.cons σ p)(he:ent σ k=some (q,ek))(hq:Xt sl q=true)(ho:Xt sl p=true->e.ok T sl0 ob):ek.ok T sl0 ob:=by
 have l1:∀{c x},Wa σ p c x=some e->k∈Xc7 σ p x->ek.ok T sl0 ob:=fun h hk=>by
  obtain⟨ex,rfl,hx⟩:=Xpf h
  have:=Wd hk hx
  rw[he]at this; cases this
  exact (ho hq).1
 have l2:∀{c x y},Ue σ p c x y=some e->k∈Xc7 σ p x++Xc7 σ p y->ek.ok T sl0 ob:=fun h hk=>by
  obtain⟨ex,ey,rfl,hx,hy⟩:=Xpg h
  rw[List.mem_append]at hk
  rcases hk with hk | hk
  ·have:=Wd hk hx
   rw[he]at this; cases this
   exact (ho hq).1
  ·have:=Wd hk hy
   rw[he]at this; cases this
   exact (ho hq).2.1
 have l3:∀{c x y z},Xrc σ p c x y z=some e->k∈Xc7 σ p x++Xc7 σ p y++Xc7 σ p z->ek.ok T sl0 ob:=fun h hk=>by
  obtain⟨ex,ey,ez,rfl,hx,hy,hz⟩:=Xph h
  rw[List.mem_append,List.mem_append]at hk
  rcases hk with (hk | hk) | hk
  ·have:=Wd hk hx
   rw[he]at this; cases this
   exact (ho hq).1
  ·have:=Wd hk hy
   rw[he]at this; cases this
   exact (ho hq).2.1
  ·have:=Wd hk hz
   rw[he]at this; cases this
   exact (ho hq).2.2.1
 unfold C.lift at h
 split at h<;>simp only[C.cons]at hk
 case h_1=>
  have:=Wd hk h
  rw[he]at this; cases this
  exact ho hq
 case h_2 g x y=>
  obtain⟨ec,ex,ey,rfl,hc,hx,hy⟩:=Xgx h
  rw[List.mem_append,List.mem_append]at hk
  rcases hk with (hk | hk) | hk
  ·have:=Wd hk hc
   rw[he]at this; cases this
   exact (ho hq).1
  ·have:=Wd hk hx
   rw[he]at this; cases this
   rw[Yw,Bool.and_eq_true]at hq
   have hv:=Zv hI hq.1 hc
   exact (ho hq.1).2.2.1 (by rw[hv]; exact hq.2)
  ·have:=Wd hk hy
   rw[he]at this; cases this
   rw[Yw,Bool.and_eq_true]at hq
   have hv:=Zv hI hq.1 hc
   exact (ho hq.1).2.2.2 (by rw[hv]; exact hq.2)
 all_goals first
  | (cases h; done)
  | exact l1 h hk
  | exact l2 h hk
  | exact l3 h hk
  | (cases hk; done)
theorem I.cov (hI:Inv T σ sl sl0 ob){fs:List Nat}{i:I}{e:E}(h:i.lift fs σ p=some e){k:Nat}{q:V5}{ek:E}(hk:k∈i.cons σ p)(he:ent σ k=some (q,ek))(hq:Xt sl q=true)(ho:Xt sl p=true->e.ok T sl0 ob):ek.ok T sl0 ob:=by
 cases i<;>simp only[I.lift]at h<;>simp only[I.cons]at hk
 case c x=>exact C.cov hI h hk he hq ho
 case pcall f args=>
  split at h
  ·split at h
   ·rename_i e' ha
    cases h
    obtain⟨rfl,h2⟩:=Xqa (T:=T) (sl0:=sl0) (ob:=ob) ha hk he
    exact h2 (ho hq).1
   ·cases h
  ·cases h
 all_goals cases h
theorem I.gcov {fs:List Nat}{i:I}{e:E}(h:i.lift fs σ p=some e){k:Nat}{q:V5}{ek:E}(hk:k∈i.gcons σ p)(he:ent σ k=some (q,ek))(hq:Xt sl q=true)(ho:Xt sl p=true->e.ok T sl0 ob):Xb4 (ek.val T sl0 ob):=by
 unfold I.gcons at hk
 split at hk
 ·rename_i g x y
  simp only[I.lift,C.lift]at h
  obtain⟨ec,ex,ey,rfl,hc,hx,hy⟩:=Xgx h
  have:=Wd hk hc
  rw[he]at this; cases this
  exact (ho hq).2.1
 ·cases hk
theorem I.lift_sound (hT:TOk P T)(hI:Inv T σ sl sl0 ob)(hp:Xt sl p=true){fs:List Nat}{i:I}{e:E}(h:i.lift fs σ p=some e)(ho:e.ok T sl0 ob){KO Pn:V->Xa->Prop}(hK:KO (e.val T sl0 ob) ob):i.wp P sl ob KO Pn:=by
 cases i<;>simp only[I.lift]at h
 case c x=>
  obtain⟨h1,h2⟩:=C.lift_sound hI hp h
  simp only[I.wp]
  exact C.wp_of (h2 ho) (by rw[<-h1]; exact hK)
 case pcall f args=>
  split at h
  ·split at h
   ·rename_i e' ha
    cases h
    have hv:=Xhm hI hp ha
    simp only[E.ok,E.val,hv]at ho hK
    simp only[I.wp]
    cases hf:Je T f with
    | none=>rw[hf]at ho; exact ho.2.elim
    | some F=>rw[hf]at ho hK; exact hT f F hf _ ho.2 _ _ hK
   ·cases h
  ·cases h
 all_goals cases h

theorem Inv.congr {sl':Xf}(hI:Inv T σ sl sl0 ob)(h:∀k,look sl' k=look sl k):Inv T σ sl' sl0 ob:=by
 intro k p e he
 have:Xt sl' p=Xt sl p:=by simp only[Xt,h]
 rw[this,h]
 exact hI k p e he

def Vu (d:Nat)(p:V5):Bool:=p.all fun g=>g.1 != d
def Xk6 (σ:Sg)(d:Nat):Bool:=σ.all fun x=>match x.2 with
 | some (p,_)=>Vu d p
 | none=>true
theorem Vg {d:Nat}{v:V}(h:Vu d p=true):Xt ((d,v)::sl) p=Xt sl p:=by
 induction p with
 | nil=>rfl
 | cons g r ih=>
  simp only[Vu,List.all_cons,Bool.and_eq_true]at h
  simp only[Xt,List.all_cons]at ih⊢
  have:look ((d,v)::sl) g.1=look sl g.1:=by
   have:=h.1; simp at this
   have h':¬d=g.1:=fun e=>this e.symm
   simp[look,h']
  rw[this,ih h.2]
theorem Xd7:∀{σ:Sg} {d k:Nat} {p:V5} {e:E},Xk6 σ d=true->Wb σ k=some (some (p,e))->Vu d p=true
 | [],_,_,_,_,_,h=>by simp[Wb]at h
 | (j,x)::r,d,k,p,e,hg,h=>by
  simp only[Xk6,List.all_cons,Bool.and_eq_true]at hg
  simp only[Wb]at h
  split at h
  ·cases h; exact hg.1
  ·exact Xd7 (σ:=r) hg.2 h
theorem Q4 {d k:Nat}{q:V5}{e:E}(hg:Xk6 σ d=true)(h:ent σ k=some (q,e)):Vu d q=true:=by
 unfold ent at h
 split at h
 ·cases h; rfl
 ·rename_i x hx; subst h; exact Xd7 hg hx

theorem Zp {k:Nat}{x:Option (V5×E)}:ent ((k,x)::σ) k=x:=by simp[ent,Wb]
theorem Y5 {j k:Nat}{x:Option (V5×E)}(h:k ≠ j):ent ((k,x)::σ) j=ent σ j:=by simp[ent,Wb,h]

end
end Go.Ab
namespace Go.Ab
open Go

inductive It2 where
 | chk (p:List (E×Bool)) (e:E)
 | lt (k:Nat) (p:List (E×Bool)) (e:E)
 | op (d:Option Nat) (i:I)
 | gop (p:List (E×Bool)) (d:Option Nat) (i:I)

def Xg8 (b:Bool)(v:V):V:=if b then v else .undef

def Vn (P:Prg)(T:Tab)(K:Xf->Xa->Prop)(Pn:V->Xf->Xa->Prop):List It2->Xf->Xa->Prop
 | [],sl,ob=>K sl ob
 | .chk p e::r,sl,ob=>(Zh T sl ob p=true->e.ok T sl ob)/\Vn P T K Pn r sl ob
 | .lt k p e::r,sl,ob=>(Zh T sl ob p=true->e.ok T sl ob)/\Vn P T K Pn r ((k,Xg8 (Zh T sl ob p) (e.val T sl ob))::sl) ob
 | .op d i::r,sl,ob=>i.wp P sl ob (fun v ob'=>Vn P T K Pn r (put sl d v) ob') (fun v ob'=>Pn v sl ob')
 | .gop p d i::r,sl,ob=>(Zh T sl ob p=true->i.wp P sl ob (fun v ob'=>Vn P T K Pn r (put sl d v) ob') (fun v ob'=>Pn v sl ob'))/\
   (Zh T sl ob p=false->Vn P T K Pn r (put sl d .undef) ob)

def V7 (T:Tab)(sl:Xf)(ob:Xa):List (Nat×E)->Xf
 | []=>[]
 | (k,e)::r=>(k,e.val T sl ob)::V7 T sl ob r
def Wq (T:Tab)(sl:Xf)(ob:Xa):List (Nat×E)->Prop
 | []=>True
 | (_,e)::r=>e.ok T sl ob/\Wq T sl ob r


def A.slots:A->List Nat
 | .t k=>[k]
 | _=>[]
def Wh:List A->List Nat
 | []=>[]
 | x::r=>x.slots++Wh r
def Xel:Option A->List Nat
 | some x=>x.slots
 | none=>[]
def C.slots:C->List Nat
 | .mv x | .not x | .neg x | .cpl x | .isnil _ x | .pnil _ x | .fnil _ x | .usd x | .cvi _ x | .cvs x | .fldA _ _ x | .fld _ _ _ _ x | .ld _ _ x | .ldd _ _ x | .nilc x | .lenS x | .lenL x | .ext x _ | .mki _ x | .tas _ _ x=>x.slots
 | .bin _ x y | .mx x y | .beq _ x y | .peq _ x y | .idx x y | .idxA _ x y | .idxP _ _ x y | .eqD _ _ x y | .aix _ _ _ x y=>x.slots++y.slots
 | .pick x y z=>x.slots++(y.slots++z.slots)
 | .slcS x l h | .slcL _ x l h=>x.slots++(Xel l++Xel h)
 | .lenA _=>[]
 | .bld _ ps=>Wh (ps.map (·.2))
 | .mkf _ a b=>Wh a++Wh b
def I.slots:I->List Nat
 | .c x=>x.slots
 | .box _ x=>x.slots
 | .boxr _ x=>x.slots
 | .alloc _ _=>[]
 | .bls _ _ ps=>Wh (ps.map (·.2))
 | .blo _ _ _ ps=>Wh (ps.map (·.2))
 | .st _ x y=>x.slots++y.slots
 | .app _ _ _ x y=>x.slots++y.slots
 | .appS _ _ x y=>x.slots++y.slots
 | .call _ l=>Wh l
 | .pcall _ l=>Wh l
 | .xcall _ l=>Wh l
 | .callv x l=>x.slots++Wh l
 | .panic x=>x.slots
 | .b2s x=>x.slots
 | .s2b x=>x.slots
 | .nilo _ _ x=>x.slots
 | .mvf x=>x.slots
 | .ldf _ _ x=>x.slots
 | .mvg _ _ y x _=>y.slots++x.slots
 | .mvn y x _=>y.slots++x.slots
 | .cvb x=>x.slots
 | .ustr _ x y=>x.slots++y.slots
 | .mkm r=>Xel r
 | .lkp _ _ _ m k=>m.slots++k.slots
 | .mset _ m k v=>m.slots++(k.slots++v.slots)
 | .gld _ _ _ _=>[]
 | .slg _ _ x=>x.slots
 | .blv _ _ _ ps=>Wh (ps.map (·.2))
 | .apv _ _ _ x y=>x.slots++y.slots
 | .gv x=>x.slots
 | .ldg _ _ x=>x.slots
 | .slb _ _ x lo hi=>x.slots++(Xel lo++Xel hi)
 | .cpy _ x y=>x.slots++y.slots
 | .clr _ _ x=>x.slots
 | .gix _ _ _ _ i=>i.slots
 | .rng x=>x.slots
 | .nxt x=>x.slots
 | .ety x=>x.slots
 | .lenM x=>x.slots
 | .isn _ _ x=>x.slots
 | .inv _ _ _ _ x l=>x.slots++Wh l
 | .mks _ _ _ _ l=>l.slots
 | .trn _ x y=>x.slots++y.slots

section
variable {P:Prg} {sl sl':Xf} {ob:Xa}
theorem A.ev_eq {x:A}(h:∀k∈x.slots,look sl k=look sl' k):x.ev sl=x.ev sl':=by
 cases x<;>simp_all[A.ev,A.slots]
theorem Xas:∀{l:List A},(∀k∈Wh l,look sl k=look sl' k)->l.map (A.ev sl)=l.map (A.ev sl')
 | [],_=>rfl
 | x::r,h=>by
  simp only[Wh,List.mem_append]at h
  simp only[List.map_cons,A.ev_eq (fun k hk=>h k (.inl hk)),Xas (fun k hk=>h k (.inr hk))]
theorem Xd2 {l:Option A}(h:∀k∈Xel l,look sl k=look sl' k):l.map (A.ev sl)=l.map (A.ev sl'):=by
 cases l with
 | none=>rfl
 | some x=>simp only[Option.map_some,A.ev_eq h]
theorem Xia:∀{l:List (Nat×A)},(∀k∈Wh (l.map (·.2)),look sl k=look sl' k)->(l.map fun x=>(x.1,A.ev sl x.2))=l.map fun x=>(x.1,A.ev sl' x.2)
 | [],_=>rfl
 | x::r,h=>by
  simp only[List.map_cons,Wh,List.mem_append]at h
  simp only[List.map_cons,A.ev_eq (fun k hk=>h k (.inl hk)),Xia (fun k hk=>h k (.inr hk))]
theorem C.wp_eq {K:V->Prop}{c:C}(h:∀k∈c.slots,look sl k=look sl' k):c.wp sl ob K=c.wp sl' ob K:=by
 cases c<;>simp only[C.slots,List.mem_append]at h<;>simp only[C.wp]
 case bld=>rw[Xia h]
 case mkf=>rw[Xas (fun k hk=>h k (.inl hk)),Xas (fun k hk=>h k (.inr hk))]
 case pick=>rw[A.ev_eq (fun k hk=>h k (.inl hk)),A.ev_eq (fun k hk=>h k (.inr (.inl hk))),A.ev_eq (fun k hk=>h k (.inr (.inr hk)))]
 case slcS=>rw[A.ev_eq (fun k hk=>h k (.inl hk)),Xd2 (fun k hk=>h k (.inr (.inl hk))),Xd2 (fun k hk=>h k (.inr (.inr hk)))]
 case slcL=>rw[A.ev_eq (fun k hk=>h k (.inl hk)),Xd2 (fun k hk=>h k (.inr (.inl hk))),Xd2 (fun k hk=>h k (.inr (.inr hk)))]
 all_goals first
  | rw[A.ev_eq h]
  | rw[A.ev_eq (fun k hk=>h k (.inl hk)),A.ev_eq (fun k hk=>h k (.inr hk))]
theorem I.wp_eq {K Pn:V->Xa->Prop}{i:I}(h:∀k∈i.slots,look sl k=look sl' k):i.wp P sl ob K Pn=i.wp P sl' ob K Pn:=by
 cases i<;>simp only[I.slots,List.mem_append]at h<;>simp only[I.wp]
 case c=>rw[C.wp_eq h]
 case bls=>rw[Xia h]
 case blo=>rw[Xia h]
 case blv=>rw[Xia h]
 case call=>rw[Xas h]
 case pcall=>rw[Xas h]
 case xcall=>rw[Xas h]
 case callv=>rw[A.ev_eq (fun k hk=>h k (.inl hk)),Xas (fun k hk=>h k (.inr hk))]
 case inv=>rw[A.ev_eq (fun k hk=>h k (.inl hk)),Xas (fun k hk=>h k (.inr hk))]
 case mset=>rw[A.ev_eq (fun k hk=>h k (.inl hk)),A.ev_eq (fun k hk=>h k (.inr (.inl hk))),A.ev_eq (fun k hk=>h k (.inr (.inr hk)))]
 case slb=>rw[A.ev_eq (fun k hk=>h k (.inl hk)),Xd2 (fun k hk=>h k (.inr (.inl hk))),Xd2 (fun k hk=>h k (.inr (.inr hk)))]
 case mkm r=>
  cases r with
  | none=>rfl
  | some x=>simp only[X0e,A.ev_eq (x:=x) h]
 all_goals first
  | rw[A.ev_eq h]
  | rw[A.ev_eq (fun k hk=>h k (.inl hk)),A.ev_eq (fun k hk=>h k (.inr hk))]
  | rfl

theorem Xi9 {K K':V->Xa->Prop}{ob:Xa}{E sz:Nat}{p:List Nat}{y x:V}(hk:∀v b,K v b->K' v b)(h:Xkh ob E sz p y K x):Xkh ob E sz p y K' x:=by
 unfold Xkh at h; split at h
 ·simp only[Xkh]
  generalize Xe _ _=o at h⊢
  unfold Xdh at h; split at h
  ·simp only[Xdh]
   rcases h with h | h
   case inr=>exact .inr ⟨h.1,hk _ _ h.2⟩
   refine .inl ⟨h.1,?_⟩
   have h:=h.2
   generalize V.set _ _ _=o at h⊢
   cases o with
   | none=>exact h.elim
   | some t=>exact hk _ _ h
  ·exact h.elim
 ·exact h.elim
theorem Xjb {K K':V->Xa->Prop}{y x:V}(hk:∀v b,K v b->K' v b):∀{l:List (Nat×Nat×List Nat)} {ob:Xa},Ybq y K x l ob->Ybq y K' x l ob
 | [],_,h=>hk _ _ h
 | _::_,_,h=>Xi9 (fun _ _ h=>Xjb hk h) h

theorem Xq3 {K K':V->Prop}{f fo:Nat}{v:V}(hk:∀v,K v->K' v)(h:V6 ob f fo K v):V6 ob f fo K' v:=by
 have:=C.wp_mono (sl:=[(0,v)]) (ob:=ob) hk (.fldA f fo (.t 0)) (by simpa[C.wp,A.ev,look]using h)
 simpa[C.wp,A.ev,look]using this
theorem X33 {K K':V->Prop}{n:Nat}{ag:Bool}{v:V}(hk:∀v,K v->K' v)(h:ldK ob n ag K v):ldK ob n ag K' v:=by
 have:=C.wp_mono (sl:=[(0,v)]) (ob:=ob) hk (.ld n ag (.t 0)) (by simpa[C.wp,A.ev,look]using h)
 simpa[C.wp,A.ev,look]using this
theorem I.wp_mono {K K' Pn Pn':V->Xa->Prop}(hk:∀v b,K v b->K' v b)(hp:∀v b,Pn v b->Pn' v b){i:I}(h:i.wp P sl ob K Pn):i.wp P sl ob K' Pn':=by
 have ho:∀o b,Xda K Pn o b->Xda K' Pn' o b:=fun o b=>by cases o with | ret v=>exact hk v b | panic v=>exact hp v b
 have bx:∀{E v},Xr7 E ob K v->Xr7 E ob K' v:=fun h=>⟨h.1,hk _ _ h.2⟩
 have dk:∀{KD KD':List D->Prop},(∀l,KD l->KD' l)->∀o,dK KD o->dK KD' o:=fun f o h=>by cases o with | none=>exact h.elim | some l=>exact f l h
 have gv:∀(o:Option (D×Xa)),Xq6 K o->Xq6 K' o:=fun o h=>by
  cases o with
  | none=>exact h.elim
  | some q=>exact hk _ _ h
 have ap:∀{E sz B ys u},Xdp E sz B ob ys K u->Xdp E sz B ob ys K' u:=fun {E sz B ys u} h=>by
  unfold Xdp at h; split at h
  ·simp only[Xdp]
   generalize Xe _ _=o at h⊢
   unfold Xde at h; split at h
   ·obtain⟨h1,h2,h3,h4,h5⟩:=h
    exact⟨h1,h2,h3,h4,hk _ _ h5⟩
   ·exact h.elim
  ·exact⟨h.1,hk _ _ h.2⟩
  ·exact h.elim
 have apv:∀{E sz B ys u},Xr6 E sz B ob ys K u->Xr6 E sz B ob ys K' u:=fun {E sz B ys u} h=>by
  unfold Xr6 at h; split at h
  ·simp only[Xr6]
   generalize Xe _ _=o at h⊢
   unfold Xqn at h; split at h
   ·obtain⟨h1,h2,h3,h4,h5⟩:=h
    exact⟨h1,h2,h3,h4,hk _ _ h5⟩
   ·obtain⟨h1,h2,h3,h4,h5⟩:=h
    exact⟨h1,h2,h3,h4,hk _ _ h5⟩
   ·exact h.elim
  ·exact⟨h.1,hk _ _ h.2⟩
  ·exact h.elim
 have bw:∀{id p lo n z ys r o},X5n ob id p lo n z ys r K o->X5n ob id p lo n z ys r K' o:=fun {id p lo n z ys r o} h=>by
  unfold X5n at h; split at h
  ·simp only[X5n]
   generalize V.at _ _=o at h⊢
   unfold Yuk at h; split at h
   ·obtain⟨h1,h2,h3,t,h4,h5⟩:=h
    exact⟨h1,h2,h3,t,h4,hk _ _ h5⟩
   ·exact h.elim
  ·exact h.elim
 cases i<;>simp only[I.wp]at h⊢
 case c x=>exact C.wp_mono (fun v=>hk v ob) x h
 case box=>exact bx h
 case boxr=>unfold X1a at h⊢; split at h<;>first | exact hk _ _ h | exact h.elim
 case alloc=>exact bx h
 case bls=>exact V9 (fun _=>dk (fun _=>hk _ _) _) _ _ h
 case blo=>exact V9 (fun _=>dk (fun _ h=>hk _ _ h) _) _ _ h
 case st x y=>
  generalize A.ev sl x=v at h⊢
  unfold stK at h; split at h
  ·simp only[stK]
   generalize Xe _ _=o at h⊢
   unfold Xzr at h; split at h
   ·simp only[Xzr]
    generalize V.at _ _=o at h⊢
    unfold Xzs at h; split at h
    ·obtain⟨h1,h2,h3,t,h4,h5⟩:=h
     exact⟨h1,h2,h3,t,h4,hk _ _ h5⟩
    ·exact h.elim
   ·exact h.elim
  ·simp only[stK]
   generalize Xe _ _=o at h⊢
   unfold Yry at h; split at h
   ·simp only[Yry]
    generalize Vf _ _ _=o at h⊢
    unfold Ys0 at h; split at h
    ·refine⟨h.1,?_⟩
     have h:=h.2
     generalize V.at _ _=o at h⊢
     unfold Yrz at h; split at h
     ·obtain⟨h1,h2,h3,t,h4,h5⟩:=h
      exact⟨h1,h2,h3,t,h4,hk _ _ h5⟩
     ·exact h.elim
    ·exact h.elim
   ·exact h.elim
  ·exact h.elim
 case app x y=>
  generalize A.ev sl y=v at h⊢
  unfold Xzn at h; split at h
  ·exact⟨h.1,ap h.2⟩
  ·exact ap h
  ·exact h.elim
 case blv=>exact V9 (fun _=>hk _ _) _ _ h
 case apv x y=>
  generalize A.ev sl y=v at h⊢
  unfold Yfg at h; split at h
  ·exact⟨h.1,apv h.2⟩
  ·exact apv h
  ·rcases h with⟨E,ys,h1,h2,h3,h4⟩ | ⟨E,ys,h1,h2,h4⟩
   ·exact .inl ⟨E,ys,h1,h2,h3,apv h4⟩
   ·exact .inr ⟨E,ys,h1,h2,apv h4⟩
  ·exact h.elim
 case gv x=>
  generalize V.gvF _ _ _=v at h⊢
  exact gv _ h
 case slb x lo hi=>
  generalize A.ev sl x=v at h⊢
  unfold Ysz at h; split at h
  ·simp only[Ysz]
   generalize Zk _=o at h⊢
   unfold Yeu at h; split at h
   ·exact⟨h.1,h.2.1,Xb3 (fun _ _=>hk _ _) h.2.2⟩
   ·exact h.elim
  ·exact h.elim
 case cpy x y=>
  generalize A.ev sl x=v at h⊢; generalize A.ev sl y=u at h⊢
  unfold Y3t at h; split at h
  ·exact⟨h.1,bw h.2⟩
  ·exact h.elim
 case clr x=>
  generalize A.ev sl x=v at h⊢
  unfold Y3q at h; split at h
  ·exact⟨fun e=>⟨(h.1 e).1,hk _ _ (h.1 e).2⟩,fun e=>⟨(h.2 e).1,bw (h.2 e).2⟩⟩
  ·exact h.elim
 case gix x y=>
  refine⟨h.1,?_⟩
  have h:=h.2
  generalize A.ev sl y=u at h⊢
  unfold Y4e at h; split at h
  ·exact⟨h.1,h.2.1,h.2.2.1,hk _ _ h.2.2.2⟩
  ·exact h.elim
 case ldg x=>
  generalize A.ev sl x=v at h⊢
  unfold Yfb at h; split at h
  ·simp only[Yfb]
   generalize atO _ _ _=o at h⊢
   unfold Xwm at h; split at h
   ·refine⟨h.1,h.2.1,?_⟩
    have h:=h.2.2
    generalize V.gvF _ _ _=o at h⊢
    unfold Xwl at h; split at h
    ·refine⟨h.1,?_⟩
     have h:=h.2
     generalize Xe _ _=o at h⊢
     unfold X34 at h; split at h
     ·obtain⟨t',h1,h2⟩:=h
      exact⟨t',h1,hk _ _ h2⟩
     ·exact h.elim
    ·exact h.elim
   ·exact h.elim
  ·exact h.elim
 case appS x y=>
  generalize A.ev sl y=v at h⊢
  unfold X42 at h; split at h
  ·exact ap h
  ·exact h.elim
 case mvf x=>
  generalize V.giv _ _=v at h⊢
  exact gv _ h
 case ldf x=>
  generalize A.ev sl x=v at h⊢
  unfold X54 at h; split at h
  ·simp only[X54]
   generalize atO _ _ _=o at h⊢
   unfold Xlg at h; split at h
   ·exact⟨h.1,h.2.1,gv _ h.2.2⟩
   ·exact h.elim
  ·exact h.elim
 case mvg=>exact Xi9 hk h
 case mvn=>exact Xjb hk h
 case cvb x=>
  generalize A.ev sl x=v at h⊢
  unfold Xud at h; split at h
  ·simp only[Xud]
   generalize Xe _ _=o at h⊢
   unfold Xe5 at h; split at h
   ·exact⟨h.1,h.2.1,h.2.2.1,hk _ _ h.2.2.2⟩
   ·exact h.elim
  ·exact h.elim
 case ustr x y=>
  generalize A.ev sl x=v at h⊢; generalize A.ev sl y=u at h⊢
  unfold Xr2 at h; split at h
  ·simp only[Xr2]
   generalize Xe _ _=o at h⊢
   unfold Xj8 at h; split at h
   ·obtain⟨h1,h2,h3,h4,h5,h6,s,h7,h8⟩:=h
    exact⟨h1,h2,h3,h4,h5,h6,s,h7,hk _ _ h8⟩
   ·exact h.elim
  ·exact⟨h.1,hk _ _ h.2⟩
  ·exact h.elim
 case call=>exact h.mono ho
 case pcall=>exact h.mono fun v=>hk v ob
 case xcall=>exact h.mono hk
 case callv x l=>
  generalize A.ev sl x=v at h⊢
  unfold Ve at h; split at h
  ·exact⟨h.1,h.2.mono ho⟩
  ·exact⟨h.1,h.2.mono ho⟩
  ·exact⟨h.1,h.2.mono ho⟩
  ·exact h.elim
 case rng x=>
  generalize A.ev sl x=v at h⊢
  generalize Xe ob (X6a v)=o at h⊢
  unfold Yes at h; split at h
  ·exact hk _ _ h
  ·exact hk _ _ h
  ·exact h.elim
 case nxt x=>
  generalize A.ev sl x=v at h⊢
  unfold X4h at h; split at h
  ·simp only[X4h]
   generalize Xe ob _=o at h⊢
   unfold Xjk at h; split at h
   ·exact hk _ _ h
   ·simp only[Xjk]
    generalize Xe ob _=o at h⊢
    unfold Xri at h; split at h
    ·exact⟨h.1,fun e=>hk _ _ (h.2.1 e),fun i h1 h2=>hk _ _ (h.2.2 i h1 h2)⟩
    ·exact h.elim
   ·exact h.elim
  ·exact h.elim
 case ety x=>
  generalize A.ev sl x=v at h⊢
  unfold X2u at h; split at h
  ·simp only[X2u]
   generalize Xe ob _=o at h⊢
   unfold Xkx at h; split at h
   ·refine⟨h.1,?_⟩
    have h:=h.2
    generalize Xe ob _=o at h⊢
    unfold Xqw at h; split at h
    ·exact⟨h.1,h.2.1,hk _ _ h.2.2⟩
    ·exact h.elim
   ·exact h.elim
  ·exact h.elim
 case lenM x=>
  generalize A.ev sl x=v at h⊢
  unfold Xrb at h; split at h
  ·simp only[Xrb]
   generalize Xe ob _=o at h⊢
   unfold Ybj at h; split at h
   ·exact hk _ _ h
   ·exact h.elim
  ·exact hk _ _ h
  ·exact h.elim
 case isn e m x=>
  generalize A.ev sl x=v at h⊢
  unfold Xwd at h; split at h
  ·simp only[Xwd]
   generalize Xe ob _=o at h⊢
   unfold Yv3 at h; split at h
   ·exact hk _ _ h
   ·exact h.elim
  ·exact hk _ _ h
  ·exact hk _ _ h
  ·exact⟨hk _ _ h.1,fun e=>hk _ _ (h.2 e)⟩
  ·simp only[Xwd]
   generalize Xe ob _=o at h⊢
   unfold Yv4 at h; split at h
   ·exact⟨h.1,h.2.1,hk _ _ h.2.2⟩
   ·exact⟨h.1,h.2.1,hk _ _ h.2.2⟩
   ·exact h.elim
  ·exact h.elim
 case inv nm t f fl x l=>
  generalize A.ev sl x=v at h⊢
  unfold Yso at h; split at h
  ·refine⟨h.1,h.2.1,?_⟩
   have h:=h.2.2
   unfold X4r at h⊢
   split at h
   ·exact h.mono ho
   ·exact Xq3 (fun u h=>X33 (fun r h=>h.mono ho) h) h
  ·exact h.elim
 case mks l=>
  generalize A.ev sl l=v at h⊢
  unfold Ysq at h; split at h
  ·exact⟨h.1,h.2.1,hk _ _ h.2.2⟩
  ·exact h.elim
 case trn x y=>
  generalize A.ev sl x=v at h⊢; generalize A.ev sl y=u at h⊢
  unfold Yfj at h; split at h
  ·simp only[Yfj]
   generalize Xe ob _=o at h⊢
   unfold Y28 at h; split at h
   ·exact⟨h.1,h.2.1,h.2.2.1,h.2.2.2.1,hk _ _ h.2.2.2.2⟩
   ·exact h.elim
  ·exact h.elim
 case panic x=>
  generalize A.ev sl x=v at h⊢
  unfold Jk at h; split at h
  ·exact hp _ _ h
  ·exact hp _ _ h
  ·exact h.elim
 case b2s x=>
  generalize A.ev sl x=v at h⊢
  unfold Ysf at h; split at h
  ·obtain⟨h1,s,h2,h3⟩:=h
   exact⟨h1,s,h2,hk _ _ h3⟩
  ·exact hk _ _ h
  ·exact h.elim
 case s2b x=>
  generalize A.ev sl x=v at h⊢
  unfold Ysy at h; split at h
  ·exact hk _ _ h
  ·exact h.elim
 case nilo x=>
  generalize A.ev sl x=v at h⊢
  unfold Xgq at h; split at h
  ·exact hk _ _ h
  ·exact h.elim
 case mkm r=>exact⟨h.1,hk _ _ h.2⟩
 case gld=>exact⟨h.1,h.2.1,h.2.2.1,hk _ _ h.2.2.2⟩
 case slg x=>
  generalize A.ev sl x=v at h⊢
  unfold Yff at h; split at h
  ·simp only[Yff]
   generalize atO _ _ _=o at h⊢
   unfold Xy3 at h; split at h
   ·exact⟨h.1,h.2.1,hk _ _ h.2.2⟩
   ·exact h.elim
  ·exact h.elim
 case lkp x y=>
  generalize A.ev sl x=v at h⊢; generalize A.ev sl y=u at h⊢
  unfold Xwp at h; split at h
  ·simp only[Xwp]
   generalize Xe _ _=o at h⊢
   unfold Xfj at h; split at h
   ·exact⟨h.1,hk _ _ h.2⟩
   ·exact h.elim
  ·exact⟨h.1,hk _ _ h.2⟩
  ·exact h.elim
 case mset x y z=>
  generalize A.ev sl x=v at h⊢; generalize A.ev sl y=u at h⊢
  unfold Xcp at h; split at h
  ·simp only[Xcp]
   generalize Xe _ _=o at h⊢
   unfold Jg at h; split at h
   ·exact⟨h.1,h.2.1,hk _ _ h.2.2⟩
   ·exact h.elim
  ·exact h.elim
end
end Go.Ab
namespace Go.Ab
open Go

def Xmw (σ:Sg):V5->V5->Option (List (E×Bool))
 | _,[]=>some []
 | dn,(g,b)::r=>match ent σ g with
  | some (q,e)=>if q.isPrefixOf dn then (match Xmw σ (dn++[(g,b)]) r with | some l=>some ((e,b)::l) | none=>none) else none
  | none=>none
def Y3p (σ:Sg)(f:E->E)(k:Nat):Option It2:=match ent σ k with
 | some (p,e)=>match Xmw σ [] p with
  | some l=>some (.chk l (f e))
  | none=>none
 | none=>none
def chks (σ:Sg)(f:E->E):List Nat->Option (List It2)
 | []=>some []
 | k::r=>match Y3p σ f k,chks σ f r with
  | some c,some l=>some (c::l)
  | _,_=>none
def bw (e:E):E:=.ite e (.a (.bool true)) (.a (.bool true))
def Xdy (σ:Sg)(k:Nat):Sg:=σ.filter fun x=>x.1 != k
def noMen (σ:Sg)(k:Nat):Bool:=σ.all fun x=>match x.2 with
 | some (_,e)=>!e.men k
 | none=>true
def Yps (σ:Sg):Bool:=σ.all fun x=>match x.2 with
 | some (_,e)=>!e.rd
 | none=>true
def Ylt (ns:List Nat)(σ:Sg)(k:Nat)(p:V5):Sg:=if ns.contains k||p.isEmpty then Xdy σ k else (k,some (p,.a (.t k)))::Xdy σ k
def Y67 (ns:List Nat)(σ:Sg)(k:Nat):Option (It2×Sg):=match Wb σ k with
 | some (some (p,e))=>match Xmw σ [] p with
  | some l=>if noMen (Xdy σ k) k then some (.lt k l e,Ylt ns σ k p) else none
  | none=>none
 | _=>none
def Yn6 (ns:List Nat):List Nat->Sg->Option (List It2×Sg)
 | [],σ=>some ([],σ)
 | k::r,σ=>match Y67 ns σ k with
  | some (i,σ')=>match Yn6 ns r σ' with
   | some (l,σ'')=>some (i::l,σ'')
   | none=>none
  | none=>none
def kill (lv:List Nat):Sg->Sg
 | []=>[]
 | (k,x)::r=>(if lv.contains k then (k,x) else (k,none))::kill lv r
def X4a:List It->List Nat
 | []=>[]
 | .op _ i::r=>i.slots++X4a r
 | .gop g _ _ i::r=>g::(i.slots++X4a r)
def Yyl (σ:Sg)(s:List Nat)(d:Option Nat):List Nat:=(σ.filter fun x=>match x.2 with
 | some (_,e)=>s.contains x.1||e.rd||(match d with | some k=>x.1 != k&&e.men k | none=>false)
 | none=>false).map (·.1)
def It.d:It->Option Nat
 | .op d _=>d
 | .gop _ _ d _=>d
def It.i:It->I
 | .op _ i=>i
 | .gop _ _ _ i=>i
def It.path (σ:Sg):It->Option (V5×List Nat)
 | .op _ _=>some ([],[])
 | .gop g b _ _=>match ent σ g with
  | some (q,_)=>some (q++[(g,b)],[g])
  | none=>none
def It.eff (l:List (E×Bool)):It->It2
 | .op d i=>.op d i
 | .gop _ _ d i=>.gop l d i
def Yuw (σ:Sg):Option Nat->Sg
 | some k=>Xdy σ k
 | none=>σ
def X9p (σ:Sg)(p:V5):Option Nat->Bool
 | some k=>noMen (Xdy σ k) k&&Xk6 (Xdy σ k) k&&Vu k p
 | none=>true
def Xiz (σ:Sg):List Nat->Option (List (Nat×E))
 | []=>some []
 | k::r=>match ent σ k,Xiz σ r with
  | some ([],e),some l=>some ((k,e)::l)
  | _,_=>none
def Yr9 (e:E)(k:Nat)(l:List Nat):List Nat:=if e.isA then l else k::l

def Xac (fs keep pk:List Nat):List It->Sg->List Nat->List Nat->Option (List It2×List (Nat×E))
 | [],σ,pe,pg=>match chks σ id (pe.filter fun k=>!keep.contains k),chks σ bw pg,Xiz σ keep with
  | some c1,some c2,some kp=>some (c1++c2,kp)
  | _,_,_=>none
 | it::r,σ,pe,pg=>match it.path σ with
  | none=>none
  | some (p,gs)=>match it.d,it.i.lift fs σ p with
   | some k,some e=>if Xk6 (Xdy σ k) k&&Vu k p&&!pe.contains k&&!(gs++pg).contains k then
     Xac fs keep pk r ((k,some (p,e))::Xdy σ k) (Yr9 e k (pe.filter fun j=>!(it.i.cons σ p).contains j)) ((gs++pg).filter fun j=>!(it.i.gcons σ p).contains j)
    else none
   | d,_=>match chks σ id pe,chks σ bw (gs++pg) with
    | some c1,some c2=>match Yn6 (it.i.slots++(pk++keep)) (Yyl (kill (it.i.slots++(p.map (·.1)++(X4a r++keep))) σ) it.i.slots d) (kill (it.i.slots++(p.map (·.1)++(X4a r++keep))) σ) with
     | some (ms,σ2)=>match Xmw σ2 [] p with
      | some l=>if (it.i.slots.all fun k=>(Wb σ2 k).isNone)&&X9p σ2 p d&&Yps σ2&&(pk.all fun k=>(Wb σ2 k).isNone) then
        match Xac fs keep pk r (Yuw σ2 d) [] []with
        | some (t,kp)=>some (c1++(c2++(ms++(it.eff l::t))),kp)
        | none=>none
       else none
      | none=>none
     | none=>none
    | _,_=>none

section
variable {P:Prg} {T:Tab} {σ:Sg} {sl sl0:Xf} {ob:Xa} {p:V5} {K:Xf->Xa->Prop} {Pn:V->Xf->Xa->Prop}

theorem Vv (hI:Inv T σ sl sl0 ob):∀(r dn:V5) (l:List (E×Bool)),Xmw σ dn r=some l->Xt sl dn=true->Xt sl r=Zh T sl0 ob l
 | [],dn,l,h,_=>by simp only[Xmw]at h; cases h; rfl
 | (g,b)::r,dn,l,h,hd=>by
  simp only[Xmw]at h
  split at h
  ·rename_i q e he
   split at h
   ·rename_i hq
    split at h
    ·rename_i l' hl
     cases h
     have hv:=(hI g q e he).1 (Xav hq hd)
     simp only[Xt,Zh,List.all_cons,hv]
     cases hb:isB b (e.val T sl0 ob) with
     | false=>rfl
     | true=>
      have:=Vv hI r _ l' hl (by rw[Yw,hd,hv,hb]; rfl)
      simpa[Xt,Zh]using this
    ·cases h
   ·cases h
  ·cases h

theorem Yv (hI:Inv T σ sl sl0 ob){f:E->E}:∀{ks:List Nat} {cs l:List It2},chks σ f ks=some cs->Vn P T K Pn (cs++l) sl0 ob->
  (∀k∈ks,∀p e,ent σ k=some (p,e)->Xt sl p=true->(f e).ok T sl0 ob)/\Vn P T K Pn l sl0 ob
 | [],cs,l,h,hr=>by simp only[chks]at h; cases h; exact⟨fun _ h=>(by cases h),hr⟩
 | k::r,cs,l,h,hr=>by
  simp only[chks]at h
  split at h
  ·rename_i c l' hc hl
   cases h
   unfold Y3p at hc
   split at hc
   ·rename_i p e he
    split at hc
    ·rename_i lp hp
     cases hc
     simp only[List.cons_append,Vn]at hr
     obtain⟨h1,h2⟩:=Yv hI hl hr.2
     refine⟨fun j hj q e' he' hq=>?_,h2⟩
     rcases List.mem_cons.mp hj with rfl | hj
     ·rw[he]at he'; cases he'
      exact hr.1 (by rw[<-Vv hI _ _ _ hp rfl]; exact hq)
     ·exact h1 j hj q e' he' hq
    ·cases hc
   ·cases hc
  ·cases h

theorem Xay:∀{σ:Sg} {k:Nat},Wb (Xdy σ k) k=none
 | [],_=>rfl
 | (j,x)::r,k=>by
  have ih:=Xay (σ:=r) (k:=k)
  simp only[Xdy]at ih⊢
  by_cases h:j=k
  ·subst h; simp[ih]
  ·simp[h,Wb,ih]
theorem Xaz {k j:Nat}(h:k ≠ j):∀{σ:Sg},Wb (Xdy σ k) j=Wb σ j
 | []=>rfl
 | (i,x)::r=>by
  have ih:=Xaz h (σ:=r)
  simp only[Xdy]at ih⊢
  by_cases hi:i=k
  ·subst hi; simp[ih,Wb,h]
  ·simp[hi,Wb,ih]
theorem Xd0 {k:Nat}:ent (Xdy σ k) k=some ([],.a (.t k)):=by simp[ent,Xay]
theorem Y7 {k j:Nat}(h:k ≠ j):ent (Xdy σ k) j=ent σ j:=by simp[ent,Xaz h]
theorem Xee:∀{σ:Sg} {d k:Nat} {p:V5} {e:E},noMen σ d=true->Wb σ k=some (some (p,e))->e.men d=false
 | [],_,_,_,_,_,h=>by simp[Wb]at h
 | (j,x)::r,d,k,p,e,hg,h=>by
  simp only[noMen,List.all_cons,Bool.and_eq_true]at hg
  simp only[Wb]at h
  split at h
  ·cases h; simpa using hg.1
  ·exact Xee (σ:=r) hg.2 h
theorem Xji:∀{σ:Sg} {k:Nat} {p:V5} {e:E},Yps σ=true->Wb σ k=some (some (p,e))->e.rd=false
 | [],_,_,_,_,h=>by simp[Wb]at h
 | (j,x)::r,k,p,e,hg,h=>by
  simp only[Yps,List.all_cons,Bool.and_eq_true]at hg
  simp only[Wb]at h
  split at h
  ·cases h; simpa using hg.1
  ·exact Xji (σ:=r) hg.2 h
theorem Xpv {k:Nat}{e:E}(hg:Yps σ=true)(h:ent σ k=some (p,e)):e.rd=false:=by
 unfold ent at h
 split at h
 ·cases h; rfl
 ·rename_i x hx; subst h; exact Xji hg hx
theorem Xjh {d k:Nat}{e:E}(hg:noMen (Xdy σ d) d=true)(hd:d ≠ k)(h:ent σ k=some (p,e)):e.men d=false:=by
 rw[<-Y7 hd]at h
 unfold ent at h
 split at h
 ·cases h; simp[E.men,A.men]; exact fun e=>hd e.symm
 ·rename_i x hx; subst h; exact Xee hg hx

theorem Xec {ns:List Nat}:∀{ks:List Nat} {σ σ':Sg} {sl0:Xf} {ms l:List It2},Inv T σ sl sl0 ob->Yn6 ns ks σ=some (ms,σ')->Vn P T K Pn (ms++l) sl0 ob->∃sl0',Inv T σ' sl sl0' ob/\Vn P T K Pn l sl0' ob
 | [],σ,σ',sl0,ms,l,hI,h,hr=>by simp only[Yn6]at h; cases h; exact⟨sl0,hI,hr⟩
 | k::r,σ,σ',sl0,ms,l,hI,h,hr=>by
  simp only[Yn6]at h
  split at h
  ·rename_i i σ1 h1
   split at h
   ·rename_i l' σ2 h2
    cases h
    unfold Y67 at h1
    split at h1
    ·rename_i p e he
     split at h1
     ·rename_i lp hp
      split at h1
      ·rename_i hm
       cases h1
       simp only[List.cons_append,Vn]at hr
       refine Xec ?_ h2 hr.2
       have hk:=hI k p e (by simp[ent,he])
       have hh:=Vv hI _ _ _ hp rfl
       have hdel:∀j q e',ent (Xdy σ k) j=some (q,e')->(Xt sl q=true->look sl j=e'.val T ((k,Xg8 (Zh T sl0 ob lp) (e.val T sl0 ob))::sl0) ob)/\(Xt sl q=false->look sl j=.undef):=by
        intro j q e' he'
        by_cases hj:k=j
        ·subst hj
         rw[Xd0]at he'; cases he'
         simp only[Xt,List.all_nil,E.val,A.ev,look,if_true]
         refine⟨fun _=>?_,fun h=>(by cases h)⟩
         rw[<-hh]
         cases hs:Xt sl p with
         | true=>rw[hk.1 hs]; rfl
         | false=>rw[hk.2 hs]; rfl
        ·rw[Y7 hj]at he'
         rw[E.val_sl (Xjh hm hj he')]
         exact hI j q e' he'
       unfold Ylt
       split
       ·exact hdel
       ·intro j q e' he'
        by_cases hj:k=j
        ·subst hj
         rw[Zp]at he'; cases he'
         simp only[E.val,A.ev,look,if_true]
         rw[<-hh]
         exact⟨fun hs=>by rw[hk.1 hs,hs]; rfl,hk.2⟩
        ·rw[Y5 hj]at he'
         exact hdel j q e' he'
      ·cases h1
     ·cases h1
    ·cases h1
   ·cases h
  ·cases h

theorem Xpc {lv:List Nat}:∀{σ:Sg} {k:Nat} {e:E},ent (kill lv σ) k=some (p,e)->ent σ k=some (p,e)
 | [],_,_,h=>h
 | (j,x)::r,k,e,h=>by
  by_cases hj:j=k
  ·subst hj
   rw[Zp]
   simp only[kill]at h
   split at h
   ·rwa [Zp]at h
   ·rw[Zp]at h; cases h
  ·rw[Y5 hj]
   simp only[kill]at h
   refine Xpc (lv:=lv) (σ:=r) ?_
   split at h
   ·rwa [Y5 hj]at h
   ·rwa [Y5 hj]at h
theorem Inv.kill {lv:List Nat}(hI:Inv T σ sl sl0 ob):Inv T (kill lv σ) sl sl0 ob:=fun k p e h=>hI k p e (Xpc h)

theorem Inv.fold' (hI:Inv T σ sl sl0 ob){k:Nat}{e:E}(hg:Xk6 (Xdy σ k) k=true)(hp:Vu k p=true){v:V}(h1:Xt sl p=true->v=e.val T sl0 ob)(h2:Xt sl p=false->v=.undef) :
  Inv T ((k,some (p,e))::Xdy σ k) ((k,v)::sl) sl0 ob:=by
 intro j q e' he
 by_cases hj:k=j
 ·subst hj
  rw[Zp]at he; cases he
  rw[Vg hp]
  simp only[look,if_true]
  exact⟨h1,h2⟩
 ·rw[Y5 hj]at he
  rw[Vg (Q4 hg he)]
  rw[Y7 hj]at he
  simp only[look,hj,if_false]
  exact hI j q e' he

theorem Inv.eff (hI:Inv T σ sl sl0 ob){d:Option Nat}(hf:X9p σ p d=true)(hr:Yps σ=true){v:V}{ob':Xa}:Inv T (Yuw σ d) (put sl d v) (put sl0 d v) ob':=by
 cases d with
 | none=>
  intro j q e he
  rw[E.val_ob (ob':=ob) (Xpv hr he)]
  exact hI j q e he
 | some k=>
  simp only[X9p,Bool.and_eq_true]at hf
  intro j q e he
  simp only[put,Yuw]at he⊢
  by_cases hj:k=j
  ·subst hj
   rw[Xd0]at he; cases he
   simp[Xt,E.val,A.ev,look]
  ·have he':=he
   rw[Vg (Q4 hf.1.2 he')]
   rw[Y7 hj]at he
   rw[E.val_sl (Xjh hf.1.1 hj he),E.val_ob (ob':=ob) (Xpv hr he)]
   simp only[look,hj,if_false]
   exact hI j q e he
theorem Qe (hI:Inv T σ sl sl0 ob):∀{keep:List Nat} {kp:List (Nat×E)},Xiz σ keep=some kp->V7 T sl0 ob kp=Xk sl keep/\(Wq T sl0 ob kp->∀k∈keep,∀p e,ent σ k=some (p,e)->e.ok T sl0 ob)
 | [],kp,h=>by simp only[Xiz]at h; cases h; exact⟨rfl,fun _ _ h=>(by cases h)⟩
 | k::r,kp,h=>by
  simp only[Xiz]at h
  split at h
  ·rename_i e l he hl
   cases h
   obtain⟨h1,h2⟩:=Qe hI hl
   refine⟨by simp only[V7,Xk,h1,(hI k [] e he).1 rfl],fun ho j hj p e' he'=>?_⟩
   rcases List.mem_cons.mp hj with rfl | hj
   ·rw[he]at he'; cases he'; exact ho.1
   ·exact h2 ho.2 j hj p e' he'
  ·cases h

def Xta (T:Tab)(σ:Sg)(pe pg:List Nat)(sl sl0:Xf)(ob:Xa):Prop:=
 (∀k∈pe,∀p e,ent σ k=some (p,e)->Xt sl p=true->e.ok T sl0 ob)/\
 (∀k∈pg,∀p e,ent σ k=some (p,e)->Xt sl p=true->Xb4 (e.val T sl0 ob))

theorem Xjs {fs:List Nat}{i:I}{k:Nat}{e:E}{pe pg:List Nat}{v:V}(hI:Inv T σ sl sl0 ob)(he:i.lift fs σ p=some e)(c1:Xk6 (Xdy σ k) k=true)(c2:Vu k p=true)(c3:k∉pe)(c4:k∉pg)
  (h:Xta T ((k,some (p,e))::Xdy σ k) (Yr9 e k (pe.filter fun j=>!(i.cons σ p).contains j)) (pg.filter fun j=>!(i.gcons σ p).contains j) ((k,v)::sl) sl0 ob) :
  Xta T σ pe pg sl sl0 ob/\(Xt sl p=true->e.ok T sl0 ob):=by
 obtain⟨a1,a2⟩:=h
 have hok:Xt sl p=true->e.ok T sl0 ob:=fun hh=>by
  cases hA:e.isA with
  | true=>cases e<;>simp[E.isA]at hA; trivial
  | false=>exact a1 k (by simp[Yr9,hA]) p e Zp (by rw[Vg c2]; exact hh)
 refine⟨⟨fun j hj q e' he' hq=>?_,fun j hj q e' he' hq=>?_⟩,hok⟩
 ·by_cases hm:j∈i.cons σ p
  ·exact I.cov hI he hm he' hq hok
  ·have hkj:k ≠ j:=fun e=>c3 (e▸hj)
   refine a1 j ?_ q e' (by rw[Y5 hkj,Y7 hkj]; exact he') ?_
   ·simp only[Yr9]; split<;>simp[hj,hm]
   ·rw[Vg]; exact hq
    exact Q4 c1 (by rw[Y7 hkj]; exact he')
 ·by_cases hm:j∈i.gcons σ p
  ·exact I.gcov he hm he' hq hok
  ·have hkj:k ≠ j:=fun e=>c4 (e▸hj)
   refine a2 j ?_ q e' (by rw[Y5 hkj,Y7 hkj]; exact he') ?_
   ·simp only[List.mem_filter]; exact⟨hj,by simp[hm]⟩
   ·rw[Vg]; exact hq
    exact Q4 c1 (by rw[Y7 hkj]; exact he')

theorem Xyd {fs keep pk:List Nat}:∀(its:List It) {σ:Sg} {pe pg:List Nat} {sl sl0:Xf} {ob:Xa} {l:List It2} {kp:List (Nat×E)},Inv T σ sl sl0 ob->Xac fs keep pk its σ pe pg=some (l,kp)->
  Vn P T (fun sl ob=>Wq T sl ob kp/\K (V7 T sl ob kp) ob) Pn l sl0 ob->Xta T σ pe pg sl sl0 ob
 | [],σ,pe,pg,sl,sl0,ob,l,kp,hI,h,hr=>by
  simp only[Xac]at h
  split at h
  ·rename_i c1 c2 kp' h1 h2 h3
   cases h
   obtain⟨a1,hr⟩:=Yv hI h1 hr
   obtain⟨a2,hr⟩:=Yv hI (l:=[]) h2 (by simpa using hr)
   simp only[Vn]at hr
   obtain⟨_,a3⟩:=Qe hI h3
   refine⟨fun k hk p e he hp=>?_,fun k hk p e he hp=>(a2 k hk p e he hp).2.1⟩
   by_cases hm:k∈keep
   ·exact a3 hr.1 k hm p e he
   ·exact a1 k (by simp[hk,hm]) p e he hp
  ·cases h
 | it::r,σ,pe,pg,sl,sl0,ob,l,kp,hI,h,hr=>by
  simp only[Xac]at h
  split at h
  ·cases h
  ·rename_i p gs hp
   split at h
   ·rename_i k e hd he
    split at h
    ·rename_i hc
     simp only[Bool.and_eq_true,Bool.not_eq_true',List.contains_eq_mem,decide_eq_false_iff_not]at hc
     obtain⟨⟨⟨c1,c2⟩,c3⟩,c4⟩:=hc
     have hI':=hI.fold' (e:=e) c1 c2 (v:=Xg8 (Xt sl p) (e.val T sl0 ob)) (fun h=>by rw[h]; rfl) (fun h=>by rw[h]; rfl)
     obtain⟨a,_⟩:=Xjs hI he c1 c2 c3 c4 (Xyd r hI' h hr)
     exact⟨a.1,fun j hj=>a.2 j (List.mem_append.mpr (.inr hj))⟩
    ·cases h
   ·split at h
    ·rename_i c1 c2 h1 h2
     split at h
     ·split at h
      ·split at h
       ·split at h
        ·cases h
         obtain⟨a1,hr⟩:=Yv hI h1 hr
         obtain⟨a2,hr⟩:=Yv hI h2 hr
         exact⟨a1,fun k hk p e he hp=>(a2 k (List.mem_append.mpr (.inr hk)) p e he hp).2.1⟩
        ·cases h
       ·cases h
      ·cases h
     ·cases h
    ·cases h
end
end Go.Ab
namespace Go.Ab
open Go

theorem Xpa {sl sl':Xf}:∀{ks:List Nat},(∀k∈ks,look sl k=look sl' k)->Xk sl ks=Xk sl' ks
 | [],_=>rfl
 | k::r,h=>by simp only[Xk]; rw[h k (by simp),Xpa (fun j hj=>h j (by simp[hj]))]

theorem Yr {P:Prg}{T:Tab}(hT:TOk P T){fs keep pk:List Nat}{K K':Xf->Xa->Prop}{Pn Pn':V->Xf->Xa->Prop}(hK:∀s o,K s o->K' s o)(hP:∀v s o,Pn v s o->Pn' v s o) :
  ∀(its:List It) {σ:Sg} {pe pg:List Nat} {sl sl0:Xf} {ob:Xa} {l:List It2} {kp:List (Nat×E)},Inv T σ sl sl0 ob->Xac fs keep pk its σ pe pg=some (l,kp)->
  Vn P T (fun sl ob=>Wq T sl ob kp/\K (V7 T sl ob kp) ob) (fun v sl ob=>Pn v (Xk sl pk) ob) l sl0 ob->rwp P (fun sl ob=>K' (Xk sl keep) ob) (fun v sl ob=>Pn' v (Xk sl pk) ob) its sl ob
 | [],σ,pe,pg,sl,sl0,ob,l,kp,hI,h,hr=>by
  simp only[Xac]at h
  split at h
  ·rename_i c1 c2 kp' h1 h2 h3
   cases h
   obtain⟨_,hr⟩:=Yv hI h1 hr
   obtain⟨_,hr⟩:=Yv hI (l:=[]) h2 (by simpa using hr)
   simp only[Vn]at hr
   simp only[rwp]
   rw[<-(Qe hI h3).1]
   exact hK _ _ hr.2
  ·cases h
 | it::r,σ,pe,pg,sl,sl0,ob,l,kp,hI,h,hr=>by
  simp only[Xac]at h
  split at h
  ·cases h
  ·rename_i p gs hp
   split at h
   ·rename_i k e hd he
    split at h
    ·rename_i hc
     simp only[Bool.and_eq_true,Bool.not_eq_true',List.contains_eq_mem,decide_eq_false_iff_not]at hc
     obtain⟨⟨⟨c1,c2⟩,c3⟩,c4⟩:=hc
     have go:∀v,(Xt sl p=true->v=e.val T sl0 ob)->(Xt sl p=false->v=.undef)->rwp P (fun sl ob=>K' (Xk sl keep) ob) (fun v sl ob=>Pn' v (Xk sl pk) ob) r ((k,v)::sl) ob:=
      fun v h1 h2=>Yr hT hK hP r (hI.fold' (e:=e) c1 c2 h1 h2) h hr
     have hI':=hI.fold' (e:=e) c1 c2 (v:=Xg8 (Xt sl p) (e.val T sl0 ob)) (fun h=>by rw[h]; rfl) (fun h=>by rw[h]; rfl)
     obtain⟨a,hok⟩:=Xjs hI he c1 c2 c3 c4 (Xyd r hI' h hr)
     cases it with
     | op d i=>
      simp only[It.d]at hd; subst hd
      simp only[It.path]at hp; cases hp
      simp only[rwp]
      exact I.lift_sound hT hI rfl he (hok rfl) (go _ (fun _=>rfl) (fun h=>by cases h))
     | gop g b d i=>
      simp only[It.d]at hd; subst hd
      simp only[It.path]at hp
      split at hp
      ·rename_i q eg hg
       cases hp
       simp only[rwp]
       cases hq:Xt sl q with
       | false=>
        rw[(hI g q eg hg).2 hq]
        simp only[gdK]
        exact go _ (fun h=>by rw[Yw,hq]at h; cases h) (fun _=>rfl)
       | true=>
        have hv:=(hI g q eg hg).1 hq
        have hb:=a.2 g (by simp) q eg hg hq
        have hcg:∀j,look ((g,look sl g)::sl) j=look sl j:=fun j=>by
         simp only[look]; split
         ·rename_i e; rw[e]
         ·rfl
        have main:∀t,look sl g=.d (.bool t)->gdK g b sl (fun sl=>I.wp P sl ob (fun v ob'=>rwp P (fun sl ob=>K' (Xk sl keep) ob) (fun v sl ob=>Pn' v (Xk sl pk) ob) r (put sl (some k) v) ob') (fun v ob'=>Pn' v (Xk sl pk) ob') i) (fun sl=>rwp P (fun sl ob=>K' (Xk sl keep) ob) (fun v sl ob=>Pn' v (Xk sl pk) ob) r (put sl (some k) .undef) ob) (look sl g):=by
         intro t ht
         rw[ht]
         simp only[gdK]
         have hh:∀u,t=u->Inv T σ ((g,.d (.bool u))::sl) sl0 ob:=fun u e=>by
          subst e; rw[<-ht]; exact hI.congr hcg
         have hs:∀u,t=u->∀p,Xt ((g,.d (.bool u))::sl) p=Xt sl p:=fun u e p=>by
          subst e; rw[<-ht]; simp only[Xt,hcg]
         refine⟨fun e1=>?_,fun e1=>?_⟩
         ·have hp1:Xt sl (q++[(g,b)])=true:=by rw[Yw,hq,ht,e1]; simp[isB]
          refine I.lift_sound hT (hh _ e1) (by rw[hs _ e1]; exact hp1) he (hok hp1) ?_
          refine Yr hT hK hP r ((hh _ e1).fold' (e:=e) c1 c2 (fun _=>rfl) (fun h=>?_)) h hr
          rw[hs _ e1,hp1]at h; cases h
         ·have hp1:Xt sl (q++[(g,b)])=false:=by rw[Yw,hq,ht,e1]; cases b<;>simp[isB]
          refine Yr hT hK hP r ((hh _ e1).fold' (e:=e) c1 c2 (fun h=>?_) (fun _=>rfl)) h hr
          rw[hs _ e1,hp1]at h; cases h
        rcases Xez hb with hb | hb
        ·exact main true (by rw[hv,hb])
        ·exact main false (by rw[hv,hb])
      ·cases hp
    ·cases h
   ·rename_i d x hd hx
    split at h
    ·rename_i c1 c2 h1 h2
     split at h
     ·rename_i ms σ2 hm
      split at h
      ·rename_i lp hl
       split at h
       ·rename_i hc
        simp only[Bool.and_eq_true,List.all_eq_true,Option.isNone_iff_eq_none]at hc
        obtain⟨⟨⟨d1,d2⟩,d3⟩,d4⟩:=hc
        split at h
        ·rename_i t kp' ht
         cases h
         obtain⟨_,hr⟩:=Yv hI h1 hr
         obtain⟨a2,hr⟩:=Yv hI h2 hr
         obtain⟨sl1,hI1,hr⟩:=Xec hI.kill hm hr
         have hlook:∀{s},Inv T σ2 s sl1 ob->∀k,Wb σ2 k=none->look s k=look sl1 k:=fun hI k hk=>(hI k [] (.a (.t k)) (by simp[ent,hk])).1 rfl
         have hkeep:∀{s},Inv T σ2 s sl1 ob->Xk s pk=Xk sl1 pk:=fun {s} hI=>by
          exact Xpa fun k hk=>hlook hI k (d4 k hk)
         have step:∀{s},Inv T σ2 s sl1 ob->it.i.wp P sl1 ob (fun v ob'=>Vn P T (fun sl ob=>Wq T sl ob kp/\K (V7 T sl ob kp) ob) (fun v sl ob=>Pn v (Xk sl pk) ob) t (put sl1 it.d v) ob') (fun v ob'=>Pn v (Xk sl1 pk) ob')->
           it.i.wp P s ob (fun v ob'=>rwp P (fun sl ob=>K' (Xk sl keep) ob) (fun v sl ob=>Pn' v (Xk sl pk) ob) r (put s it.d v) ob') (fun v ob'=>Pn' v (Xk s pk) ob'):=fun {s} hI h=>by
          rw[I.wp_eq (sl':=sl1) (fun k hk=>hlook hI k (d1 k hk))]
          refine I.wp_mono (fun v b hv=>?_) (fun v b hv=>?_) h
          ·exact Yr hT hK hP r (hI.eff d2 d3) ht hv
          ·rw[hkeep hI]; exact hP _ _ _ hv
         cases it with
         | op d' i=>
          simp only[It.eff,Vn]at hr
          simp only[rwp]
          exact step hI1 hr
         | gop g b d' i=>
          simp only[It.eff,Vn]at hr
          simp only[It.path]at hp
          split at hp
          ·rename_i q eg hg
           cases hp
           have hh:=Vv hI1 _ _ _ hl rfl
           have none':∀{s},Inv T σ2 s sl1 ob->Xt sl (q++[(g,b)])=false->rwp P (fun sl ob=>K' (Xk sl keep) ob) (fun v sl ob=>Pn' v (Xk sl pk) ob) r (put s d' .undef) ob:=fun {s} hI hf=>
            Yr hT hK hP r (hI.eff d2 d3) ht (hr.2 (by rw[<-hh]; exact hf))
           simp only[rwp]
           cases hq:Xt sl q with
           | false=>
            rw[(hI g q eg hg).2 hq]
            simp only[gdK]
            exact none' hI1 (by rw[Yw,hq]; rfl)
           | true=>
            have hv:=(hI g q eg hg).1 hq
            have hb:=(a2 g (by simp) q eg hg hq).2.1
            have hcg:∀j,look ((g,look sl g)::sl) j=look sl j:=fun j=>by
             simp only[look]; split
             ·rename_i e; rw[e]
             ·rfl
            have main:∀u,look sl g=.d (.bool u)->gdK g b sl (fun sl=>I.wp P sl ob (fun v ob'=>rwp P (fun sl ob=>K' (Xk sl keep) ob) (fun v sl ob=>Pn' v (Xk sl pk) ob) r (put sl d' v) ob') (fun v ob'=>Pn' v (Xk sl pk) ob') i) (fun sl=>rwp P (fun sl ob=>K' (Xk sl keep) ob) (fun v sl ob=>Pn' v (Xk sl pk) ob) r (put sl d' .undef) ob) (look sl g):=by
             intro u hu
             rw[hu]
             simp only[gdK]
             have hh2:∀w,u=w->Inv T σ2 ((g,.d (.bool w))::sl) sl1 ob:=fun w e=>by
              subst e; rw[<-hu]; exact hI1.congr hcg
             refine⟨fun e1=>?_,fun e1=>?_⟩
             ·exact step (hh2 _ e1) (hr.1 (by rw[<-hh,Yw,hq,hu,e1]; simp[isB]))
             ·exact none' (hh2 _ e1) (by rw[Yw,hq,hu,e1]; cases b<;>simp[isB])
            rcases Xez hb with hb | hb
            ·exact main true (by rw[hv,hb])
            ·exact main false (by rw[hv,hb])
          ·cases hp
        ·cases h
       ·cases h
      ·cases h
     ·cases h
    ·cases h

theorem Xo8 {P:Prg}{n n':Xf->Xa->Prop}{Pn Pn':V->Xf->Xa->Prop}(hn:∀sl ob,n sl ob->n' sl ob)(hp:∀v sl ob,Pn v sl ob->Pn' v sl ob):∀(x:It) (sl:Xf) (ob:Xa),itK P n Pn x sl ob->itK P n' Pn' x sl ob
 | .op d i,sl,ob,h=>by
  simp only[itK]at h⊢
  exact I.wp_mono (fun _ _ h=>hn _ _ h) (fun _ _ h=>hp _ _ _ h) h
 | .gop s want d i,sl,ob,h=>by
  simp only[itK]at h⊢
  generalize look sl s=v at h⊢
  unfold gdK at h; split at h
  ·exact⟨fun e=>I.wp_mono (fun _ _ h=>hn _ _ h) (fun _ _ h=>hp _ _ _ h) (h.1 e),fun e=>hn _ _ (h.2 e)⟩
  ·exact hn _ _ h
  ·exact h.elim
mutual
theorem Xgw {P:Prg}{K K':Xf->Xa->Prop}{Pn Pn':V->Xf->Xa->Prop}(hk:∀sl ob,K sl ob->K' sl ob)(hp:∀v sl ob,Pn v sl ob->Pn' v sl ob):∀(t:Ot) (sl:Xf) (ob:Xa),owp P K Pn t sl ob->owp P K' Pn' t sl ob
 | .done,sl,ob,h=>by simp only[owp]at h⊢; exact hk _ _ h
 | .one _ x r,sl,ob,h=>by simp only[owp]at h⊢; exact Xo8 (fun sl ob h=>Xgw hk hp r sl ob h) hp x sl ob h
 | .br l,sl,ob,h=>by simp only[owp]at h⊢; exact Xjo hk hp l sl ob h
theorem Xjo {P:Prg}{K K':Xf->Xa->Prop}{Pn Pn':V->Xf->Xa->Prop}(hk:∀sl ob,K sl ob->K' sl ob)(hp:∀v sl ob,Pn v sl ob->Pn' v sl ob):∀(t:Ots) (sl:Xf) (ob:Xa),Xdi P K Pn t sl ob->Xdi P K' Pn' t sl ob
 | .nil,sl,ob,h=>by simp only[Xdi]
 | .cons _ x r l,sl,ob,h=>by
  simp only[Xdi]at h⊢
  exact⟨Xo8 (fun sl ob h=>Xgw hk hp r sl ob h) hp x sl ob h.1,Xjo hk hp l sl ob h.2⟩
end

inductive S2 where
 | rg (l:List It2) (keep:List (Nat×E)) (pk:List Nat)
 | rgT (t:Ot) (keep pk:List Nat)
 | seq (a b:S2)
 | skip
 | cond (c:A) (a b:S2)
 | block (n:Nat) (a:S2)
 | loop (keep:List Nat) (a:S2)
 | exit (n:Nat)
 | ret
 | rgf (tag:Nat) (ps:List Nat) (g:A) (x y:S) (keep:List Nat)

def Ym (P:Prg)(T:Tab):S2->Yx->Xf->Xa->Prop
 | .rg l keep pk,Q,sl,ob=>Vn P T (fun sl ob=>Wq T sl ob keep/\Q .normal (V7 T sl ob keep) ob) (fun v sl ob=>Q (.panic v) (Xk sl pk) ob) l sl ob
 | .rgT t keep pk,Q,sl,ob=>owp P (fun sl ob=>Q .normal (Xk sl keep) ob) (fun v sl ob=>Q (.panic v) (Xk sl pk) ob) t sl ob
 | .seq a b,Q,sl,ob=>Ym P T a (Wm (Ym P T b Q) Q) sl ob
 | .skip,Q,sl,ob=>Q .normal sl ob
 | .cond c a b,Q,sl,ob=>J7 (Ym P T a Q sl ob) (Ym P T b Q sl ob) (c.ev sl)
 | .block n a,Q,sl,ob=>Ym P T a (Yl n Q) sl ob
 | .loop keep a,Q,sl,ob=>ALoop keep (Ym P T a) Q sl ob
 | .exit n,Q,sl,ob=>Q (.exit n) sl ob
 | .ret,Q,sl,ob=>Q .ret sl ob
 | .rgf tag ps g x y keep,Q,sl,ob=>Vc P tag ps x y/\rgK P tag (Xk sl keep) ob Q (g.ev sl)

def S.lift (fs:List Nat):S->Option S2
 | .rg _ l keep pk=>match Xac fs keep pk l [] [] []with
  | some (l,kp)=>some (.rg l kp pk)
  | none=>none
 | .rgT _ t keep pk=>some (.rgT t keep pk)
 | .seq a b=>match a.lift fs,b.lift fs with
  | some a,some b=>some (.seq a b)
  | _,_=>none
 | .skip=>some .skip
 | .cond c a b=>match a.lift fs,b.lift fs with
  | some a,some b=>some (.cond c a b)
  | _,_=>none
 | .block n a=>match a.lift fs with
  | some a=>some (.block n a)
  | none=>none
 | .loop keep a=>match a.lift fs with
  | some a=>some (.loop keep a)
  | none=>none
 | .exit n=>some (.exit n)
 | .ret=>some .ret
 | .rgf tag ps g x y keep=>some (.rgf tag ps g x y keep)

theorem X4t {P:Prg}{tag:Nat}{slk:Xf}{ob:Xa}{Q Q':Yx}(hQ:∀e sl ob,Q e sl ob->Q' e sl ob){v:V}(h:rgK P tag slk ob Q v):rgK P tag slk ob Q' v:=by
 have hq:∀o b,rgQ Q slk (Xb ob) o b->rgQ Q' slk (Xb ob) o b:=fun o b h=>by
  cases o with
  | panic _=>exact h
  | ret v=>
   simp only[rgQ]at h⊢
   generalize Xe b _=z at h⊢
   unfold rgE at h; split at h
   ·exact hQ _ _ _ h
   ·exact hQ _ _ _ h
   ·exact hQ _ _ _ h
   ·exact h.elim
 unfold rgK at h; split at h
 ·exact⟨h.1,h.2.mono hq⟩
 ·exact⟨h.1,h.2.mono hq⟩
 ·exact h.elim

theorem S.lift_sound {P:Prg}{T:Tab}(hT:TOk P T){fs:List Nat}:∀(s:S) {s2:S2} {Q Q':Yx} {sl:Xf} {ob:Xa},s.lift fs=some s2->(∀e sl ob,Q e sl ob->Q' e sl ob)->Ym P T s2 Q sl ob->cwp P s Q' sl ob
 | .rg o l keep pk,s2,Q,Q',sl,ob,h,hQ,hc=>by
  simp only[S.lift]at h
  split at h
  ·rename_i l' kp hl
   cases h
   simp only[Ym]at hc
   simp only[cwp]
   exact Yr hT (K:=fun sl ob=>Q .normal sl ob) (Pn:=fun v sl ob=>Q (.panic v) sl ob) (fun _ _ h=>hQ _ _ _ h) (fun _ _ _ h=>hQ _ _ _ h) l
    (fun k p e h=>by simp[ent,Wb]at h; obtain⟨rfl,rfl⟩:=h; exact⟨fun _=>rfl,fun h=>by cases h⟩) hl hc
  ·cases h
 | .rgT n t keep pk,s2,Q,Q',sl,ob,h,hQ,hc=>by
  simp only[S.lift]at h
  cases h
  simp only[Ym]at hc
  simp only[cwp]
  exact Xgw (fun _ _ h=>hQ _ _ _ h) (fun _ _ _ h=>hQ _ _ _ h) t sl ob hc
 | .seq a b,s2,Q,Q',sl,ob,h,hQ,hc=>by
  simp only[S.lift]at h
  split at h
  ·rename_i a' b' ha hb
   cases h
   simp only[Ym]at hc
   simp only[cwp]
   refine S.lift_sound hT a ha (fun e sl ob h=>?_) hc
   cases e with
   | normal=>exact S.lift_sound hT b hb hQ h
   | _=>exact hQ _ _ _ h
  ·cases h
 | .skip,s2,Q,Q',sl,ob,h,hQ,hc=>by simp only[S.lift]at h; cases h; exact hQ _ _ _ hc
 | .cond c a b,s2,Q,Q',sl,ob,h,hQ,hc=>by
  simp only[S.lift]at h
  split at h
  ·rename_i a' b' ha hb
   cases h
   simp only[Ym]at hc
   simp only[cwp]
   generalize c.ev sl=v at hc⊢
   unfold J7 at hc; split at hc
   ·exact⟨fun e=>S.lift_sound hT a ha hQ (hc.1 e),fun e=>S.lift_sound hT b hb hQ (hc.2 e)⟩
   ·exact hc.elim
  ·cases h
 | .block n a,s2,Q,Q',sl,ob,h,hQ,hc=>by
  simp only[S.lift]at h
  split at h
  ·rename_i a' ha
   cases h
   simp only[Ym]at hc
   simp only[cwp]
   refine S.lift_sound hT a ha (fun e sl ob h=>?_) hc
   cases e with
   | exit m=>
    simp only[Yl]at h⊢
    split
    ·rename_i e; rw[if_pos e]at h; exact hQ _ _ _ h
    ·rename_i e; rw[if_neg e]at h; exact hQ _ _ _ h
   | _=>exact hQ _ _ _ h
  ·cases h
 | .loop keep a,s2,Q,Q',sl,ob,h,hQ,hc=>by
  simp only[S.lift]at h
  split at h
  ·rename_i a' ha
   cases h
   simp only[Ym]at hc
   simp only[cwp]
   obtain⟨ι,S,O,I,μ,i0,h1,h2,h3,h4⟩:=hc.run
   refine⟨⟨ι,S,O,I,μ,i0,h1,h2,h3,fun i hi=>S.lift_sound hT a ha (fun e sl ob h=>?_) (h4 i hi)⟩⟩
   cases e with
   | normal=>exact h
   | _=>exact hQ _ _ _ h
  ·cases h
 | .exit n,s2,Q,Q',sl,ob,h,hQ,hc=>by simp only[S.lift]at h; cases h; exact hQ _ _ _ hc
 | .ret,s2,Q,Q',sl,ob,h,hQ,hc=>by simp only[S.lift]at h; cases h; exact hQ _ _ _ hc
 | .rgf tag ps g x y keep,s2,Q,Q',sl,ob,h,hQ,hc=>by
  simp only[S.lift]at h; cases h
  simp only[Ym]at hc
  simp only[cwp]
  exact⟨hc.1,X4t hQ hc.2⟩
end Go.Ab
namespace Go.Ab
open Go

theorem Xg {P:Prg}{p:Program}(hP:P.p=p)(hm:p.follows .mixedOrders=true){f:Nat}{s:S}{rs:List RV}{ds:List D}{ob0:Xa}{K:V->Prop}{fs:List Nat}{s2:S2}{T:Tab}(hc:Xi p f ds.length s rs=true)(hl:s.lift fs=some s2)(hT:TOk P T)
  (h:Ym P T s2 (U0 rs K) (Vo 0 (ds.map .d)) []):PCall P f (ds.map .d) ob0 K:=
 X4n hP hm hc (S.lift_sound hT s hl (fun _ _ _ h=>h) h)

theorem Xo {P:Prg}{p:Program}(hP:P.p=p)(hm:p.follows .mixedOrders=true){f:Nat}{s:S}{rs:List RV}{vs:List V}{ob:Xa}{K:Out->Xa->Prop}{fs:List Nat}{s2:S2}{T:Tab}(hc:Xi p f vs.length s rs=true)(hl:s.lift fs=some s2)(hT:TOk P T)
  (h:(∀kp,V.mens (Xd (Xb ob) kp) vs=false)->(∀kp,Xh (Xd (Xb ob) kp) ob=true)->Ym P T s2 (Vq (Xb ob) rs K) (Vo 0 vs) ob):ACall P f vs ob K:=
 ACall.of_wf fun h1 h2=>by subst hP; exact Xdn hm hc (S.lift_sound hT s hl (fun _ _ _ h=>h) (h h1 h2))

def PFn (P:Prg)(f:Nat)(F:Fn):Prop:=∀vs,F.pre vs->∀(ob:Xa) (K:V->Prop),K (F.val vs)->PCall P f vs ob K
theorem TOk.nil {P:Prg}:TOk P []:=fun f F h=>by simp[Je]at h
theorem TOk.cons {P:Prg}{T:Tab}{f:Nat}{F:Fn}(h:PFn P f F)(hT:TOk P T):TOk P ((f,F)::T):=fun g G hg=>by
 simp only[Je]at hg
 split at hg
 ·rename_i e; subst e; cases hg; exact h
 ·exact hT g G hg

def Yst (v:V):Prop:=Xx5 (fun w=>w=Yeb v) v
def mxS (u v:V):Prop:=mxK (fun w=>w=mxV u v) u v
def X5k (o:BinOp)(u v:V):Prop:=Xn5 o (fun w=>w=X79 o u v) u v
def Xd8 (e:Bool)(v:V):Prop:=Vh e (fun w=>w=Ja e v) v
def Ysh (k:IntKind)(v:V):Prop:=Xue k (fun w=>w=X8z k v) v
def idxS (u v:V):Prop:=X0b (fun w=>w=Yg3 u v) u v
def Xiq (ob:Xa)(z:Nat)(u v:V):Prop:=Xa9 ob z (fun w=>w=Xir z u v) u v
def Xla (ob:Xa)(n z:Nat)(u v:V):Prop:=Xba ob n z (fun w=>w=Xfh u v) u v
def Xq4 (ob:Xa)(f fo:Nat)(v:V):Prop:=V6 ob f fo (fun w=>w=Xk4 f fo v) v
def ldS (ob:Xa)(n:Nat)(ag:Bool)(v:V):Prop:=ldK ob n ag (fun w=>w=ldV ob v) v
def Xrg (v:V):Prop:=Xbb (fun w=>w=v) v
def X37 (v:V):Prop:=Xcl (fun w=>w=Xlh v) v
def Qf (ob:Xa)(v:V):Prop:=Jd ob (fun w=>w=Uz v) v
def Xbf (l h:Option V)(v:V):Prop:=Xdk l h (fun w=>w=Jv l h v) v
def Ysn (i:Nat)(v:V):Prop:=X0a i (fun w=>w=Ye6 i v) v
def Ys1 (t:Nat)(z:D)(v:V):Prop:=X46 t z (fun w=>w=Yfi t z v) v

section
variable (P:Prg) (T:Tab) (sl:Xf) (ob:Xa) (x y z:E) (a:A) (u v w:V) (k j n m:Nat) (b c:Bool) (kd kd':IntKind) (i i':Int) (s s':List UInt8) (xs:List D) (vs:List V) (d:D) (o:BinOp) (p:List Nat)
-- what expressions yield
@[simp] theorem v_a:E.val T sl ob (.a a)=a.ev sl:=by simp only[E.val]
@[simp] theorem v_ite:E.val T sl ob (.ite x y z)=Xcw (x.val T sl ob) (y.val T sl ob) (z.val T sl ob):=by simp only[E.val]
@[simp] theorem v_call:E.val T sl ob (.call k x)=X1m (Je T k) (x.val T sl ob):=by simp only[E.val]
@[simp] theorem v_nil:E.val T sl ob .nil=.tup []:=by simp only[E.val]
@[simp] theorem v_cons:E.val T sl ob (.cons x y)=Xuc (x.val T sl ob) (y.val T sl ob):=by simp only[E.val]
@[simp] theorem v_not:E.val T sl ob (.u (.not (.t 0)) x)=Yeb (x.val T sl ob):=by simp[E.val,C.val]
@[simp] theorem v_mx:E.val T sl ob (.b (.mx (.t 0) (.t 1)) x y)=mxV (x.val T sl ob) (y.val T sl ob):=by simp[E.val,C.val]
@[simp] theorem v_bin:E.val T sl ob (.b (.bin o (.t 0) (.t 1)) x y)=X79 o (x.val T sl ob) (y.val T sl ob):=by simp[E.val,C.val]
@[simp] theorem v_isnil:E.val T sl ob (.u (.isnil b (.t 0)) x)=Ja b (x.val T sl ob):=by simp[E.val,C.val]
@[simp] theorem v_cvi:E.val T sl ob (.u (.cvi kd (.t 0)) x)=X8z kd (x.val T sl ob):=by simp[E.val,C.val]
@[simp] theorem v_idx:E.val T sl ob (.b (.idx (.t 0) (.t 1)) x y)=Yg3 (x.val T sl ob) (y.val T sl ob):=by simp[E.val,C.val]
@[simp] theorem v_idxA:E.val T sl ob (.b (.idxA n (.t 0) (.t 1)) x y)=Xir n (x.val T sl ob) (y.val T sl ob):=by simp[E.val,C.val]
@[simp] theorem v_idxP:E.val T sl ob (.b (.idxP k n (.t 0) (.t 1)) x y)=Xfh (x.val T sl ob) (y.val T sl ob):=by simp[E.val,C.val]
@[simp] theorem v_fldA:E.val T sl ob (.u (.fldA k n (.t 0)) x)=Xk4 k n (x.val T sl ob):=by simp[E.val,C.val]
@[simp] theorem v_ld:E.val T sl ob (.u (.ld n b (.t 0)) x)=ldV ob (x.val T sl ob):=by simp[E.val,C.val]
@[simp] theorem v_nilc:E.val T sl ob (.u (.nilc (.t 0)) x)=x.val T sl ob:=by simp[E.val,C.val]
@[simp] theorem v_lenS:E.val T sl ob (.u (.lenS (.t 0)) x)=Xlh (x.val T sl ob):=by simp[E.val,C.val]
@[simp] theorem v_lenL:E.val T sl ob (.u (.lenL (.t 0)) x)=Uz (x.val T sl ob):=by simp[E.val,C.val]
@[simp] theorem v_slcS1:E.val T sl ob (.b (.slcS (.t 0) (some (.t 1)) none) x y)=Jv (some (y.val T sl ob)) none (x.val T sl ob):=by simp[E.val,C.val]
@[simp] theorem v_slcS2:E.val T sl ob (.b (.slcS (.t 0) none (some (.t 1))) x y)=Jv none (some (y.val T sl ob)) (x.val T sl ob):=by simp[E.val,C.val]
@[simp] theorem v_slcS3:E.val T sl ob (.t (.slcS (.t 0) (some (.t 1)) (some (.t 2))) x y z)=Jv (some (y.val T sl ob)) (some (z.val T sl ob)) (x.val T sl ob):=by simp[E.val,C.val]
@[simp] theorem v_ext:E.val T sl ob (.u (.ext (.t 0) n) x)=Ye6 n (x.val T sl ob):=by simp[E.val,C.val]
@[simp] theorem v_mki:E.val T sl ob (.u (.mki n (.t 0)) x)=X4g n (x.val T sl ob):=by simp[E.val,C.val]
@[simp] theorem v_tas:E.val T sl ob (.u (.tas n d (.t 0)) x)=Yfi n d (x.val T sl ob):=by simp[E.val,C.val]
-- when expressions are safe
@[simp] theorem o_a:E.ok T sl ob (.a a)=True:=by simp only[E.ok]
@[simp] theorem o_ite:E.ok T sl ob (.ite x y z)=(x.ok T sl ob/\Xb4 (x.val T sl ob)/\(isB true (x.val T sl ob)=true->y.ok T sl ob)/\(isB false (x.val T sl ob)=true->z.ok T sl ob)):=by simp only[E.ok]
@[simp] theorem o_call:E.ok T sl ob (.call k x)=(x.ok T sl ob/\X1l (Je T k) (x.val T sl ob)):=by simp only[E.ok]
@[simp] theorem o_nil:E.ok T sl ob .nil=True:=by simp only[E.ok]
@[simp] theorem o_cons:E.ok T sl ob (.cons x y)=(x.ok T sl ob/\y.ok T sl ob):=by simp only[E.ok]
@[simp] theorem o_not:E.ok T sl ob (.u (.not (.t 0)) x)=(x.ok T sl ob/\Yst (x.val T sl ob)):=by simp[E.ok,C.ok,C.val,Yst]
@[simp] theorem o_mx:E.ok T sl ob (.b (.mx (.t 0) (.t 1)) x y)=(x.ok T sl ob/\y.ok T sl ob/\mxS (x.val T sl ob) (y.val T sl ob)):=by simp[E.ok,C.ok,C.val,mxS]
@[simp] theorem o_bin:E.ok T sl ob (.b (.bin o (.t 0) (.t 1)) x y)=(x.ok T sl ob/\y.ok T sl ob/\X5k o (x.val T sl ob) (y.val T sl ob)):=by simp[E.ok,C.ok,C.val,X5k]
@[simp] theorem o_isnil:E.ok T sl ob (.u (.isnil b (.t 0)) x)=(x.ok T sl ob/\Xd8 b (x.val T sl ob)):=by simp[E.ok,C.ok,C.val,Xd8]
@[simp] theorem o_cvi:E.ok T sl ob (.u (.cvi kd (.t 0)) x)=(x.ok T sl ob/\Ysh kd (x.val T sl ob)):=by simp[E.ok,C.ok,C.val,Ysh]
@[simp] theorem o_idx:E.ok T sl ob (.b (.idx (.t 0) (.t 1)) x y)=(x.ok T sl ob/\y.ok T sl ob/\idxS (x.val T sl ob) (y.val T sl ob)):=by simp[E.ok,C.ok,C.val,idxS]
@[simp] theorem o_idxA:E.ok T sl ob (.b (.idxA n (.t 0) (.t 1)) x y)=(x.ok T sl ob/\y.ok T sl ob/\Xiq ob n (x.val T sl ob) (y.val T sl ob)):=by simp[E.ok,C.ok,C.val,Xiq]
@[simp] theorem o_idxP:E.ok T sl ob (.b (.idxP k n (.t 0) (.t 1)) x y)=(x.ok T sl ob/\y.ok T sl ob/\Xla ob k n (x.val T sl ob) (y.val T sl ob)):=by simp[E.ok,C.ok,C.val,Xla]
@[simp] theorem o_fldA:E.ok T sl ob (.u (.fldA k n (.t 0)) x)=(x.ok T sl ob/\Xq4 ob k n (x.val T sl ob)):=by simp[E.ok,C.ok,C.val,Xq4]
@[simp] theorem o_ld:E.ok T sl ob (.u (.ld n b (.t 0)) x)=(x.ok T sl ob/\ldS ob n b (x.val T sl ob)):=by simp[E.ok,C.ok,C.val,ldS]
@[simp] theorem o_nilc:E.ok T sl ob (.u (.nilc (.t 0)) x)=(x.ok T sl ob/\Xrg (x.val T sl ob)):=by simp[E.ok,C.ok,C.val,Xrg]
@[simp] theorem o_lenS:E.ok T sl ob (.u (.lenS (.t 0)) x)=(x.ok T sl ob/\X37 (x.val T sl ob)):=by simp[E.ok,C.ok,C.val,X37]
@[simp] theorem o_lenL:E.ok T sl ob (.u (.lenL (.t 0)) x)=(x.ok T sl ob/\Qf ob (x.val T sl ob)):=by simp[E.ok,C.ok,C.val,Qf]
@[simp] theorem o_slcS1:E.ok T sl ob (.b (.slcS (.t 0) (some (.t 1)) none) x y)=(x.ok T sl ob/\y.ok T sl ob/\Xbf (some (y.val T sl ob)) none (x.val T sl ob)):=by simp[E.ok,C.ok,C.val,Xbf]
@[simp] theorem o_slcS2:E.ok T sl ob (.b (.slcS (.t 0) none (some (.t 1))) x y)=(x.ok T sl ob/\y.ok T sl ob/\Xbf none (some (y.val T sl ob)) (x.val T sl ob)):=by simp[E.ok,C.ok,C.val,Xbf]
@[simp] theorem o_slcS3:E.ok T sl ob (.t (.slcS (.t 0) (some (.t 1)) (some (.t 2))) x y z)=(x.ok T sl ob/\y.ok T sl ob/\z.ok T sl ob/\Xbf (some (y.val T sl ob)) (some (z.val T sl ob)) (x.val T sl ob)):=by simp[E.ok,C.ok,C.val,Xbf]
@[simp] theorem o_ext:E.ok T sl ob (.u (.ext (.t 0) n) x)=(x.ok T sl ob/\Ysn n (x.val T sl ob)):=by simp[E.ok,C.ok,C.val,Ysn]
@[simp] theorem o_mki:E.ok T sl ob (.u (.mki n (.t 0)) x)=x.ok T sl ob:=by simp[E.ok,C.ok,C.val]
@[simp] theorem o_tas:E.ok T sl ob (.u (.tas n d (.t 0)) x)=(x.ok T sl ob/\Ys1 n d (x.val T sl ob)):=by simp[E.ok,C.ok,C.val,Ys1]
-- values
@[simp] theorem pickV_b (b1 b2:Bool):Xcw (.d (.bool b)) (.d (.bool b1)) (.d (.bool b2))=.d (.bool (if b then b1 else b2)):=by simp only[Xcw]
attribute [simp] Xyg Xye
@[simp] theorem notV_b:Yeb (.d (.bool b))=.d (.bool (!b)):=by simp only[Yeb]
@[simp] theorem notS_b:Yst (.d (.bool b))=True:=by simp[Yst]
@[simp] theorem mxV_i:mxV (.d (.int kd i)) (.d (.int kd' i'))=.d (.int kd (if i' > i then i' else i)):=by simp only[mxV]
@[simp] theorem mxS_i:mxS (.d (.int kd i)) (.d (.int kd' i'))=True:=by simp[mxS,mxK,mxV]
@[simp] theorem binV_i:X79 o (.d (.int kd i)) (.d (.int kd' i'))=Xaw o kd i i':=by simp only[X79]
@[simp] theorem binV_s:X79 o (.d (.str s)) (.d (.str s'))=X7h o s s':=by simp only[X79]
@[simp] theorem intV_add:Xaw .add kd i i'=.d (.int kd (kd.wrap (i+i'))):=by simp only[Xaw]
@[simp] theorem intV_sub:Xaw .sub kd i i'=.d (.int kd (kd.wrap (i-i'))):=by simp only[Xaw]
@[simp] theorem intV_mul:Xaw .mul kd i i'=.d (.int kd (kd.wrap (i*i'))):=by simp only[Xaw]
@[simp] theorem intV_eql:Xaw .eql kd i i'=.d (.bool (i==i')):=by simp only[Xaw]
@[simp] theorem intV_neq:Xaw .neq kd i i'=.d (.bool (i != i')):=by simp only[Xaw]
@[simp] theorem intV_lss:Xaw .lss kd i i'=.d (.bool (decide (i<i'))):=by simp only[Xaw]
@[simp] theorem intV_leq:Xaw .leq kd i i'=.d (.bool (decide (i<=i'))):=by simp only[Xaw]
@[simp] theorem intV_gtr:Xaw .gtr kd i i'=.d (.bool (decide (i'<i))):=by simp only[Xaw]
@[simp] theorem intV_geq:Xaw .geq kd i i'=.d (.bool (decide (i'<=i))):=by simp only[Xaw]
@[simp] theorem strV_eql:X7h .eql s s'=.d (.bool (s==s')):=by simp only[X7h]
@[simp] theorem strV_neq:X7h .neq s s'=.d (.bool (s != s')):=by simp only[X7h]
def Yu9 (o:BinOp)(i:Int):Prop:=match o with
 | .quo | .rem=>i ≠ 0
 | .shl | .shr=>0<=i
 | _=>True
@[simp] theorem binS_i:X5k o (.d (.int kd i)) (.d (.int kd i'))=Yu9 o i':=by cases o<;>simp[X5k,Yu9,X0d,Xaw]
attribute [simp] Yu9
@[simp] theorem binS_eql:X5k .eql (.d (.str s)) (.d (.str s'))=True:=by simp[X5k]
@[simp] theorem binS_neq:X5k .neq (.d (.str s)) (.d (.str s'))=True:=by simp[X5k]
@[simp] theorem isnilV_n:Ja b (.d .nili)=.d (.bool b):=by simp only[Ja]
@[simp] theorem isnilS_n:Xd8 b (.d .nili)=True:=by simp[Xd8]
@[simp] theorem isnilV_di:Ja b (.d (.iface k d))=.d (.bool (!b)):=by simp only[Ja]
@[simp] theorem isnilS_di:Xd8 b (.d (.iface k d))=True:=by simp[Xd8]
@[simp] theorem cviV_i:X8z kd (.d (.int kd' i))=.d (.int kd (kd.wrap i)):=by simp only[X8z]
@[simp] theorem cviS_i:Ysh kd (.d (.int kd' i))=True:=by simp[Ysh]
@[simp] theorem idxV_s:Yg3 (.d (.str s)) (.d (.int kd i))=.d (.int .u8 (s.getD i.toNat 0).toNat):=by simp only[Yg3]
@[simp] theorem idxS_s:idxS (.d (.str s)) (.d (.int kd i))=(0<=i/\i<s.length):=by simp[idxS]
@[simp] theorem idxAV_l:Xir m (.d (.list n xs)) (.d (.int kd i))=.d (.ref (xs.getD i.toNat default)):=by simp only[Xir]
@[simp] theorem idxAS_l:Xiq ob n (.d (.list n xs)) (.d (.int kd i))=(0<=i/\i<xs.length):=by simp[Xiq]
@[simp] theorem idxPV_p:Xfh (.ptr j p) (.d (.int kd i))=.ptr j (p++[i.toNat]):=by simp only[Xfh]
@[simp] theorem idxPV_c:Xfh (.d (.ref (.agg xs))) (.d (.int kd i))=.d (.ref (xs.getD i.toNat default)):=by simp only[Xfh]
@[simp] theorem idxPS_p:Xla ob k n (.ptr j p) (.d (.int kd i))=((0<=i/\i<k)/\∃ks,Zk (atO ob j p)=some ks/\ks.length=k/\∀k∈ks,k.size=n):=by simp[Xla]
@[simp] theorem X9t:Xla ob k n (.d (.ref (.agg xs))) (.d (.int kd i))=((0<=i/\i<k)/\xs.length=k/\∀x∈xs,x.sz=n):=by simp[Xla]
@[simp] theorem fldAV_p:Xk4 k n (.ptr j p)=.ptr j (p++[k]):=by simp only[Xk4]
@[simp] theorem fldAV_c:Xk4 k n (.d (.ref (.agg xs)))=.d (.ref (xs.getD k default)):=by simp only[Xk4]
def Xo3 (f fo:Nat):Option (List V)->Prop
 | some ks=>f<ks.length/\Sh.sizes ((ks.take f).map V.shape)=fo
 | none=>False
@[simp] theorem fldASo_s:Xo3 k n (some vs)=(k<vs.length/\Sh.sizes ((vs.take k).map V.shape)=n):=by simp only[Xo3]
@[simp] theorem fldAS_p:Xq4 ob k n (.ptr j p)=Xo3 k n (Zk (atO ob j p)):=by
 simp only[Xq4,V6,Xo3]; cases Zk (atO ob j p)<;>simp[Q3]
@[simp] theorem fldAS_c:Xq4 ob k n (.d (.ref (.agg xs)))=(k<xs.length/\D.szs (xs.take k)=n):=by simp[Xq4]
@[simp] theorem ldVo_s:X53 (some v)=v:=by simp only[X53]
@[simp] theorem ldV_p:ldV ob (.ptr j p)=X53 (atO ob j p):=by simp only[ldV]
@[simp] theorem ldV_c:ldV ob (.d (.ref d))=.d d:=by simp only[ldV]
def Ye9 (n:Nat)(b:Bool):Option V->Prop
 | some v=>v.size=n/\v.isAgg=b
 | none=>False
@[simp] theorem ldSo_s:Ye9 n b (some v)=(v.size=n/\v.isAgg=b):=by simp only[Ye9]
@[simp] theorem ldS_p:ldS ob n b (.ptr j p)=Ye9 n b (atO ob j p):=by
 simp only[ldS,ldK,ldV]; cases atO ob j p<;>simp[Xi2,Ye9,X53]
@[simp] theorem ldS_c:ldS ob n b (.d (.ref d))=(d.sz=n/\(V.d d).isAgg=b):=by simp[ldS]
@[simp] theorem nilcS_p:Xrg (.ptr j p)=True:=by simp[Xrg]
@[simp] theorem nilcS_c:Xrg (.d (.ref d))=True:=by simp[Xrg]
@[simp] theorem lenSV_s:Xlh (.d (.str s))=.d (.int .i64 s.length):=by simp only[Xlh]
@[simp] theorem lenSS_s:X37 (.d (.str s))=True:=by simp[X37]
@[simp] theorem lenLV_l:Uz (.d (.list n xs))=.d (.int .i64 xs.length):=by simp only[Uz]
@[simp] theorem lenLV_n:Uz (.d .nils)=.d (.int .i64 0):=by simp only[Uz]
@[simp] theorem lenLV_o:Uz (.sl j n)=.d (.int .i64 n):=by simp only[Uz]
@[simp] theorem lenLS_l:Qf ob (.d (.list n xs))=True:=by simp[Qf]
@[simp] theorem lenLS_n:Qf ob (.d .nils)=True:=by simp[Qf]
@[simp] theorem lenLS_o:Qf ob (.sl j n)=((∃E z xs,Xe ob j=some (.arr E z xs)/\n=xs.length)\/∃E z xs,Xe ob j=some (.vec E z xs)/\n=xs.length):=by simp[Qf]
@[simp] theorem slcSV_sn:Jv (some (.d (.int kd i))) none (.d (.str s))=.d (.str (s.drop i.toNat)):=by simp[Jv,X5m]
@[simp] theorem slcSV_ns:Jv none (some (.d (.int kd i))) (.d (.str s))=.d (.str (s.take i.toNat)):=by simp[Jv,X5m]
@[simp] theorem slcSV_ss:Jv (some (.d (.int kd i))) (some (.d (.int kd' i'))) (.d (.str s))=.d (.str ((s.take i'.toNat).drop i.toNat)):=by simp only[Jv,X5m]
@[simp] theorem slcSS_sn:Xbf (some (.d (.int kd i))) none (.d (.str s))=(0<=i/\i<=s.length):=by simp[Xbf,Jv,X5m]
@[simp] theorem slcSS_ns:Xbf none (some (.d (.int kd i))) (.d (.str s))=(0<=i/\i<=s.length):=by simp[Xbf,Jv,X5m]
@[simp] theorem slcSS_ss:Xbf (some (.d (.int kd i))) (some (.d (.int kd' i'))) (.d (.str s))=((0<=i'/\i'<=s.length)/\0<=i/\i<=i'):=by simp[Xbf,Jv,X5m]
@[simp] theorem extV_t:Ye6 n (.tup vs)=vs.getD n .any:=by simp only[Ye6]
@[simp] theorem extS_t:Ysn n (.tup vs)=(n<vs.length):=by simp[Ysn,Ye6]
@[simp] theorem tasV_dy (d':D):Yfi k d (.d (.iface k d'))=.tup [.d d',.d (.bool true)]:=by simp[Yfi]
@[simp] theorem tasS_d (d':D):Ys1 k d (.d (.iface j d'))=True:=by by_cases h:j=k<;>simp[Ys1,X46,Yfi,h]
@[simp] theorem consV_t:Xuc v (.tup vs)=.tup (v::vs):=by simp only[Xuc]
@[simp] theorem callV_s (F:Fn):X1m (some F) (.tup vs)=F.val vs:=by simp only[X1m]
@[simp] theorem callP_s (F:Fn):X1l (some F) (.tup vs)=F.pre vs:=by simp only[X1l]
@[simp] theorem lookT_eq (F:Fn):Je ((k,F)::T) k=some F:=by simp[Je]
@[simp] theorem lookT_ne (F:Fn)(h:(j==k)=false):Je ((j,F)::T) k=Je T k:=by simp at h; simp[Je,h]
@[simp] theorem isB_b:isB c (.d (.bool b))=(b==c):=by simp only[isB]
@[simp] theorem boolV_b:Xb4 (.d (.bool b))=True:=by simp only[Xb4]
@[simp] theorem whenV_t:Xg8 true v=v:=by simp[Xg8]
@[simp] theorem whenV_f:Xg8 false v=.undef:=by simp[Xg8]
@[simp] theorem holdsB_nil:Zh T sl ob []=true:=by simp[Zh]
@[simp] theorem holdsB_cons (l:List (E×Bool)):Zh T sl ob ((x,b)::l)=(isB b (x.val T sl ob)&&Zh T sl ob l):=by simp[Zh]
-- folded statements
@[simp] theorem zz (KS:Xf->Xa->Prop)(PS:V->Xf->Xa->Prop):Vn P T KS PS [] sl ob=KS sl ob:=by simp only[Vn]
@[simp] theorem zw (KS:Xf->Xa->Prop)(PS:V->Xf->Xa->Prop)(q:List (E×Bool))(l:List It2):Vn P T KS PS (.chk q x::l) sl ob=((Zh T sl ob q=true->x.ok T sl ob)/\Vn P T KS PS l sl ob):=by simp only[Vn]
@[simp] theorem zy (KS:Xf->Xa->Prop)(PS:V->Xf->Xa->Prop)(q:List (E×Bool))(l:List It2):Vn P T KS PS (.lt k q x::l) sl ob=((Zh T sl ob q=true->x.ok T sl ob)/\Vn P T KS PS l ((k,Xg8 (Zh T sl ob q) (x.val T sl ob))::sl) ob):=by simp only[Vn]
@[simp] theorem wa (KS:Xf->Xa->Prop)(PS:V->Xf->Xa->Prop)(dd:Option Nat)(e:I)(l:List It2):Vn P T KS PS (.op dd e::l) sl ob=e.wp P sl ob (fun v ob'=>Vn P T KS PS l (put sl dd v) ob') (fun v ob'=>PS v sl ob'):=by simp only[Vn]
@[simp] theorem zx (KS:Xf->Xa->Prop)(PS:V->Xf->Xa->Prop)(q:List (E×Bool))(dd:Option Nat)(e:I)(l:List It2):Vn P T KS PS (.gop q dd e::l) sl ob=((Zh T sl ob q=true->e.wp P sl ob (fun v ob'=>Vn P T KS PS l (put sl dd v) ob') (fun v ob'=>PS v sl ob'))/\(Zh T sl ob q=false->Vn P T KS PS l (put sl dd .undef) ob)):=by simp only[Vn]
@[simp] theorem keepE_nil:V7 T sl ob []=[]:=by simp only[V7]
@[simp] theorem keepE_cons (l:List (Nat×E)):V7 T sl ob ((k,x)::l)=(k,x.val T sl ob)::V7 T sl ob l:=by simp only[V7]
@[simp] theorem keepOk_nil:Wq T sl ob []=True:=by simp only[Wq]
@[simp] theorem keepOk_cons (l:List (Nat×E)):Wq T sl ob ((k,x)::l)=(x.ok T sl ob/\Wq T sl ob l):=by simp only[Wq]
variable (Q:Yx) (s1 s2:S2)
@[simp] theorem qm (l:List It2)(kp:List (Nat×E))(pk:List Nat):Ym P T (.rg l kp pk) Q sl ob=Vn P T (fun sl ob=>Wq T sl ob kp/\Q .normal (V7 T sl ob kp) ob) (fun v sl ob=>Q (.panic v) (Xk sl pk) ob) l sl ob:=by simp only[Ym]
@[simp] theorem qp:Ym P T (.seq s1 s2) Q sl ob=Ym P T s1 (Wm (Ym P T s2 Q) Q) sl ob:=by simp only[Ym]
@[simp] theorem qq:Ym P T .skip Q sl ob=Q .normal sl ob:=by simp only[Ym]
@[simp] theorem qj:Ym P T (.cond a s1 s2) Q sl ob=J7 (Ym P T s1 Q sl ob) (Ym P T s2 Q sl ob) (a.ev sl):=by simp only[Ym]
@[simp] theorem qi:Ym P T (.block n s1) Q sl ob=Ym P T s1 (Yl n Q) sl ob:=by simp only[Ym]
@[simp] theorem cwp2_loop (kp:List Nat):Ym P T (.loop kp s1) Q sl ob=ALoop kp (Ym P T s1) Q sl ob:=by simp only[Ym]
@[simp] theorem qk:Ym P T (.exit n) Q sl ob=Q (.exit n) sl ob:=by simp only[Ym]
@[simp] theorem ql:Ym P T .ret Q sl ob=Q .ret sl ob:=by simp only[Ym]
end
@[congr] theorem rwp2_congr {P:Prg}{T:Tab}{KS:Xf->Xa->Prop}{PS:V->Xf->Xa->Prop}{l:List It2}{sl sl':Xf}{ob ob':Xa}(h:sl=sl')(h':ob=ob'):Vn P T KS PS l sl ob=Vn P T KS PS l sl' ob':=by rw[h,h']
@[congr] theorem cwp2_congr {P:Prg}{T:Tab}{s:S2}{Q:Yx}{sl sl':Xf}{ob ob':Xa}(h:sl=sl')(h':ob=ob'):Ym P T s Q sl ob=Ym P T s Q sl' ob':=by rw[h,h']
@[congr] theorem E_val_congr {T:Tab}{sl:Xf}{ob:Xa}{e:E}:E.val T sl ob e=E.val T sl ob e:=rfl
@[congr] theorem E_ok_congr {T:Tab}{sl:Xf}{ob:Xa}{e:E}:E.ok T sl ob e=E.ok T sl ob e:=rfl
end Go.Ab
namespace Go.Ab
open Go

def Xbd {α β:Type}(f:α->Option β):List α->Option (List β)
 | []=>some []
 | x::r=>match f x with
  | some y=>match Xbd f r with
   | some l=>some (y::l)
   | none=>none
  | none=>none
def Xwo (k:Nat):Option Ob->Option D
 | some (.arr _ sz xs)=>if sz ≠ 0/\k=xs.length then some (.list sz xs) else none
 | _=>none
def refO (f:V->Option D):Option V->Option D
 | some t=>(f t).map .ref
 | none=>none
def V.toD (ob:Xa):Nat->V->Option D
 | 0,_=>none
 | _+1,.d x=>some x
 | n+1,.ptr id p=>refO (V.toD ob n) (atO ob id p)
 | _+1,.sl id k=>Xwo k (Xe ob id)
 | n+1,.fn f fi ca=>match Xbd (V.toD ob n) fi,Xbd (V.toD ob n) ca with
  | some l,some m=>some (.fn f l m)
  | _,_=>none
 | n+1,.agg xs=>(Xbd (V.toD ob n) xs).map .agg
 | n+1,.iface t x=>(V.toD ob n x).map (.iface t)
 | _+1,_=>none
def V.toDs (ob:Xa)(n:Nat)(vs:List V):Option (List D):=Xbd (V.toD ob n) vs

mutual
def D.flat:D->Bool
 | .agg xs=>D.flats xs
 | .list _ _ | .ref _ | .fn _ _ _ | .iface _ _=>false
 | _=>true
def D.flats:List D->Bool
 | []=>true
 | x::r=>x.flat&&D.flats r
end
def V.flat:V->Bool
 | .d x=>x.flat
 | _=>false
def V.flatR:V->Bool
 | .d x=>x.flat
 | .tup xs=>xs.all V.flat
 | _=>false

section
variable {w:World} {ρ:Env} {ob:Xa}
def X0f:Nat->Prop:=fun _=>False
theorem Ybp:Xha w (own ρ) w X0f:=fun _ _ _=>⟨rfl,fun h=>h⟩

mutual
theorem D.flat_rep {ow ow':Nat->Prop}:∀(x:D) (cs:List Value),x.flat=true->x.rep w ow cs->x.rep w ow' cs
 | .int _ _,_,_,h | .bool _,_,_,h | .str _,_,_,h | .nils,_,_,h | .nili,_,_,h | .nilp,_,_,h | .nilf,_,_,h | .nilm,_,_,h=>by simpa only[D.rep]using h
 | .agg xs,cs,hf,h=>by simp only[D.rep]at h⊢; simp only[D.flat]at hf; exact D.flats_rep xs cs hf h
 | .list _ _,_,hf,_ | .ref _,_,hf,_ | .fn _ _ _,_,hf,_ | .iface _ _,_,hf,_=>by simp[D.flat]at hf
theorem D.flats_rep {ow ow':Nat->Prop}:∀(xs:List D) (cs:List Value),D.flats xs=true->D.repL w ow xs cs->D.repL w ow' xs cs
 | [],_,_,h=>by simpa only[D.repL]using h
 | x::r,cs,hf,h=>by
  simp only[D.repL]at h⊢
  simp only[D.flats,Bool.and_eq_true]at hf
  obtain⟨c1,c2,e,h1,h2⟩:=h
  exact⟨c1,c2,e,D.flat_rep x c1 hf.1 h1,D.flats_rep r c2 hf.2 h2⟩
end
theorem V.flat_rep {ρ':Env}{v:V}{u:Value}(hf:v.flat=true)(h:v.rep w ρ u):v.rep w ρ' u:=by
 cases v with
 | d x=>
  simp only[V.flat]at hf
  rw[Jo]at h⊢
  rcases h with⟨a,ds,e,r⟩ | ⟨a,r⟩
  ·exact .inl ⟨a,ds,e,D.flat_rep x ds hf r⟩
  ·exact .inr ⟨a,D.flat_rep x _ hf r⟩
 | _=>simp[V.flat]at hf
theorem V.flats_rep {ρ':Env}:∀{vs:List V} {us:List Value},vs.all V.flat=true->V.reps w ρ vs us->V.reps w ρ' vs us
 | [],_,_,h=>by simpa only[V.reps]using h
 | v::r,us,hf,h=>by
  simp only[List.all_cons,Bool.and_eq_true]at hf
  simp only[V.reps]at h⊢
  obtain⟨u,us',e,h1,h2⟩:=h
  exact⟨u,us',e,V.flat_rep (ρ:=ρ) (u:=u) hf.1 h1,V.flats_rep hf.2 h2⟩
theorem V.flatR_rep {ρ':Env}{v:V}{u:Value}(hf:v.flatR=true)(h:v.rep w ρ u):v.rep w ρ' u:=by
 cases v with
 | d x=>exact V.flat_rep (v:=.d x) hf h
 | tup xs=>
  rw[Zw]at h⊢
  obtain⟨vs,e,h⟩:=h
  exact⟨vs,e,V.flats_rep hf h⟩
 | _=>simp[V.flatR]at hf

theorem Xj4 (hO:OM w ρ ob):∀(n:Nat) (v:V) (cs:List Value) (y:D),v.repC w ρ cs->V.toD ob n v=some y->y.rep w X0f cs/\y.isAgg=v.isAgg:=by
 intro n
 induction n with
 | zero=>intro v cs y _ h; simp[V.toD]at h
 | succ n ih=>
  have ihT:∀(v:V) (u:Value) (y:D),v.rep w ρ u->V.toD ob n v=some y->(y.isAgg=true/\∃ds,u=.agg ds.toArray/\y.rep w X0f ds)\/(y.isAgg=false/\y.rep w X0f [u]):=by
   intro v u y h e
   rcases h with h | ⟨a,ds,q,r⟩ | ⟨a,r⟩
   ·subst h; cases n<;>simp[V.toD]at e
   ·obtain⟨h1,h2⟩:=ih v ds y r e; exact .inl ⟨h2.trans a,ds,q,h1⟩
   ·obtain⟨h1,h2⟩:=ih v _ y r e; exact .inr ⟨h2.trans a,h1⟩
  have seqT:∀(vs:List V) (us:List Value) (l:List D),V.reps w ρ vs us->Xbd (V.toD ob n) vs=some l->D.repT w X0f l us:=by
   intro vs
   induction vs with
   | nil=>intro us l h e; simp only[Xbd]at e; cases e; simpa only[V.reps,D.repT]using h
   | cons v r ihr=>
    intro us l h e
    simp only[V.reps]at h
    obtain⟨u,us',rfl,h1,h2⟩:=h
    simp only[Xbd]at e
    split at e
    ·rename_i y hy
     split at e
     ·rename_i l' hl; cases e
      simp only[D.repT]
      exact⟨u,us',rfl,ihT v u y h1 hy,ihr us' l' h2 hl⟩
     ·cases e
    ·cases e
  have Yrl:∀(vs:List V) (cs:List Value) (l:List D),V.repCs w ρ vs cs->Xbd (V.toD ob n) vs=some l->D.repL w X0f l cs:=by
   intro vs
   induction vs with
   | nil=>intro us l h e; simp only[Xbd]at e; cases e; simpa only[V.repCs,D.repL]using h
   | cons v r ihr=>
    intro cs l h e
    simp only[V.repCs]at h
    obtain⟨c1,c2,rfl,h1,h2⟩:=h
    simp only[Xbd]at e
    split at e
    ·rename_i y hy
     split at e
     ·rename_i l' hl; cases e
      simp only[D.repL]
      exact⟨c1,c2,rfl,(ih v c1 y h1 hy).1,ihr c2 l' h2 hl⟩
     ·cases e
    ·cases e
  intro v cs y h e
  cases v with
  | d x=>
   simp only[V.toD]at e; cases e
   simp only[V.repC]at h
   exact⟨D.rep_mono Ybp _ _ h,by cases y<;>rfl⟩
  | ptr id p=>
   simp only[V.toD]at e
   cases hat:atO ob id p with
   | none=>rw[hat]at e; simp only[refO]at e; cases e
   | some t=>
    simp only[hat,refO,Option.map_eq_some_iff]at e
    obtain⟨z,hz,rfl⟩:=e
    obtain⟨t0,b,cs0,E,g1,g2,g3,g4,g5⟩:=Xb5 hO hat
    have hr:(V.ptr id p).rep w ρ (cs.headD undef):=by
     have hl:=V.repC_len _ _ h
     simp[V.shape,Sh.size]at hl
     obtain⟨c,rfl⟩:=List.length_eq_one_iff.1 hl
     exact .inr (.inr ⟨rfl,by simpa using h⟩)
    obtain⟨b',sh,hρ,hu⟩:=Yt hO g1 hr
    rw[g3]at hρ; cases hρ
    have hl:=V.repC_len _ _ h
    simp[V.shape,Sh.size]at hl
    obtain⟨c,rfl⟩:=List.length_eq_one_iff.1 hl
    simp only[List.headD_cons]at hu
    subst hu
    obtain⟨c1,c2,c3,e1,e2,h5⟩:=V.repC_at p t0 t cs0 g5 g2
    refine⟨?_,rfl⟩
    simp only[D.rep]
    refine⟨_,c2,rfl,rfl,⟨fun _=>⟨rfl,fun h=>h,Xj g4⟩,fun i hi=>?_⟩,(ih t c2 z h5 hz).1⟩
    rw[<-e2]
    simp[World.cell?,g4,e1,List.getElem?_append,hi]
  | sl id k=>
   simp only[V.toD]at e
   unfold Xwo at e
   split at e
   ·rename_i E sz xs hl
    split at e
    ·rename_i hc; cases e
     obtain⟨hsz,rfl⟩:=hc
     simp only[V.repC]at h
     obtain⟨o,u,h1,rfl,h2⟩:=h
     have:=Q5 hO hl hsz (u:=u) (by rw[Yb]; exact⟨o,h1,h2⟩)
     rw[Z2 (by simp[V.isAgg]) (by simp)]at this
     simp only[V.repC]at this
     exact⟨D.rep_mono (ow':=X0f) (fun _ _ _=>⟨rfl,fun h=>h⟩) _ _ this,rfl⟩
    ·cases e
   ·cases e
  | fn f fi ca=>
   simp only[V.toD]at e
   split at e
   ·rename_i l m hl hm
    cases e
    simp only[V.repC]at h
    obtain⟨fs,gs,e1,h1,h2⟩:=h
    exact⟨by simp only[D.rep]; exact⟨fs,gs,e1,seqT fi fs l h1 hl,seqT ca gs m h2 hm⟩,rfl⟩
   ·cases e
  | agg xs=>
   simp only[V.toD,Option.map_eq_some_iff]at e
   obtain⟨l,hl,rfl⟩:=e
   simp only[V.repC]at h
   exact⟨by simp only[D.rep]; exact Yrl xs cs l h hl,rfl⟩
  | iface t x=>
   simp only[V.toD,Option.map_eq_some_iff]at e
   obtain⟨z,hz,rfl⟩:=e
   simp only[V.repC]at h
   obtain⟨u,e1,h1⟩:=h
   exact⟨by simp only[D.rep]; exact⟨u,e1,ihT x u z h1 hz⟩,rfl⟩
  | _=>simp[V.toD]at e

theorem Xeo (hO:OM w ρ ob){n:Nat}:∀(vs:List V) (us:List Value) (l:List D),V.reps w ρ vs us->V.toDs ob n vs=some l->D.repT w X0f l us
 | [],us,l,h,e=>by simp only[V.toDs,Xbd]at e; cases e; simpa only[V.reps,D.repT]using h
 | v::r,us,l,h,e=>by
  simp only[V.reps]at h
  obtain⟨u,us',rfl,h1,h2⟩:=h
  simp only[V.toDs,Xbd]at e
  split at e
  ·rename_i y hy
   split at e
   ·rename_i l' hl; cases e
    simp only[D.repT]
    refine⟨u,us',rfl,?_,Xeo hO r us' l' h2 hl⟩
    rcases h1 with h | ⟨a,ds,q,r⟩ | ⟨a,r⟩
    ·subst h; cases n<;>simp[V.toD]at hy
    ·obtain⟨h1,h2⟩:=Xj4 hO n v ds y r hy; exact .inl ⟨h2.trans a,ds,q,h1⟩
    ·obtain⟨h1,h2⟩:=Xj4 hO n v _ y r hy; exact .inr ⟨h2.trans a,h1⟩
   ·cases e
  ·cases e

theorem PCall.borrow {P:Prg}{f n:Nat}{vs:List V}{ds:List D}{K:V->Prop}(hd:V.toDs ob n vs=some ds)(h:PCall P f (ds.map .d) [] fun v=>v.flatR=true/\K v):PCall P f vs ob K:=by
 refine⟨fun w ρ args hO hg hr=>?_⟩
 let ρ0:Env:=⟨fun _=>none,X0f,ρ.gl⟩
 have hno:∀b,¬own ρ0 b:=fun b h=>h.elim (fun ⟨_,_,h,_⟩=>by cases h) (fun h=>h)
 have hO0:OM w ρ0 []:=⟨fun j x hx=>(by simp[Xe]at hx),fun j o hj=>(by cases hj),fun i j o p b hi=>(by cases hi),fun b hb=>hb.elim,fun b o hb=>⟨(hO.glb b o hb).1,hno b⟩,fun b hb=>absurd (.inl hb) (hno b),trivial⟩
 have hr0:V.reps w ρ0 (ds.map .d) args:=by
  rw[Xei]
  have:=Xeo hO vs args ds hr hd
  exact D.repT_mono (ow:=X0f) (fun _ _ _=>⟨rfl,hno _⟩) _ _ this
 refine (h.run w ρ0 args hO0 hg hr0).mono fun e w' ⟨v,u,⟨k1,k2⟩,he,r,x⟩=>⟨v,u,k2,he,V.flatR_rep k1 r,x⟩
theorem PCall.data {P:Prg}{f:Nat}{vs:List V}{ds:List D}{K:V->Prop}(hd:vs=ds.map .d)(h:PCall P f (ds.map .d) ob K):PCall P f vs ob K:=by subst hd; exact h
end

section
variable (ob:Xa) (n k f:Nat) (x:D) (v:V) (vs:List V) (p:List Nat)
@[simp] theorem toD_d:V.toD ob (n+1) (.d x)=some x:=by simp only[V.toD]
@[simp] theorem toD_ptr:V.toD ob (n+1) (.ptr k p)=refO (V.toD ob n) (atO ob k p):=by simp only[V.toD]
@[simp] theorem toD_sl (m:Nat):V.toD ob (n+1) (.sl k m)=Xwo m (Xe ob k):=by simp only[V.toD]
@[simp] theorem lentO_s (m E sz:Nat)(xs:List D):Xwo m (some (.arr E sz xs))=if sz ≠ 0/\m=xs.length then some (.list sz xs) else none:=by simp only[Xwo]
@[simp] theorem refO_s (g:V->Option D):refO g (some v)=(g v).map .ref:=by simp only[refO]
def fnO (f:Nat):Option (List D)->Option (List D)->Option D
 | some l,some m=>some (.fn f l m)
 | _,_=>none
@[simp] theorem toD_fn (l l':List V):V.toD ob (n+1) (.fn f l l')=fnO f (Xbd (V.toD ob n) l) (Xbd (V.toD ob n) l'):=by
 simp only[V.toD]; cases Xbd (V.toD ob n) l<;>cases Xbd (V.toD ob n) l'<;>rfl
@[simp] theorem fnO_ss (l l':List D):fnO f (some l) (some l')=some (.fn f l l'):=by simp only[fnO]
@[simp] theorem toD_agg:V.toD ob (n+1) (.agg vs)=(Xbd (V.toD ob n) vs).map .agg:=by simp only[V.toD]
@[simp] theorem toDs_eq:V.toDs ob n vs=Xbd (V.toD ob n) vs:=by simp only[V.toDs]
@[simp] theorem seqO_nil {α β:Type}(g:α->Option β):Xbd g []=some []:=by simp only[Xbd]
def Yrl {β:Type}:Option β->Option (List β)->Option (List β)
 | some y,some l=>some (y::l)
 | _,_=>none
@[simp] theorem seqO_cons {α β:Type}(g:α->Option β)(a:α)(l:List α):Xbd g (a::l)=Yrl (g a) (Xbd g l):=by
 simp only[Xbd]; cases g a<;>cases Xbd g l<;>rfl
@[simp] theorem seqC_ss {β:Type}(y:β)(l:List β):Yrl (some y) (some l)=some (y::l):=by simp only[Yrl]
end
attribute [simp] D.flat D.flats V.flat V.flatR
end Go.Ab
