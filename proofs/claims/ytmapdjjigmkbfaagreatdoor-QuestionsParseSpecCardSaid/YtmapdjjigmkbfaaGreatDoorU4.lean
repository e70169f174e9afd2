/- Texts of this claim joined by a program, part 4 of 15; the last is: Contracts: names.first of purposes. Condition: the program is the seat's. -/
import Derived.Test.YtmapdjjigmkbfaaGreatDoorU1
import Derived.Test.YtmapdjjigmkbfaaGreatDoorU3
import Derived.IntWalk
import Derived.Defers
import Derived.Recover
import Derived.Test.YtmapdjjigmkbfaaGreatDoorProg
import Derived.KernelRfl
set_option maxRecDepth 100000
set_option linter.unusedSimpArgs false
set_option linter.unusedVariables false
set_option linter.unusedSectionVars false
set_option linter.defProp false
namespace Go.Ab
open Go

theorem Xrz {sl sl':Xb}:∀{ks:List Nat},(∀k∈ks,look sl k=look sl' k)->Xf sl ks=Xf sl' ks
 | [],_=>rfl
 | k::r,h=>by simp only[Xf]; rw[h k (by simp),Xrz (fun j hj=>h j (by simp[hj]))]

theorem Y8 {P:Prg}{T:Tab}(hT:TOk P T){fs keep pk:List Nat}{K K':Xb->Objs->Prop}{Pn Pn':V->Xb->Objs->Prop}(hK:∀s o,K s o->K' s o)(hP:∀v s o,Pn v s o->Pn' v s o) :
  ∀(its:List It) {σ:Sg} {pe pg:List Nat} {sl sl0:Xb} {ob:Objs} {l:List It2} {kp:List (Nat×E)},Inv T σ sl sl0 ob->Xaw fs keep pk its σ pe pg=some (l,kp)->
  Us P T (fun sl ob=>Vm T sl ob kp/\K (Ql T sl ob kp) ob) (fun v sl ob=>Pn v (Xf sl pk) ob) l sl0 ob->rwp P (fun sl ob=>K' (Xf sl keep) ob) (fun v sl ob=>Pn' v (Xf sl pk) ob) its sl ob
 | [],σ,pe,pg,sl,sl0,ob,l,kp,hI,h,hr=>by
  simp only[Xaw]at h
  split at h
  ·rename_i c1 c2 kp' h1 h2 h3
   cases h
   obtain⟨_,hr⟩:=Zd hI h1 hr
   obtain⟨_,hr⟩:=Zd hI (l:=[]) h2 (by simpa using hr)
   simp only[Us]at hr
   simp only[rwp]
   rw[<-(J3 hI h3).1]
   exact hK _ _ hr.2
  ·cases h
 | it::r,σ,pe,pg,sl,sl0,ob,l,kp,hI,h,hr=>by
  simp only[Xaw]at h
  split at h
  ·cases h
  ·rename_i p gs hp
   split at h
   ·rename_i k e hd he
    split at h
    ·rename_i hc
     simp only[Bool.and_eq_true,Bool.not_eq_true',List.contains_eq_mem,decide_eq_false_iff_not]at hc
     obtain⟨⟨⟨c1,c2⟩,c3⟩,c4⟩:=hc
     have go:∀v,(Xr sl p=true->v=e.val T sl0 ob)->(Xr sl p=false->v=.undef)->rwp P (fun sl ob=>K' (Xf sl keep) ob) (fun v sl ob=>Pn' v (Xf sl pk) ob) r ((k,v)::sl) ob:=
      fun v h1 h2=>Y8 hT hK hP r (hI.fold' (e:=e) c1 c2 h1 h2) h hr
     have hI':=hI.fold' (e:=e) c1 c2 (v:=Xjb (Xr sl p) (e.val T sl0 ob)) (fun h=>by rw[h]; rfl) (fun h=>by rw[h]; rfl)
     obtain⟨a,hok⟩:=Xk6 hI he c1 c2 c3 c4 (X0b r hI' h hr)
     cases it with
     | op d i=>
      simp only[It.d]at hd; subst hd
      simp only[It.path]at hp; cases hp
      simp only[rwp]
      exact I.lift_sound hT hI rfl he (hok rfl) (go _ (fun _=>rfl) (fun h=>by cases h))
     | gop g b d i=>
      simp only[It.d]at hd; subst hd
      simp only[It.path]at hp
      split at hp
      ·rename_i q eg hg
       cases hp
       simp only[rwp]
       cases hq:Xr sl q with
       | false=>
        rw[(hI g q eg hg).2 hq]
        simp only[gdK]
        exact go _ (fun h=>by rw[Zg,hq]at h; cases h) (fun _=>rfl)
       | true=>
        have hv:=(hI g q eg hg).1 hq
        have hb:=a.2 g (by simp) q eg hg hq
        have hcg:∀j,look ((g,look sl g)::sl) j=look sl j:=fun j=>by
         simp only[look]; split
         ·rename_i e; rw[e]
         ·rfl
        have main:∀t,look sl g=.d (.bool t)->gdK g b sl (fun sl=>I.wp P sl ob (fun v ob'=>rwp P (fun sl ob=>K' (Xf sl keep) ob) (fun v sl ob=>Pn' v (Xf sl pk) ob) r (put sl (some k) v) ob') (fun v ob'=>Pn' v (Xf sl pk) ob') i) (fun sl=>rwp P (fun sl ob=>K' (Xf sl keep) ob) (fun v sl ob=>Pn' v (Xf sl pk) ob) r (put sl (some k) .undef) ob) (look sl g):=by
         intro t ht
         rw[ht]
         simp only[gdK]
         have hh:∀u,t=u->Inv T σ ((g,.d (.bool u))::sl) sl0 ob:=fun u e=>by
          subst e; rw[<-ht]; exact hI.congr hcg
         have hs:∀u,t=u->∀p,Xr ((g,.d (.bool u))::sl) p=Xr sl p:=fun u e p=>by
          subst e; rw[<-ht]; simp only[Xr,hcg]
         refine⟨fun e1=>?_,fun e1=>?_⟩
         ·have hp1:Xr sl (q++[(g,b)])=true:=by rw[Zg,hq,ht,e1]; simp[isB]
          refine I.lift_sound hT (hh _ e1) (by rw[hs _ e1]; exact hp1) he (hok hp1) ?_
          refine Y8 hT hK hP r ((hh _ e1).fold' (e:=e) c1 c2 (fun _=>rfl) (fun h=>?_)) h hr
          rw[hs _ e1,hp1]at h; cases h
         ·have hp1:Xr sl (q++[(g,b)])=false:=by rw[Zg,hq,ht,e1]; cases b<;>simp[isB]
          refine Y8 hT hK hP r ((hh _ e1).fold' (e:=e) c1 c2 (fun h=>?_) (fun _=>rfl)) h hr
          rw[hs _ e1,hp1]at h; cases h
        rcases Xgm hb with hb | hb
        ·exact main true (by rw[hv,hb])
        ·exact main false (by rw[hv,hb])
      ·cases hp
    ·cases h
   ·rename_i d x hd hx
    split at h
    ·rename_i c1 c2 h1 h2
     split at h
     ·rename_i ms σ2 hm
      split at h
      ·rename_i lp hl
       split at h
       ·rename_i hc
        simp only[Bool.and_eq_true,List.all_eq_true,Option.isNone_iff_eq_none]at hc
        obtain⟨⟨⟨d1,d2⟩,d3⟩,d4⟩:=hc
        split at h
        ·rename_i t kp' ht
         cases h
         obtain⟨_,hr⟩:=Zd hI h1 hr
         obtain⟨a2,hr⟩:=Zd hI h2 hr
         obtain⟨sl1,hI1,hr⟩:=Xf0 hI.kill hm hr
         have hlook:∀{s},Inv T σ2 s sl1 ob->∀k,W5 σ2 k=none->look s k=look sl1 k:=fun hI k hk=>(hI k [] (.a (.t k)) (by simp[ent,hk])).1 rfl
         have hkeep:∀{s},Inv T σ2 s sl1 ob->Xf s pk=Xf sl1 pk:=fun {s} hI=>by
          exact Xrz fun k hk=>hlook hI k (d4 k hk)
         have step:∀{s},Inv T σ2 s sl1 ob->it.i.wp P sl1 ob (fun v ob'=>Us P T (fun sl ob=>Vm T sl ob kp/\K (Ql T sl ob kp) ob) (fun v sl ob=>Pn v (Xf sl pk) ob) t (put sl1 it.d v) ob') (fun v ob'=>Pn v (Xf sl1 pk) ob')->
           it.i.wp P s ob (fun v ob'=>rwp P (fun sl ob=>K' (Xf sl keep) ob) (fun v sl ob=>Pn' v (Xf sl pk) ob) r (put s it.d v) ob') (fun v ob'=>Pn' v (Xf s pk) ob'):=fun {s} hI h=>by
          rw[I.wp_eq (sl':=sl1) (fun k hk=>hlook hI k (d1 k hk))]
          refine I.wp_mono (fun v b hv=>?_) (fun v b hv=>?_) h
          ·exact Y8 hT hK hP r (hI.eff d2 d3) ht hv
          ·rw[hkeep hI]; exact hP _ _ _ hv
         cases it with
         | op d' i=>
          simp only[It.eff,Us]at hr
          simp only[rwp]
          exact step hI1 hr
         | gop g b d' i=>
          simp only[It.eff,Us]at hr
          simp only[It.path]at hp
          split at hp
          ·rename_i q eg hg
           cases hp
           have hh:=U7 hI1 _ _ _ hl rfl
           have none':∀{s},Inv T σ2 s sl1 ob->Xr sl (q++[(g,b)])=false->rwp P (fun sl ob=>K' (Xf sl keep) ob) (fun v sl ob=>Pn' v (Xf sl pk) ob) r (put s d' .undef) ob:=fun {s} hI hf=>
            Y8 hT hK hP r (hI.eff d2 d3) ht (hr.2 (by rw[<-hh]; exact hf))
           simp only[rwp]
           cases hq:Xr sl q with
           | false=>
            rw[(hI g q eg hg).2 hq]
            simp only[gdK]
            exact none' hI1 (by rw[Zg,hq]; rfl)
           | true=>
            have hv:=(hI g q eg hg).1 hq
            have hb:=(a2 g (by simp) q eg hg hq).2.1
            have hcg:∀j,look ((g,look sl g)::sl) j=look sl j:=fun j=>by
             simp only[look]; split
             ·rename_i e; rw[e]
             ·rfl
            have main:∀u,look sl g=.d (.bool u)->gdK g b sl (fun sl=>I.wp P sl ob (fun v ob'=>rwp P (fun sl ob=>K' (Xf sl keep) ob) (fun v sl ob=>Pn' v (Xf sl pk) ob) r (put sl d' v) ob') (fun v ob'=>Pn' v (Xf sl pk) ob') i) (fun sl=>rwp P (fun sl ob=>K' (Xf sl keep) ob) (fun v sl ob=>Pn' v (Xf sl pk) ob) r (put sl d' .undef) ob) (look sl g):=by
             intro u hu
             rw[hu]
             simp only[gdK]
             have hh2:∀w,u=w->Inv T σ2 ((g,.d (.bool w))::sl) sl1 ob:=fun w e=>by
              subst e; rw[<-hu]; exact hI1.congr hcg
             refine⟨fun e1=>?_,fun e1=>?_⟩
             ·exact step (hh2 _ e1) (hr.1 (by rw[<-hh,Zg,hq,hu,e1]; simp[isB]))
             ·exact none' (hh2 _ e1) (by rw[Zg,hq,hu,e1]; cases b<;>simp[isB])
            rcases Xgm hb with hb | hb
            ·exact main true (by rw[hv,hb])
            ·exact main false (by rw[hv,hb])
          ·cases hp
        ·cases h
       ·cases h
      ·cases h
     ·cases h
    ·cases h

theorem Xrx {P:Prg}{n n':Xb->Objs->Prop}{Pn Pn':V->Xb->Objs->Prop}(hn:∀sl ob,n sl ob->n' sl ob)(hp:∀v sl ob,Pn v sl ob->Pn' v sl ob):∀(x:It) (sl:Xb) (ob:Objs),itK P n Pn x sl ob->itK P n' Pn' x sl ob
 | .op d i,sl,ob,h=>by
  simp only[itK]at h⊢
  exact I.wp_mono (fun _ _ h=>hn _ _ h) (fun _ _ h=>hp _ _ _ h) h
 | .gop s want d i,sl,ob,h=>by
  simp only[itK]at h⊢
  generalize look sl s=v at h⊢
  unfold gdK at h; split at h
  ·exact⟨fun e=>I.wp_mono (fun _ _ h=>hn _ _ h) (fun _ _ h=>hp _ _ _ h) (h.1 e),fun e=>hn _ _ (h.2 e)⟩
  ·exact hn _ _ h
  ·exact h.elim
mutual
theorem Xiu {P:Prg}{K K':Xb->Objs->Prop}{Pn Pn':V->Xb->Objs->Prop}(hk:∀sl ob,K sl ob->K' sl ob)(hp:∀v sl ob,Pn v sl ob->Pn' v sl ob):∀(t:Ot) (sl:Xb) (ob:Objs),owp P K Pn t sl ob->owp P K' Pn' t sl ob
 | .done,sl,ob,h=>by simp only[owp]at h⊢; exact hk _ _ h
 | .one _ x r,sl,ob,h=>by simp only[owp]at h⊢; exact Xrx (fun sl ob h=>Xiu hk hp r sl ob h) hp x sl ob h
 | .br l,sl,ob,h=>by simp only[owp]at h⊢; exact Xk1 hk hp l sl ob h
theorem Xk1 {P:Prg}{K K':Xb->Objs->Prop}{Pn Pn':V->Xb->Objs->Prop}(hk:∀sl ob,K sl ob->K' sl ob)(hp:∀v sl ob,Pn v sl ob->Pn' v sl ob):∀(t:Ots) (sl:Xb) (ob:Objs),Xjh P K Pn t sl ob->Xjh P K' Pn' t sl ob
 | .nil,sl,ob,h=>by simp only[Xjh]
 | .cons _ x r l,sl,ob,h=>by
  simp only[Xjh]at h⊢
  exact⟨Xrx (fun sl ob h=>Xiu hk hp r sl ob h) hp x sl ob h.1,Xk1 hk hp l sl ob h.2⟩
end

inductive S2 where
 | rg (l:List It2) (keep:List (Nat×E)) (pk:List Nat)
 | rgT (t:Ot) (keep pk:List Nat)
 | seq (a b:S2)
 | skip
 | cond (c:A) (a b:S2)
 | block (n:Nat) (a:S2)
 | loop (keep:List Nat) (a:S2)
 | exit (n:Nat)
 | ret

def Ze (P:Prg)(T:Tab):S2->Uc->Xb->Objs->Prop
 | .rg l keep pk,Q,sl,ob=>Us P T (fun sl ob=>Vm T sl ob keep/\Q .normal (Ql T sl ob keep) ob) (fun v sl ob=>Q (.panic v) (Xf sl pk) ob) l sl ob
 | .rgT t keep pk,Q,sl,ob=>owp P (fun sl ob=>Q .normal (Xf sl keep) ob) (fun v sl ob=>Q (.panic v) (Xf sl pk) ob) t sl ob
 | .seq a b,Q,sl,ob=>Ze P T a (Vs (Ze P T b Q) Q) sl ob
 | .skip,Q,sl,ob=>Q .normal sl ob
 | .cond c a b,Q,sl,ob=>Xbn (Ze P T a Q sl ob) (Ze P T b Q sl ob) (c.ev sl)
 | .block n a,Q,sl,ob=>Ze P T a (Y3 n Q) sl ob
 | .loop keep a,Q,sl,ob=>ALoop keep (Ze P T a) Q sl ob
 | .exit n,Q,sl,ob=>Q (.exit n) sl ob
 | .ret,Q,sl,ob=>Q .ret sl ob

def S.lift (fs:List Nat):S->Option S2
 | .rg _ l keep pk=>match Xaw fs keep pk l [] [] []with
  | some (l,kp)=>some (.rg l kp pk)
  | none=>none
 | .rgT _ t keep pk=>some (.rgT t keep pk)
 | .seq a b=>match a.lift fs,b.lift fs with
  | some a,some b=>some (.seq a b)
  | _,_=>none
 | .skip=>some .skip
 | .cond c a b=>match a.lift fs,b.lift fs with
  | some a,some b=>some (.cond c a b)
  | _,_=>none
 | .block n a=>match a.lift fs with
  | some a=>some (.block n a)
  | none=>none
 | .loop keep a=>match a.lift fs with
  | some a=>some (.loop keep a)
  | none=>none
 | .exit n=>some (.exit n)
 | .ret=>some .ret

theorem S.lift_sound {P:Prg}{T:Tab}(hT:TOk P T){fs:List Nat}:∀(s:S) {s2:S2} {Q Q':Uc} {sl:Xb} {ob:Objs},s.lift fs=some s2->(∀e sl ob,Q e sl ob->Q' e sl ob)->Ze P T s2 Q sl ob->cwp P s Q' sl ob
 | .rg o l keep pk,s2,Q,Q',sl,ob,h,hQ,hc=>by
  simp only[S.lift]at h
  split at h
  ·rename_i l' kp hl
   cases h
   simp only[Ze]at hc
   simp only[cwp]
   exact Y8 hT (K:=fun sl ob=>Q .normal sl ob) (Pn:=fun v sl ob=>Q (.panic v) sl ob) (fun _ _ h=>hQ _ _ _ h) (fun _ _ _ h=>hQ _ _ _ h) l
    (fun k p e h=>by simp[ent,W5]at h; obtain⟨rfl,rfl⟩:=h; exact⟨fun _=>rfl,fun h=>by cases h⟩) hl hc
  ·cases h
 | .rgT n t keep pk,s2,Q,Q',sl,ob,h,hQ,hc=>by
  simp only[S.lift]at h
  cases h
  simp only[Ze]at hc
  simp only[cwp]
  exact Xiu (fun _ _ h=>hQ _ _ _ h) (fun _ _ _ h=>hQ _ _ _ h) t sl ob hc
 | .seq a b,s2,Q,Q',sl,ob,h,hQ,hc=>by
  simp only[S.lift]at h
  split at h
  ·rename_i a' b' ha hb
   cases h
   simp only[Ze]at hc
   simp only[cwp]
   refine S.lift_sound hT a ha (fun e sl ob h=>?_) hc
   cases e with
   | normal=>exact S.lift_sound hT b hb hQ h
   | _=>exact hQ _ _ _ h
  ·cases h
 | .skip,s2,Q,Q',sl,ob,h,hQ,hc=>by simp only[S.lift]at h; cases h; exact hQ _ _ _ hc
 | .cond c a b,s2,Q,Q',sl,ob,h,hQ,hc=>by
  simp only[S.lift]at h
  split at h
  ·rename_i a' b' ha hb
   cases h
   simp only[Ze]at hc
   simp only[cwp]
   generalize c.ev sl=v at hc⊢
   unfold Xbn at hc; split at hc
   ·exact⟨fun e=>S.lift_sound hT a ha hQ (hc.1 e),fun e=>S.lift_sound hT b hb hQ (hc.2 e)⟩
   ·exact hc.elim
  ·cases h
 | .block n a,s2,Q,Q',sl,ob,h,hQ,hc=>by
  simp only[S.lift]at h
  split at h
  ·rename_i a' ha
   cases h
   simp only[Ze]at hc
   simp only[cwp]
   refine S.lift_sound hT a ha (fun e sl ob h=>?_) hc
   cases e with
   | exit m=>
    simp only[Y3]at h⊢
    split
    ·rename_i e; rw[if_pos e]at h; exact hQ _ _ _ h
    ·rename_i e; rw[if_neg e]at h; exact hQ _ _ _ h
   | _=>exact hQ _ _ _ h
  ·cases h
 | .loop keep a,s2,Q,Q',sl,ob,h,hQ,hc=>by
  simp only[S.lift]at h
  split at h
  ·rename_i a' ha
   cases h
   simp only[Ze]at hc
   simp only[cwp]
   obtain⟨ι,S,O,I,μ,i0,h1,h2,h3,h4⟩:=hc.run
   refine⟨⟨ι,S,O,I,μ,i0,h1,h2,h3,fun i hi=>S.lift_sound hT a ha (fun e sl ob h=>?_) (h4 i hi)⟩⟩
   cases e with
   | normal=>exact h
   | _=>exact hQ _ _ _ h
  ·cases h
 | .exit n,s2,Q,Q',sl,ob,h,hQ,hc=>by simp only[S.lift]at h; cases h; exact hQ _ _ _ hc
 | .ret,s2,Q,Q',sl,ob,h,hQ,hc=>by simp only[S.lift]at h; cases h; exact hQ _ _ _ hc
end Go.Ab
namespace Go.Ab
open Go

theorem pcall_lift {P:Prg}{p:Program}(hP:P.p=p)(hm:p.follows .mixedOrders=true){f:Nat}{s:S}{rs:List RV}{ds:List D}{ob0:Objs}{K:V->Prop}{fs:List Nat}{s2:S2}{T:Tab}(hc:Xt p f ds.length s rs=true)(hl:s.lift fs=some s2)(hT:TOk P T)
  (h:Ze P T s2 (Q1 rs K) (Xab 0 (ds.map .d)) []):PCall P f (ds.map .d) ob0 K:=
 X5d hP hm hc (S.lift_sound hT s hl (fun _ _ _ h=>h) h)

theorem acall_lift {P:Prg}{p:Program}(hP:P.p=p)(hm:p.follows .mixedOrders=true){f:Nat}{s:S}{rs:List RV}{vs:List V}{ob:Objs}{K:Out->Objs->Prop}{fs:List Nat}{s2:S2}{T:Tab}(hc:Xt p f vs.length s rs=true)(hl:s.lift fs=some s2)(hT:TOk P T)
  (h:(∀kp,V.mens (young (fresh ob) kp) vs=false)->(∀kp,noMenO (young (fresh ob) kp) ob=true)->Ze P T s2 (Uu (fresh ob) rs K) (Xab 0 vs) ob):ACall P f vs ob K:=
 ACall.of_wf fun h1 h2=>by subst hP; exact Xff hm hc (S.lift_sound hT s hl (fun _ _ _ h=>h) (h h1 h2))

def PFn (P:Prg)(f:Nat)(F:Fn):Prop:=∀vs,F.pre vs->∀(ob:Objs) (K:V->Prop),K (F.val vs)->PCall P f vs ob K
theorem TOk.nil {P:Prg}:TOk P []:=fun f F h=>by simp[Xax]at h
theorem TOk.cons {P:Prg}{T:Tab}{f:Nat}{F:Fn}(h:PFn P f F)(hT:TOk P T):TOk P ((f,F)::T):=fun g G hg=>by
 simp only[Xax]at hg
 split at hg
 ·rename_i e; subst e; cases hg; exact h
 ·exact hT g G hg

def Yle (v:V):Prop:=Xz3 (fun w=>w=Ydj v) v
def mxS (u v:V):Prop:=mxK (fun w=>w=mxV u v) u v
def X56 (o:BinOp)(u v:V):Prop:=Xrj o (fun w=>w=Ya7 o u v) u v
def Xfw (e:Bool)(v:V):Prop:=Ul e (fun w=>w=Xas e v) v
def Xtr (e:Bool)(v:V):Prop:=Xbs e (fun w=>w=Xg1 e v) v
def Yer (ob:Objs)(v:V):Prop:=Xuo ob (fun w=>w=Yd6 v) v
def Yk6 (k:IntKind)(v:V):Prop:=Xwt k (fun w=>w=Ybt k v) v
def idxS (u v:V):Prop:=X16 (fun w=>w=Yf4 u v) u v
def Xke (ob:Objs)(z:Nat)(u v:V):Prop:=J2 ob z (fun w=>w=Xkf z u v) u v
def Xmw (ob:Objs)(n z:Nat)(u v:V):Prop:=Xcq ob n z (fun w=>w=Xg8 u v) u v
def Qt (ob:Objs)(f fo:Nat)(v:V):Prop:=Vy ob f fo (fun w=>w=Yq f fo v) v
def Yk9 (f fo n:Nat)(ag:Bool)(v:Option (List V)):Prop:=X13 f fo n ag (fun w=>w=Yee f v) v
def ldS (ob:Objs)(n:Nat)(ag:Bool)(v:V):Prop:=ldK ob n ag (fun w=>w=ldV ob v) v
def J7 (v:V):Prop:=Qm (fun w=>w=v) v
def X4z (v:V):Prop:=Xd6 (fun w=>w=Xm0 v) v
def Xe6 (ob:Objs)(v:V):Prop:=Xav ob (fun w=>w=Xd5 v) v
def Xcv (l h:Option V)(v:V):Prop:=Xfc l h (fun w=>w=Xbb l h v) v
def X5m (z:Nat)(l h:Option V)(v:V):Prop:=Xfb z l h (fun w=>w=Xt9 l h v) v
def Yk8 (i:Nat)(v:V):Prop:=Xl0 i (fun w=>w=Yed i v) v
def Ylh (t:Nat)(z:D)(v:V):Prop:=X5s t z (fun w=>w=X89 t z v) v

section
variable (P:Prg) (T:Tab) (sl:Xb) (ob:Objs) (x y z:E) (a:A) (u v w:V) (k j n m:Nat) (b c:Bool) (kd kd':IntKind) (i i':Int) (s s':List UInt8) (xs:List D) (vs:List V) (d:D) (o:BinOp) (p:List Nat)
-- what expressions yield
@[simp] theorem v_a:E.val T sl ob (.a a)=a.ev sl:=by simp only[E.val]
@[simp] theorem v_ite:E.val T sl ob (.ite x y z)=Xei (x.val T sl ob) (y.val T sl ob) (z.val T sl ob):=by simp only[E.val]
@[simp] theorem v_call:E.val T sl ob (.call k x)=X3e (Xax T k) (x.val T sl ob):=by simp only[E.val]
@[simp] theorem v_nil:E.val T sl ob .nil=.tup []:=by simp only[E.val]
@[simp] theorem v_cons:E.val T sl ob (.cons x y)=Xwr (x.val T sl ob) (y.val T sl ob):=by simp only[E.val]
@[simp] theorem v_not:E.val T sl ob (.u (.not (.t 0)) x)=Ydj (x.val T sl ob):=by simp[E.val,C.val]
@[simp] theorem v_mx:E.val T sl ob (.b (.mx (.t 0) (.t 1)) x y)=mxV (x.val T sl ob) (y.val T sl ob):=by simp[E.val,C.val]
@[simp] theorem v_bin:E.val T sl ob (.b (.bin o (.t 0) (.t 1)) x y)=Ya7 o (x.val T sl ob) (y.val T sl ob):=by simp[E.val,C.val]
@[simp] theorem v_isnil:E.val T sl ob (.u (.isnil b (.t 0)) x)=Xas b (x.val T sl ob):=by simp[E.val,C.val]
@[simp] theorem v_fnil:E.val T sl ob (.u (.fnil b (.t 0)) x)=Xg1 b (x.val T sl ob):=by simp[E.val,C.val]
@[simp] theorem v_usd:E.val T sl ob (.u (.usd (.t 0)) x)=Yd6 (x.val T sl ob):=by simp[E.val,C.val]
@[simp] theorem v_cvi:E.val T sl ob (.u (.cvi kd (.t 0)) x)=Ybt kd (x.val T sl ob):=by simp[E.val,C.val]
@[simp] theorem v_idx:E.val T sl ob (.b (.idx (.t 0) (.t 1)) x y)=Yf4 (x.val T sl ob) (y.val T sl ob):=by simp[E.val,C.val]
@[simp] theorem v_idxA:E.val T sl ob (.b (.idxA n (.t 0) (.t 1)) x y)=Xkf n (x.val T sl ob) (y.val T sl ob):=by simp[E.val,C.val]
@[simp] theorem v_idxP:E.val T sl ob (.b (.idxP k n (.t 0) (.t 1)) x y)=Xg8 (x.val T sl ob) (y.val T sl ob):=by simp[E.val,C.val]
@[simp] theorem v_fldA:E.val T sl ob (.u (.fldA k n (.t 0)) x)=Yq k n (x.val T sl ob):=by simp[E.val,C.val]
@[simp] theorem v_fld:E.val T sl ob (.u (.fld k n m b (.t 0)) x)=Yee k (x.val T sl ob).kids:=by simp[E.val,C.val]
@[simp] theorem v_ld:E.val T sl ob (.u (.ld n b (.t 0)) x)=ldV ob (x.val T sl ob):=by simp[E.val,C.val]
@[simp] theorem v_nilc:E.val T sl ob (.u (.nilc (.t 0)) x)=x.val T sl ob:=by simp[E.val,C.val]
@[simp] theorem v_lenS:E.val T sl ob (.u (.lenS (.t 0)) x)=Xm0 (x.val T sl ob):=by simp[E.val,C.val]
@[simp] theorem v_lenL:E.val T sl ob (.u (.lenL (.t 0)) x)=Xd5 (x.val T sl ob):=by simp[E.val,C.val]
@[simp] theorem v_slcS1:E.val T sl ob (.b (.slcS (.t 0) (some (.t 1)) none) x y)=Xbb (some (y.val T sl ob)) none (x.val T sl ob):=by simp[E.val,C.val]
@[simp] theorem v_slcS2:E.val T sl ob (.b (.slcS (.t 0) none (some (.t 1))) x y)=Xbb none (some (y.val T sl ob)) (x.val T sl ob):=by simp[E.val,C.val]
@[simp] theorem v_slcS3:E.val T sl ob (.t (.slcS (.t 0) (some (.t 1)) (some (.t 2))) x y z)=Xbb (some (y.val T sl ob)) (some (z.val T sl ob)) (x.val T sl ob):=by simp[E.val,C.val]
@[simp] theorem v_slcL1:E.val T sl ob (.b (.slcL n (.t 0) (some (.t 1)) none) x y)=Xt9 (some (y.val T sl ob)) none (x.val T sl ob):=by simp[E.val,C.val]
@[simp] theorem v_ext:E.val T sl ob (.u (.ext (.t 0) n) x)=Yed n (x.val T sl ob):=by simp[E.val,C.val]
@[simp] theorem v_mki:E.val T sl ob (.u (.mki n (.t 0)) x)=X46 n (x.val T sl ob):=by simp[E.val,C.val]
@[simp] theorem v_tas:E.val T sl ob (.u (.tas n d (.t 0)) x)=X89 n d (x.val T sl ob):=by simp[E.val,C.val]
-- when expressions are safe
@[simp] theorem o_a:E.ok T sl ob (.a a)=True:=by simp only[E.ok]
@[simp] theorem o_ite:E.ok T sl ob (.ite x y z)=(x.ok T sl ob/\Xds (x.val T sl ob)/\(isB true (x.val T sl ob)=true->y.ok T sl ob)/\(isB false (x.val T sl ob)=true->z.ok T sl ob)):=by simp only[E.ok]
@[simp] theorem o_call:E.ok T sl ob (.call k x)=(x.ok T sl ob/\X3d (Xax T k) (x.val T sl ob)):=by simp only[E.ok]
@[simp] theorem o_nil:E.ok T sl ob .nil=True:=by simp only[E.ok]
@[simp] theorem o_cons:E.ok T sl ob (.cons x y)=(x.ok T sl ob/\y.ok T sl ob):=by simp only[E.ok]
@[simp] theorem o_not:E.ok T sl ob (.u (.not (.t 0)) x)=(x.ok T sl ob/\Yle (x.val T sl ob)):=by simp[E.ok,C.ok,C.val,Yle]
@[simp] theorem o_mx:E.ok T sl ob (.b (.mx (.t 0) (.t 1)) x y)=(x.ok T sl ob/\y.ok T sl ob/\mxS (x.val T sl ob) (y.val T sl ob)):=by simp[E.ok,C.ok,C.val,mxS]
@[simp] theorem o_bin:E.ok T sl ob (.b (.bin o (.t 0) (.t 1)) x y)=(x.ok T sl ob/\y.ok T sl ob/\X56 o (x.val T sl ob) (y.val T sl ob)):=by simp[E.ok,C.ok,C.val,X56]
@[simp] theorem o_usd:E.ok T sl ob (.u (.usd (.t 0)) x)=(x.ok T sl ob/\Yer ob (x.val T sl ob)):=by simp[E.ok,C.ok,C.val,Yer]
@[simp] theorem o_isnil:E.ok T sl ob (.u (.isnil b (.t 0)) x)=(x.ok T sl ob/\Xfw b (x.val T sl ob)):=by simp[E.ok,C.ok,C.val,Xfw]
@[simp] theorem o_fnil:E.ok T sl ob (.u (.fnil b (.t 0)) x)=(x.ok T sl ob/\Xtr b (x.val T sl ob)):=by simp[E.ok,C.ok,C.val,Xtr]
@[simp] theorem o_cvi:E.ok T sl ob (.u (.cvi kd (.t 0)) x)=(x.ok T sl ob/\Yk6 kd (x.val T sl ob)):=by simp[E.ok,C.ok,C.val,Yk6]
@[simp] theorem o_idx:E.ok T sl ob (.b (.idx (.t 0) (.t 1)) x y)=(x.ok T sl ob/\y.ok T sl ob/\idxS (x.val T sl ob) (y.val T sl ob)):=by simp[E.ok,C.ok,C.val,idxS]
@[simp] theorem o_idxA:E.ok T sl ob (.b (.idxA n (.t 0) (.t 1)) x y)=(x.ok T sl ob/\y.ok T sl ob/\Xke ob n (x.val T sl ob) (y.val T sl ob)):=by simp[E.ok,C.ok,C.val,Xke]
@[simp] theorem o_idxP:E.ok T sl ob (.b (.idxP k n (.t 0) (.t 1)) x y)=(x.ok T sl ob/\y.ok T sl ob/\Xmw ob k n (x.val T sl ob) (y.val T sl ob)):=by simp[E.ok,C.ok,C.val,Xmw]
@[simp] theorem o_fldA:E.ok T sl ob (.u (.fldA k n (.t 0)) x)=(x.ok T sl ob/\Qt ob k n (x.val T sl ob)):=by simp[E.ok,C.ok,C.val,Qt]
@[simp] theorem o_fld:E.ok T sl ob (.u (.fld k n m b (.t 0)) x)=(x.ok T sl ob/\Yk9 k n m b (x.val T sl ob).kids):=by simp[E.ok,C.ok,C.val,Yk9]
@[simp] theorem o_ld:E.ok T sl ob (.u (.ld n b (.t 0)) x)=(x.ok T sl ob/\ldS ob n b (x.val T sl ob)):=by simp[E.ok,C.ok,C.val,ldS]
@[simp] theorem o_nilc:E.ok T sl ob (.u (.nilc (.t 0)) x)=(x.ok T sl ob/\J7 (x.val T sl ob)):=by simp[E.ok,C.ok,C.val,J7]
@[simp] theorem o_lenS:E.ok T sl ob (.u (.lenS (.t 0)) x)=(x.ok T sl ob/\X4z (x.val T sl ob)):=by simp[E.ok,C.ok,C.val,X4z]
@[simp] theorem o_lenL:E.ok T sl ob (.u (.lenL (.t 0)) x)=(x.ok T sl ob/\Xe6 ob (x.val T sl ob)):=by simp[E.ok,C.ok,C.val,Xe6]
@[simp] theorem o_slcS1:E.ok T sl ob (.b (.slcS (.t 0) (some (.t 1)) none) x y)=(x.ok T sl ob/\y.ok T sl ob/\Xcv (some (y.val T sl ob)) none (x.val T sl ob)):=by simp[E.ok,C.ok,C.val,Xcv]
@[simp] theorem o_slcS2:E.ok T sl ob (.b (.slcS (.t 0) none (some (.t 1))) x y)=(x.ok T sl ob/\y.ok T sl ob/\Xcv none (some (y.val T sl ob)) (x.val T sl ob)):=by simp[E.ok,C.ok,C.val,Xcv]
@[simp] theorem o_slcS3:E.ok T sl ob (.t (.slcS (.t 0) (some (.t 1)) (some (.t 2))) x y z)=(x.ok T sl ob/\y.ok T sl ob/\z.ok T sl ob/\Xcv (some (y.val T sl ob)) (some (z.val T sl ob)) (x.val T sl ob)):=by simp[E.ok,C.ok,C.val,Xcv]
@[simp] theorem o_slcL1:E.ok T sl ob (.b (.slcL n (.t 0) (some (.t 1)) none) x y)=(x.ok T sl ob/\y.ok T sl ob/\X5m n (some (y.val T sl ob)) none (x.val T sl ob)):=by simp[E.ok,C.ok,C.val,X5m]
@[simp] theorem o_ext:E.ok T sl ob (.u (.ext (.t 0) n) x)=(x.ok T sl ob/\Yk8 n (x.val T sl ob)):=by simp[E.ok,C.ok,C.val,Yk8]
@[simp] theorem o_mki:E.ok T sl ob (.u (.mki n (.t 0)) x)=x.ok T sl ob:=by simp[E.ok,C.ok,C.val]
@[simp] theorem o_tas:E.ok T sl ob (.u (.tas n d (.t 0)) x)=(x.ok T sl ob/\Ylh n d (x.val T sl ob)):=by simp[E.ok,C.ok,C.val,Ylh]
-- values
@[simp] theorem pickV_b (b1 b2:Bool):Xei (.d (.bool b)) (.d (.bool b1)) (.d (.bool b2))=.d (.bool (if b then b1 else b2)):=by simp only[Xei]
attribute [simp] X0e X0c
@[simp] theorem notV_b:Ydj (.d (.bool b))=.d (.bool (!b)):=by simp only[Ydj]
@[simp] theorem notS_b:Yle (.d (.bool b))=True:=by simp[Yle]
@[simp] theorem mxV_i:mxV (.d (.int kd i)) (.d (.int kd' i'))=.d (.int kd (if i' > i then i' else i)):=by simp only[mxV]
@[simp] theorem mxS_i:mxS (.d (.int kd i)) (.d (.int kd' i'))=True:=by simp[mxS,mxK,mxV]
@[simp] theorem binV_i:Ya7 o (.d (.int kd i)) (.d (.int kd' i'))=Xci o kd i i':=by simp only[Ya7]
@[simp] theorem binV_s:Ya7 o (.d (.str s)) (.d (.str s'))=X87 o s s':=by simp only[Ya7]
@[simp] theorem intV_add:Xci .add kd i i'=.d (.int kd (kd.wrap (i+i'))):=by simp only[Xci]
@[simp] theorem intV_sub:Xci .sub kd i i'=.d (.int kd (kd.wrap (i-i'))):=by simp only[Xci]
@[simp] theorem intV_mul:Xci .mul kd i i'=.d (.int kd (kd.wrap (i*i'))):=by simp only[Xci]
@[simp] theorem intV_eql:Xci .eql kd i i'=.d (.bool (i==i')):=by simp only[Xci]
@[simp] theorem intV_neq:Xci .neq kd i i'=.d (.bool (i != i')):=by simp only[Xci]
@[simp] theorem intV_lss:Xci .lss kd i i'=.d (.bool (decide (i<i'))):=by simp only[Xci]
@[simp] theorem intV_leq:Xci .leq kd i i'=.d (.bool (decide (i<=i'))):=by simp only[Xci]
@[simp] theorem intV_gtr:Xci .gtr kd i i'=.d (.bool (decide (i'<i))):=by simp only[Xci]
@[simp] theorem intV_geq:Xci .geq kd i i'=.d (.bool (decide (i'<=i))):=by simp only[Xci]
@[simp] theorem strV_eql:X87 .eql s s'=.d (.bool (s==s')):=by simp only[X87]
@[simp] theorem strV_neq:X87 .neq s s'=.d (.bool (s != s')):=by simp only[X87]
def Ymy (o:BinOp)(i:Int):Prop:=match o with
 | .quo | .rem=>i ≠ 0
 | .shl | .shr=>0<=i
 | _=>True
@[simp] theorem binS_i:X56 o (.d (.int kd i)) (.d (.int kd i'))=Ymy o i':=by cases o<;>simp[X56,Ymy,Xrw,Xci]
attribute [simp] Ymy
@[simp] theorem binS_eql:X56 .eql (.d (.str s)) (.d (.str s'))=True:=by simp[X56]
@[simp] theorem binS_neq:X56 .neq (.d (.str s)) (.d (.str s'))=True:=by simp[X56]
@[simp] theorem isnilV_n:Xas b (.d .nili)=.d (.bool b):=by simp only[Xas]
@[simp] theorem isnilS_n:Xfw b (.d .nili)=True:=by simp[Xfw]
@[simp] theorem isnilV_di:Xas b (.d (.iface k d))=.d (.bool (!b)):=by simp only[Xas]
@[simp] theorem isnilS_di:Xfw b (.d (.iface k d))=True:=by simp[Xfw]
@[simp] theorem fnilV_n:Xg1 b (.d .nilf)=.d (.bool b):=by simp only[Xg1]
@[simp] theorem fnilV_f (l l':List V):Xg1 b (.fn k l l')=.d (.bool (!b)):=by simp only[Xg1]
@[simp] theorem fnilS_n:Xtr b (.d .nilf)=True:=by simp[Xtr]
@[simp] theorem fnilS_f (l l':List V):Xtr b (.fn k l l')=True:=by simp[Xtr]
@[simp] theorem usdV_s:Yd6 (.sl k n)=.sd k n:=by simp only[Yd6]
@[simp] theorem usdV_n:Yd6 (.d .nils)=.d .nilp:=by simp only[Yd6]
@[simp] theorem usdS_s:Yer ob (.sl k n)=∃E sz xs,lookO ob k=some (.arr E sz xs)/\sz ≠ 0/\n=xs.length/\xs ≠ []:=by simp[Yer]
@[simp] theorem usdS_n:Yer ob (.d .nils)=True:=by simp[Yer]
@[simp] theorem cviV_i:Ybt kd (.d (.int kd' i))=.d (.int kd (kd.wrap i)):=by simp only[Ybt]
@[simp] theorem cviS_i:Yk6 kd (.d (.int kd' i))=True:=by simp[Yk6]
@[simp] theorem idxV_s:Yf4 (.d (.str s)) (.d (.int kd i))=.d (.int .u8 (s.getD i.toNat 0).toNat):=by simp only[Yf4]
@[simp] theorem idxS_s:idxS (.d (.str s)) (.d (.int kd i))=(0<=i/\i<s.length):=by simp[idxS]
@[simp] theorem idxAV_l:Xkf m (.d (.list n xs)) (.d (.int kd i))=.d (.ref (xs.getD i.toNat default)):=by simp only[Xkf]
@[simp] theorem idxAS_l:Xke ob n (.d (.list n xs)) (.d (.int kd i))=(0<=i/\i<xs.length):=by simp[Xke]
@[simp] theorem idxPV_p:Xg8 (.ptr j p) (.d (.int kd i))=.ptr j (p++[i.toNat]):=by simp only[Xg8]
@[simp] theorem idxPV_c:Xg8 (.d (.ref (.agg xs))) (.d (.int kd i))=.d (.ref (xs.getD i.toNat default)):=by simp only[Xg8]
@[simp] theorem idxPS_p:Xmw ob k n (.ptr j p) (.d (.int kd i))=((0<=i/\i<k)/\∃ks,Zq (atO ob j p)=some ks/\ks.length=k/\∀k∈ks,k.size=n):=by simp[Xmw]
@[simp] theorem Ycc:Xmw ob k n (.d (.ref (.agg xs))) (.d (.int kd i))=((0<=i/\i<k)/\xs.length=k/\∀x∈xs,x.sz=n):=by simp[Xmw]
@[simp] theorem fldAV_p:Yq k n (.ptr j p)=.ptr j (p++[k]):=by simp only[Yq]
@[simp] theorem fldAV_c:Yq k n (.d (.ref (.agg xs)))=.d (.ref (xs.getD k default)):=by simp only[Yq]
def Xru (f fo:Nat):Option (List V)->Prop
 | some ks=>f<ks.length/\Sh.sizes ((ks.take f).map V.shape)=fo
 | none=>False
@[simp] theorem fldASo_s:Xru k n (some vs)=(k<vs.length/\Sh.sizes ((vs.take k).map V.shape)=n):=by simp only[Xru]
@[simp] theorem fldAS_p:Qt ob k n (.ptr j p)=Xru k n (Zq (atO ob j p)):=by
 simp only[Qt,Vy,Xru]; cases Zq (atO ob j p)<;>simp[W9]
@[simp] theorem fldAS_c:Qt ob k n (.d (.ref (.agg xs)))=(k<xs.length/\D.szs (xs.take k)=n):=by simp[Qt]
@[simp] theorem fldV_s:Yee k (some vs)=vs.getD k .any:=by simp only[Yee]
@[simp] theorem fldS_s:Yk9 k j n b (some vs)=(k<vs.length/\Sh.sizes ((vs.take k).map V.shape)=j/\(vs.getD k .any).size=n/\(vs.getD k .any).isAgg=b):=by simp only[Yk9,X13,Yee,and_true]
@[simp] theorem ldVo_s:X6p (some v)=v:=by simp only[X6p]
@[simp] theorem ldV_p:ldV ob (.ptr j p)=X6p (atO ob j p):=by simp only[ldV]
@[simp] theorem ldV_c:ldV ob (.d (.ref d))=.d d:=by simp only[ldV]
def Yej (n:Nat)(b:Bool):Option V->Prop
 | some v=>v.size=n/\v.isAgg=b
 | none=>False
@[simp] theorem ldSo_s:Yej n b (some v)=(v.size=n/\v.isAgg=b):=by simp only[Yej]
@[simp] theorem ldS_p:ldS ob n b (.ptr j p)=Yej n b (atO ob j p):=by
 simp only[ldS,ldK,ldV]; cases atO ob j p<;>simp[Xc5,Yej,X6p]
@[simp] theorem ldS_c:ldS ob n b (.d (.ref d))=(d.sz=n/\(V.d d).isAgg=b):=by simp[ldS]
@[simp] theorem nilcS_p:J7 (.ptr j p)=True:=by simp[J7]
@[simp] theorem nilcS_c:J7 (.d (.ref d))=True:=by simp[J7]
@[simp] theorem lenSV_s:Xm0 (.d (.str s))=.d (.int .i64 s.length):=by simp only[Xm0]
@[simp] theorem lenSS_s:X4z (.d (.str s))=True:=by simp[X4z]
@[simp] theorem lenLV_l:Xd5 (.d (.list n xs))=.d (.int .i64 xs.length):=by simp only[Xd5]
@[simp] theorem lenLV_n:Xd5 (.d .nils)=.d (.int .i64 0):=by simp only[Xd5]
@[simp] theorem lenLV_o:Xd5 (.sl j n)=.d (.int .i64 n):=by simp only[Xd5]
@[simp] theorem lenLS_l:Xe6 ob (.d (.list n xs))=True:=by simp[Xe6]
@[simp] theorem lenLS_n:Xe6 ob (.d .nils)=True:=by simp[Xe6]
@[simp] theorem lenLS_o:Xe6 ob (.sl j n)=((∃E z xs,lookO ob j=some (.arr E z xs)/\n=xs.length)\/∃E z xs,lookO ob j=some (.vec E z xs)/\n=xs.length):=by simp[Xe6]
@[simp] theorem slcSV_sn:Xbb (some (.d (.int kd i))) none (.d (.str s))=.d (.str (s.drop i.toNat)):=by simp[Xbb,X11]
@[simp] theorem slcSV_ns:Xbb none (some (.d (.int kd i))) (.d (.str s))=.d (.str (s.take i.toNat)):=by simp[Xbb,X11]
@[simp] theorem slcSV_ss:Xbb (some (.d (.int kd i))) (some (.d (.int kd' i'))) (.d (.str s))=.d (.str ((s.take i'.toNat).drop i.toNat)):=by simp only[Xbb,X11]
@[simp] theorem slcSS_sn:Xcv (some (.d (.int kd i))) none (.d (.str s))=(0<=i/\i<=s.length):=by simp[Xcv,Xbb,X11]
@[simp] theorem slcSS_ns:Xcv none (some (.d (.int kd i))) (.d (.str s))=(0<=i/\i<=s.length):=by simp[Xcv,Xbb,X11]
@[simp] theorem slcSS_ss:Xcv (some (.d (.int kd i))) (some (.d (.int kd' i'))) (.d (.str s))=((0<=i'/\i'<=s.length)/\0<=i/\i<=i'):=by simp[Xcv,Xbb,X11]
@[simp] theorem slcLV_sn:Xt9 (some (.d (.int kd i))) none (.d (.list n xs))=.d (.list n (xs.drop i.toNat)):=by simp[Xt9,X11]
@[simp] theorem slcLS_sn:X5m n (some (.d (.int kd i))) none (.d (.list n xs))=(0<=i/\i<=xs.length):=by simp[X5m,Xt9,X11]
@[simp] theorem extV_t:Yed n (.tup vs)=vs.getD n .any:=by simp only[Yed]
@[simp] theorem extS_t:Yk8 n (.tup vs)=(n<vs.length):=by simp[Yk8,Yed]
@[simp] theorem tasV_dy (d':D):X89 k d (.d (.iface k d'))=.tup [.d d',.d (.bool true)]:=by simp[X89]
@[simp] theorem tasV_dn (d':D)(h:(j==k)=false):X89 k d (.d (.iface j d'))=.tup [.d d,.d (.bool false)]:=by simp at h; simp[X89,h]
@[simp] theorem tasS_d (d':D):Ylh k d (.d (.iface j d'))=True:=by by_cases h:j=k<;>simp[Ylh,X5s,X89,h]
@[simp] theorem consV_t:Xwr v (.tup vs)=.tup (v::vs):=by simp only[Xwr]
@[simp] theorem callV_s (F:Fn):X3e (some F) (.tup vs)=F.val vs:=by simp only[X3e]
@[simp] theorem callP_s (F:Fn):X3d (some F) (.tup vs)=F.pre vs:=by simp only[X3d]
@[simp] theorem lookT_eq (F:Fn):Xax ((k,F)::T) k=some F:=by simp[Xax]
@[simp] theorem lookT_ne (F:Fn)(h:(j==k)=false):Xax ((j,F)::T) k=Xax T k:=by simp at h; simp[Xax,h]
@[simp] theorem isB_b:isB c (.d (.bool b))=(b==c):=by simp only[isB]
@[simp] theorem boolV_b:Xds (.d (.bool b))=True:=by simp only[Xds]
@[simp] theorem whenV_t:Xjb true v=v:=by simp[Xjb]
@[simp] theorem whenV_f:Xjb false v=.undef:=by simp[Xjb]
@[simp] theorem holdsB_nil:Z4 T sl ob []=true:=by simp[Z4]
@[simp] theorem holdsB_cons (l:List (E×Bool)):Z4 T sl ob ((x,b)::l)=(isB b (x.val T sl ob)&&Z4 T sl ob l):=by simp[Z4]
-- folded statements
@[simp] theorem zu (KS:Xb->Objs->Prop)(PS:V->Xb->Objs->Prop):Us P T KS PS [] sl ob=KS sl ob:=by simp only[Us]
@[simp] theorem zq (KS:Xb->Objs->Prop)(PS:V->Xb->Objs->Prop)(q:List (E×Bool))(l:List It2):Us P T KS PS (.chk q x::l) sl ob=((Z4 T sl ob q=true->x.ok T sl ob)/\Us P T KS PS l sl ob):=by simp only[Us]
@[simp] theorem zt (KS:Xb->Objs->Prop)(PS:V->Xb->Objs->Prop)(q:List (E×Bool))(l:List It2):Us P T KS PS (.lt k q x::l) sl ob=((Z4 T sl ob q=true->x.ok T sl ob)/\Us P T KS PS l ((k,Xjb (Z4 T sl ob q) (x.val T sl ob))::sl) ob):=by simp only[Us]
@[simp] theorem zw (KS:Xb->Objs->Prop)(PS:V->Xb->Objs->Prop)(dd:Option Nat)(e:I)(l:List It2):Us P T KS PS (.op dd e::l) sl ob=e.wp P sl ob (fun v ob'=>Us P T KS PS l (put sl dd v) ob') (fun v ob'=>PS v sl ob'):=by simp only[Us]
@[simp] theorem zr (KS:Xb->Objs->Prop)(PS:V->Xb->Objs->Prop)(q:List (E×Bool))(dd:Option Nat)(e:I)(l:List It2):Us P T KS PS (.gop q dd e::l) sl ob=((Z4 T sl ob q=true->e.wp P sl ob (fun v ob'=>Us P T KS PS l (put sl dd v) ob') (fun v ob'=>PS v sl ob'))/\(Z4 T sl ob q=false->Us P T KS PS l (put sl dd .undef) ob)):=by simp only[Us]
@[simp] theorem keepE_nil:Ql T sl ob []=[]:=by simp only[Ql]
@[simp] theorem keepE_cons (l:List (Nat×E)):Ql T sl ob ((k,x)::l)=(k,x.val T sl ob)::Ql T sl ob l:=by simp only[Ql]
@[simp] theorem keepOk_nil:Vm T sl ob []=True:=by simp only[Vm]
@[simp] theorem keepOk_cons (l:List (Nat×E)):Vm T sl ob ((k,x)::l)=(x.ok T sl ob/\Vm T sl ob l):=by simp only[Vm]
variable (Q:Uc) (s1 s2:S2)
@[simp] theorem ql (l:List It2)(kp:List (Nat×E))(pk:List Nat):Ze P T (.rg l kp pk) Q sl ob=Us P T (fun sl ob=>Vm T sl ob kp/\Q .normal (Ql T sl ob kp) ob) (fun v sl ob=>Q (.panic v) (Xf sl pk) ob) l sl ob:=by simp only[Ze]
@[simp] theorem qn:Ze P T (.seq s1 s2) Q sl ob=Ze P T s1 (Vs (Ze P T s2 Q) Q) sl ob:=by simp only[Ze]
@[simp] theorem qo:Ze P T .skip Q sl ob=Q .normal sl ob:=by simp only[Ze]
@[simp] theorem qi:Ze P T (.cond a s1 s2) Q sl ob=Xbn (Ze P T s1 Q sl ob) (Ze P T s2 Q sl ob) (a.ev sl):=by simp only[Ze]
@[simp] theorem qh:Ze P T (.block n s1) Q sl ob=Ze P T s1 (Y3 n Q) sl ob:=by simp only[Ze]
@[simp] theorem cwp2_loop (kp:List Nat):Ze P T (.loop kp s1) Q sl ob=ALoop kp (Ze P T s1) Q sl ob:=by simp only[Ze]
@[simp] theorem qj:Ze P T (.exit n) Q sl ob=Q (.exit n) sl ob:=by simp only[Ze]
@[simp] theorem qk:Ze P T .ret Q sl ob=Q .ret sl ob:=by simp only[Ze]
end
@[congr] theorem rwp2_congr {P:Prg}{T:Tab}{KS:Xb->Objs->Prop}{PS:V->Xb->Objs->Prop}{l:List It2}{sl sl':Xb}{ob ob':Objs}(h:sl=sl')(h':ob=ob'):Us P T KS PS l sl ob=Us P T KS PS l sl' ob':=by rw[h,h']
@[congr] theorem cwp2_congr {P:Prg}{T:Tab}{s:S2}{Q:Uc}{sl sl':Xb}{ob ob':Objs}(h:sl=sl')(h':ob=ob'):Ze P T s Q sl ob=Ze P T s Q sl' ob':=by rw[h,h']
@[congr] theorem E_val_congr {T:Tab}{sl:Xb}{ob:Objs}{e:E}:E.val T sl ob e=E.val T sl ob e:=rfl
@[congr] theorem E_ok_congr {T:Tab}{sl:Xb}{ob:Objs}{e:E}:E.ok T sl ob e=E.ok T sl ob e:=rfl
end Go.Ab
namespace Go.Ab
open Go

def Xcs {α β:Type}(f:α->Option β):List α->Option (List β)
 | []=>some []
 | x::r=>match f x with
  | some y=>match Xcs f r with
   | some l=>some (y::l)
   | none=>none
  | none=>none
def Xxx (k:Nat):Option Ob->Option D
 | some (.arr _ sz xs)=>if sz ≠ 0/\k=xs.length then some (.list sz xs) else none
 | _=>none
def refO (f:V->Option D):Option V->Option D
 | some t=>(f t).map .ref
 | none=>none
def V.toD (ob:Objs):Nat->V->Option D
 | 0,_=>none
 | _+1,.d x=>some x
 | n+1,.ptr id p=>refO (V.toD ob n) (atO ob id p)
 | _+1,.sl id k=>Xxx k (lookO ob id)
 | n+1,.fn f fi ca=>match Xcs (V.toD ob n) fi,Xcs (V.toD ob n) ca with
  | some l,some m=>some (.fn f l m)
  | _,_=>none
 | n+1,.agg xs=>(Xcs (V.toD ob n) xs).map .agg
 | n+1,.iface t x=>(V.toD ob n x).map (.iface t)
 | _+1,_=>none
def V.toDs (ob:Objs)(n:Nat)(vs:List V):Option (List D):=Xcs (V.toD ob n) vs

mutual
def D.flat:D->Bool
 | .agg xs=>D.flats xs
 | .list _ _ | .ref _ | .fn _ _ _ | .iface _ _=>false
 | _=>true
def D.flats:List D->Bool
 | []=>true
 | x::r=>x.flat&&D.flats r
end
def V.flat:V->Bool
 | .d x=>x.flat
 | _=>false
def V.flatR:V->Bool
 | .d x=>x.flat
 | .tup xs=>xs.all V.flat
 | _=>false

section
variable {w:World} {ρ:Env} {ob:Objs}
def X18:Nat->Prop:=fun _=>False
theorem Ydh:Xje w (own ρ) w X18:=fun _ _ _=>⟨rfl,fun h=>h⟩

mutual
theorem D.flat_rep {ow ow':Nat->Prop}:∀(x:D) (cs:List Value),x.flat=true->x.rep w ow cs->x.rep w ow' cs
 | .int _ _,_,_,h | .bool _,_,_,h | .str _,_,_,h | .nils,_,_,h | .nili,_,_,h | .nilp,_,_,h | .nilf,_,_,h | .nilm,_,_,h=>by simpa only[D.rep]using h
 | .agg xs,cs,hf,h=>by simp only[D.rep]at h⊢; simp only[D.flat]at hf; exact D.flats_rep xs cs hf h
 | .list _ _,_,hf,_ | .ref _,_,hf,_ | .fn _ _ _,_,hf,_ | .iface _ _,_,hf,_=>by simp[D.flat]at hf
theorem D.flats_rep {ow ow':Nat->Prop}:∀(xs:List D) (cs:List Value),D.flats xs=true->D.repL w ow xs cs->D.repL w ow' xs cs
 | [],_,_,h=>by simpa only[D.repL]using h
 | x::r,cs,hf,h=>by
  simp only[D.repL]at h⊢
  simp only[D.flats,Bool.and_eq_true]at hf
  obtain⟨c1,c2,e,h1,h2⟩:=h
  exact⟨c1,c2,e,D.flat_rep x c1 hf.1 h1,D.flats_rep r c2 hf.2 h2⟩
end
theorem V.flat_rep {ρ':Env}{v:V}{u:Value}(hf:v.flat=true)(h:v.rep w ρ u):v.rep w ρ' u:=by
 cases v with
 | d x=>
  simp only[V.flat]at hf
  rw[Xb3]at h⊢
  rcases h with⟨a,ds,e,r⟩ | ⟨a,r⟩
  ·exact .inl ⟨a,ds,e,D.flat_rep x ds hf r⟩
  ·exact .inr ⟨a,D.flat_rep x _ hf r⟩
 | _=>simp[V.flat]at hf
theorem V.flats_rep {ρ':Env}:∀{vs:List V} {us:List Value},vs.all V.flat=true->V.reps w ρ vs us->V.reps w ρ' vs us
 | [],_,_,h=>by simpa only[V.reps]using h
 | v::r,us,hf,h=>by
  simp only[List.all_cons,Bool.and_eq_true]at hf
  simp only[V.reps]at h⊢
  obtain⟨u,us',e,h1,h2⟩:=h
  exact⟨u,us',e,V.flat_rep (ρ:=ρ) (u:=u) hf.1 h1,V.flats_rep hf.2 h2⟩
theorem V.flatR_rep {ρ':Env}{v:V}{u:Value}(hf:v.flatR=true)(h:v.rep w ρ u):v.rep w ρ' u:=by
 cases v with
 | d x=>exact V.flat_rep (v:=.d x) hf h
 | tup xs=>
  rw[rep_tup]at h⊢
  obtain⟨vs,e,h⟩:=h
  exact⟨vs,e,V.flats_rep hf h⟩
 | _=>simp[V.flatR]at hf

theorem Xlq (hO:OM w ρ ob):∀(n:Nat) (v:V) (cs:List Value) (y:D),v.repC w ρ cs->V.toD ob n v=some y->y.rep w X18 cs/\y.isAgg=v.isAgg:=by
 intro n
 induction n with
 | zero=>intro v cs y _ h; simp[V.toD]at h
 | succ n ih=>
  have ihT:∀(v:V) (u:Value) (y:D),v.rep w ρ u->V.toD ob n v=some y->(y.isAgg=true/\∃ds,u=.agg ds.toArray/\y.rep w X18 ds)\/(y.isAgg=false/\y.rep w X18 [u]):=by
   intro v u y h e
   rcases h with h | ⟨a,ds,q,r⟩ | ⟨a,r⟩
   ·subst h; cases n<;>simp[V.toD]at e
   ·obtain⟨h1,h2⟩:=ih v ds y r e; exact .inl ⟨h2.trans a,ds,q,h1⟩
   ·obtain⟨h1,h2⟩:=ih v _ y r e; exact .inr ⟨h2.trans a,h1⟩
  have seqT:∀(vs:List V) (us:List Value) (l:List D),V.reps w ρ vs us->Xcs (V.toD ob n) vs=some l->D.repT w X18 l us:=by
   intro vs
   induction vs with
   | nil=>intro us l h e; simp only[Xcs]at e; cases e; simpa only[V.reps,D.repT]using h
   | cons v r ihr=>
    intro us l h e
    simp only[V.reps]at h
    obtain⟨u,us',rfl,h1,h2⟩:=h
    simp only[Xcs]at e
    split at e
    ·rename_i y hy
     split at e
     ·rename_i l' hl; cases e
      simp only[D.repT]
      exact⟨u,us',rfl,ihT v u y h1 hy,ihr us' l' h2 hl⟩
     ·cases e
    ·cases e
  have Ykb:∀(vs:List V) (cs:List Value) (l:List D),V.repCs w ρ vs cs->Xcs (V.toD ob n) vs=some l->D.repL w X18 l cs:=by
   intro vs
   induction vs with
   | nil=>intro us l h e; simp only[Xcs]at e; cases e; simpa only[V.repCs,D.repL]using h
   | cons v r ihr=>
    intro cs l h e
    simp only[V.repCs]at h
    obtain⟨c1,c2,rfl,h1,h2⟩:=h
    simp only[Xcs]at e
    split at e
    ·rename_i y hy
     split at e
     ·rename_i l' hl; cases e
      simp only[D.repL]
      exact⟨c1,c2,rfl,(ih v c1 y h1 hy).1,ihr c2 l' h2 hl⟩
     ·cases e
    ·cases e
  intro v cs y h e
  cases v with
  | d x=>
   simp only[V.toD]at e; cases e
   simp only[V.repC]at h
   exact⟨D.rep_mono Ydh _ _ h,by cases y<;>rfl⟩
  | ptr id p=>
   simp only[V.toD]at e
   cases hat:atO ob id p with
   | none=>rw[hat]at e; simp only[refO]at e; cases e
   | some t=>
    simp only[hat,refO,Option.map_eq_some_iff]at e
    obtain⟨z,hz,rfl⟩:=e
    obtain⟨t0,b,cs0,E,g1,g2,g3,g4,g5⟩:=Js hO hat
    have hr:(V.ptr id p).rep w ρ (cs.headD undef):=by
     have hl:=V.repC_len _ _ h
     simp[V.shape,Sh.size]at hl
     obtain⟨c,rfl⟩:=List.length_eq_one_iff.1 hl
     exact .inr (.inr ⟨rfl,by simpa using h⟩)
    obtain⟨b',sh,hρ,hu⟩:=rep_ptr_box hO g1 hr
    rw[g3]at hρ; cases hρ
    have hl:=V.repC_len _ _ h
    simp[V.shape,Sh.size]at hl
    obtain⟨c,rfl⟩:=List.length_eq_one_iff.1 hl
    simp only[List.headD_cons]at hu
    subst hu
    obtain⟨c1,c2,c3,e1,e2,h5⟩:=V.repC_at p t0 t cs0 g5 g2
    refine⟨?_,rfl⟩
    simp only[D.rep]
    refine⟨_,c2,rfl,rfl,⟨fun _=>⟨rfl,fun h=>h,Xn g4⟩,fun i hi=>?_⟩,(ih t c2 z h5 hz).1⟩
    rw[<-e2]
    simp[World.cell?,g4,e1,List.getElem?_append,hi]
  | sl id k=>
   simp only[V.toD]at e
   unfold Xxx at e
   split at e
   ·rename_i E sz xs hl
    split at e
    ·rename_i hc; cases e
     obtain⟨hsz,rfl⟩:=hc
     simp only[V.repC]at h
     obtain⟨o,u,h1,rfl,h2⟩:=h
     have:=Jf hO hl hsz (u:=u) (by rw[Y2]; exact⟨o,h1,h2⟩)
     rw[Wq (by simp[V.isAgg]) (by simp)]at this
     simp only[V.repC]at this
     exact⟨D.rep_mono (ow':=X18) (fun _ _ _=>⟨rfl,fun h=>h⟩) _ _ this,rfl⟩
    ·cases e
   ·cases e
  | fn f fi ca=>
   simp only[V.toD]at e
   split at e
   ·rename_i l m hl hm
    cases e
    simp only[V.repC]at h
    obtain⟨fs,gs,e1,h1,h2⟩:=h
    exact⟨by simp only[D.rep]; exact⟨fs,gs,e1,seqT fi fs l h1 hl,seqT ca gs m h2 hm⟩,rfl⟩
   ·cases e
  | agg xs=>
   simp only[V.toD,Option.map_eq_some_iff]at e
   obtain⟨l,hl,rfl⟩:=e
   simp only[V.repC]at h
   exact⟨by simp only[D.rep]; exact Ykb xs cs l h hl,rfl⟩
  | iface t x=>
   simp only[V.toD,Option.map_eq_some_iff]at e
   obtain⟨z,hz,rfl⟩:=e
   simp only[V.repC]at h
   obtain⟨u,e1,h1⟩:=h
   exact⟨by simp only[D.rep]; exact⟨u,e1,ihT x u z h1 hz⟩,rfl⟩
  | _=>simp[V.toD]at e

theorem Xgf (hO:OM w ρ ob){n:Nat}:∀(vs:List V) (us:List Value) (l:List D),V.reps w ρ vs us->V.toDs ob n vs=some l->D.repT w X18 l us
 | [],us,l,h,e=>by simp only[V.toDs,Xcs]at e; cases e; simpa only[V.reps,D.repT]using h
 | v::r,us,l,h,e=>by
  simp only[V.reps]at h
  obtain⟨u,us',rfl,h1,h2⟩:=h
  simp only[V.toDs,Xcs]at e
  split at e
  ·rename_i y hy
   split at e
   ·rename_i l' hl; cases e
    simp only[D.repT]
    refine⟨u,us',rfl,?_,Xgf hO r us' l' h2 hl⟩
    rcases h1 with h | ⟨a,ds,q,r⟩ | ⟨a,r⟩
    ·subst h; cases n<;>simp[V.toD]at hy
    ·obtain⟨h1,h2⟩:=Xlq hO n v ds y r hy; exact .inl ⟨h2.trans a,ds,q,h1⟩
    ·obtain⟨h1,h2⟩:=Xlq hO n v _ y r hy; exact .inr ⟨h2.trans a,h1⟩
   ·cases e
  ·cases e

theorem PCall.borrow {P:Prg}{f n:Nat}{vs:List V}{ds:List D}{K:V->Prop}(hd:V.toDs ob n vs=some ds)(h:PCall P f (ds.map .d) [] fun v=>v.flatR=true/\K v):PCall P f vs ob K:=by
 refine⟨fun w ρ args hO hg hr=>?_⟩
 let ρ0:Env:=⟨fun _=>none,X18,ρ.gl⟩
 have hno:∀b,¬own ρ0 b:=fun b h=>h.elim (fun ⟨_,_,h,_⟩=>by cases h) (fun h=>h)
 have hO0:OM w ρ0 []:=⟨fun j x hx=>(by simp[lookO]at hx),fun j o hj=>(by cases hj),fun i j o p b hi=>(by cases hi),fun b hb=>hb.elim,fun b o hb=>⟨(hO.glb b o hb).1,hno b⟩,fun b hb=>absurd (.inl hb) (hno b),trivial⟩
 have hr0:V.reps w ρ0 (ds.map .d) args:=by
  rw[Xld]
  have:=Xgf hO vs args ds hr hd
  exact D.repT_mono (ow:=X18) (fun _ _ _=>⟨rfl,hno _⟩) _ _ this
 refine (h.run w ρ0 args hO0 hg hr0).mono fun e w' ⟨v,u,⟨k1,k2⟩,he,r,x⟩=>⟨v,u,k2,he,V.flatR_rep k1 r,x⟩
theorem PCall.data {P:Prg}{f:Nat}{vs:List V}{ds:List D}{K:V->Prop}(hd:vs=ds.map .d)(h:PCall P f (ds.map .d) ob K):PCall P f vs ob K:=by subst hd; exact h
end

section
variable (ob:Objs) (n k f:Nat) (x:D) (v:V) (vs:List V) (p:List Nat)
@[simp] theorem toD_d:V.toD ob (n+1) (.d x)=some x:=by simp only[V.toD]
@[simp] theorem toD_ptr:V.toD ob (n+1) (.ptr k p)=refO (V.toD ob n) (atO ob k p):=by simp only[V.toD]
@[simp] theorem toD_sl (m:Nat):V.toD ob (n+1) (.sl k m)=Xxx m (lookO ob k):=by simp only[V.toD]
@[simp] theorem lentO_s (m E sz:Nat)(xs:List D):Xxx m (some (.arr E sz xs))=if sz ≠ 0/\m=xs.length then some (.list sz xs) else none:=by simp only[Xxx]
@[simp] theorem refO_s (g:V->Option D):refO g (some v)=(g v).map .ref:=by simp only[refO]
def fnO (f:Nat):Option (List D)->Option (List D)->Option D
 | some l,some m=>some (.fn f l m)
 | _,_=>none
@[simp] theorem toD_fn (l l':List V):V.toD ob (n+1) (.fn f l l')=fnO f (Xcs (V.toD ob n) l) (Xcs (V.toD ob n) l'):=by
 simp only[V.toD]; cases Xcs (V.toD ob n) l<;>cases Xcs (V.toD ob n) l'<;>rfl
@[simp] theorem fnO_ss (l l':List D):fnO f (some l) (some l')=some (.fn f l l'):=by simp only[fnO]
@[simp] theorem toD_agg:V.toD ob (n+1) (.agg vs)=(Xcs (V.toD ob n) vs).map .agg:=by simp only[V.toD]
@[simp] theorem toDs_eq:V.toDs ob n vs=Xcs (V.toD ob n) vs:=by simp only[V.toDs]
@[simp] theorem seqO_nil {α β:Type}(g:α->Option β):Xcs g []=some []:=by simp only[Xcs]
def Ykb {β:Type}:Option β->Option (List β)->Option (List β)
 | some y,some l=>some (y::l)
 | _,_=>none
@[simp] theorem seqO_cons {α β:Type}(g:α->Option β)(a:α)(l:List α):Xcs g (a::l)=Ykb (g a) (Xcs g l):=by
 simp only[Xcs]; cases g a<;>cases Xcs g l<;>rfl
@[simp] theorem seqC_ss {β:Type}(y:β)(l:List β):Ykb (some y) (some l)=some (y::l):=by simp only[Ykb]
end
attribute [simp] D.flat D.flats V.flat V.flatR
end Go.Ab
namespace Go.Ab
open Go
mutual
def D.le:D->D->Prop
 | .nils,y=>y=.nils\/∃sz,y=.list sz []
 | .agg xs,y=>∃ys,y=.agg ys/\D.les xs ys
 | .list a xs,y=>∃ys,y=.list a ys/\D.les xs ys
 | .int k n,y=>y=.int k n
 | .bool b,y=>y=.bool b
 | .str s,y=>y=.str s
 | .nili,y=>y=.nili
 | .nilp,y=>y=.nilp
 | .nilf,y=>y=.nilf
 | .nilm,y=>y=.nilm
 | .ref x,y=>y=.ref x
 | .iface t x,y=>y=.iface t x
 | .fn f a b,y=>y=.fn f a b
def D.les:List D->List D->Prop
 | [],l=>l=[]
 | x::r,l=>∃y s,l=y::s/\D.le x y/\D.les r s
end
mutual
theorem D.le.same:∀{x y:D},D.le x y->y.sz=x.sz/\y.isAgg=x.isAgg
 | .nils,y,h=>by
  simp only[D.le]at h
  rcases h with rfl | ⟨_,rfl⟩<;>exact⟨by simp[D.sz],rfl⟩
 | .agg xs,y,h=>by
  simp only[D.le]at h
  obtain⟨ys,rfl,h⟩:=h
  exact⟨by simp only[D.sz]; exact D.les.same h,rfl⟩
 | .list a xs,y,h=>by
  simp only[D.le]at h
  obtain⟨ys,rfl,h⟩:=h
  exact⟨by simp only[D.sz],rfl⟩
 | .int ..,y,h | .bool ..,y,h | .str ..,y,h | .nili,y,h | .nilp,y,h | .nilf,y,h | .nilm,y,h | .ref ..,y,h | .iface ..,y,h | .fn ..,y,h=>by
  simp only[D.le]at h; subst h; exact⟨rfl,rfl⟩
theorem D.les.same:∀{xs ys:List D},D.les xs ys->D.szs ys=D.szs xs
 | [],ys,h=>by simp only[D.les]at h; subst h; rfl
 | x::r,ys,h=>by
  simp only[D.les]at h
  obtain⟨y,s,rfl,h1,h2⟩:=h
  simp only[D.szs,h1.same.1,h2.same]
end
theorem D.les.length:∀{xs ys:List D},D.les xs ys->ys.length=xs.length
 | [],ys,h=>by simp only[D.les]at h; subst h; rfl
 | x::r,ys,h=>by
  simp only[D.les]at h
  obtain⟨y,s,rfl,h1,h2⟩:=h
  simp[D.les.length h2]
theorem D.les.szAll:∀{xs ys:List D} {n:Nat},D.les xs ys->(∀x∈xs,x.sz=n)->∀y∈ys,y.sz=n
 | [],ys,n,h,_=>by simp only[D.les]at h; subst h; simp
 | x::r,ys,n,h,hx=>by
  simp only[D.les]at h
  obtain⟨y,s,rfl,h1,h2⟩:=h
  intro z hz
  rcases List.mem_cons.1 hz with rfl | hz
  ·rw[h1.same.1]; exact hx x (by simp)
  ·exact D.les.szAll h2 (fun u hu=>hx u (by simp[hu])) z hz
section
variable {w:World} {ow:Nat->Prop}
mutual
theorem D.le.rep:∀{x y:D} {cs:List Value},D.le x y->x.rep w ow cs->y.rep w ow cs
 | .nils,y,cs,h,hr=>by
  simp only[D.le]at h
  rcases h with rfl | ⟨sz,rfl⟩
  ·exact hr
  ·simp only[D.rep]at hr⊢; exact .inl ⟨trivial,hr⟩
 | .agg xs,y,cs,h,hr=>by
  simp only[D.le]at h
  obtain⟨ys,rfl,h⟩:=h
  simp only[D.rep]at hr⊢
  exact D.les.rep h hr
 | .list a xs,y,cs,h,hr=>by
  simp only[D.le]at h
  obtain⟨ys,rfl,h⟩:=h
  simp only[D.rep]at hr⊢
  have hl:=h.length
  rcases hr with⟨rfl,hr⟩ | ⟨ad,cap,vs,h1,h2,h3,h4,h5⟩
  ·refine .inl ⟨?_,hr⟩
   simpa using hl
  ·exact .inr ⟨ad,cap,vs,by rw[hl]; exact h1,by rw[hl]; exact h2,h3,D.les.rep h h4,h.szAll h5⟩
 | .int ..,y,cs,h,hr | .bool ..,y,cs,h,hr | .str ..,y,cs,h,hr | .nili,y,cs,h,hr | .nilp,y,cs,h,hr | .nilf,y,cs,h,hr | .nilm,y,cs,h,hr | .ref ..,y,cs,h,hr | .iface ..,y,cs,h,hr | .fn ..,y,cs,h,hr=>by
  simp only[D.le]at h; subst h; exact hr
theorem D.les.rep:∀{xs ys:List D} {cs:List Value},D.les xs ys->D.repL w ow xs cs->D.repL w ow ys cs
 | [],ys,cs,h,hr=>by simp only[D.les]at h; subst h; exact hr
 | x::r,ys,cs,h,hr=>by
  simp only[D.les]at h
  obtain⟨y,s,rfl,h1,h2⟩:=h
  simp only[D.repL]at hr⊢
  obtain⟨c1,c2,e,r1,r2⟩:=hr
  exact⟨c1,c2,e,D.le.rep h1 r1,D.les.rep h2 r2⟩
end
end
mutual
theorem D.le.refl:∀x:D,D.le x x
 | .nils=>by simp[D.le]
 | .agg xs=>by simp only[D.le]; exact⟨_,rfl,D.les.refl xs⟩
 | .list a xs=>by simp only[D.le]; exact⟨_,rfl,D.les.refl xs⟩
 | .int .. | .bool .. | .str .. | .nili | .nilp | .nilf | .nilm | .ref .. | .iface .. | .fn ..=>by simp only[D.le]
theorem D.les.refl:∀xs:List D,D.les xs xs
 | []=>by simp only[D.les]
 | x::r=>by simp only[D.les]; exact⟨_,_,rfl,D.le.refl x,D.les.refl r⟩
end
theorem D.le.nil (sz:Nat):D.le .nils (.list sz []):=by simp[D.le]
theorem D.le.agg {xs ys:List D}(h:D.les xs ys):D.le (.agg xs) (.agg ys):=by simp only[D.le]; exact⟨_,rfl,h⟩
theorem D.le.list {sz:Nat}{xs ys:List D}(h:D.les xs ys):D.le (.list sz xs) (.list sz ys):=by simp only[D.le]; exact⟨_,rfl,h⟩
theorem D.les.nil:D.les [] []:=by simp only[D.les]
theorem D.les.cons {x y:D}{r s:List D}(h:D.le x y)(h':D.les r s):D.les (x::r) (y::s):=by simp only[D.les]; exact⟨_,_,rfl,h,h'⟩
theorem D.les.map {α:Type}{f g:α->D}:∀{l:List α},(∀x∈l,D.le (f x) (g x))->D.les (l.map f) (l.map g)
 | [],_=>D.les.nil
 | x::r,h=>D.les.cons (h x (by simp)) (D.les.map fun y hy=>h y (by simp[hy]))
theorem X0u {w:World}{ρ:Env}:∀{xs ys:List D} {us:List Value},D.les xs ys->V.reps w ρ (xs.map .d) us->V.reps w ρ (ys.map .d) us
 | [],ys,us,h,hr=>by simp only[D.les]at h; subst h; exact hr
 | x::r,ys,us,h,hr=>by
  simp only[D.les]at h
  obtain⟨y,s,rfl,h1,h2⟩:=h
  simp only[List.map_cons]at hr⊢
  cases us with
  | nil=>simp[V.reps]at hr
  | cons u us=>
   simp only[V.reps]at hr⊢
   obtain⟨u1,us1,e,hu,hus⟩:=hr
   cases e
   refine⟨_,_,rfl,?_,X0u h2 hus⟩
   rcases Xb3.1 hu with⟨p,ds,q,hd⟩ | ⟨p,hd⟩
   ·exact Xb3.2 (.inl ⟨by rw[h1.same.2]; exact p,ds,q,h1.rep hd⟩)
   ·exact Xb3.2 (.inr ⟨by rw[h1.same.2]; exact p,h1.rep hd⟩)
theorem PCall.le {P:Prg}{f:Nat}{ob:Objs}{xs ys:List D}{K:V->Prop}(h:D.les xs ys)(hc:PCall P f (ys.map .d) ob K):PCall P f (xs.map .d) ob K:=
 ⟨fun w ρ args ho hg hr=>hc.run w ρ args ho hg (X0u h hr)⟩
end Go.Ab
namespace Go.Lx
open Go Go.Ab

structure Tok where
 kind:Int
 text:List UInt8
 n:Int
 at_:Int
 deriving DecidableEq,Inhabited

def Tok.enc (t:Tok):D:=.agg [.int .i64 t.kind,.str t.text,.int .i64 t.n,.int .i64 t.at_]
def toks (l:List Tok):D:=.list 4 (l.map Tok.enc)

def Zk (c:Int):Bool:=decide (97<=c/\c<=122\/65<=c/\c<=90)
def Wb (c:Int):Bool:=decide (48<=c/\c<=57)
def Jx (c:Int):Bool:=decide (c=32\/c=9\/c=10\/c=13)
def U6 (c:Int):Bool:=Zk c||Wb c||decide (c=95)
def signs:List UInt8:=[123,125,40,41,59,44,61,35,47,60,33,45,46,58,43]
def signI (c:Int):Bool:=signs.any fun b=>decide ((b.toNat:Int)=c)

def nameB (s:List UInt8):Bool:=decide (1<=s.length/\s.length<=32)&&Zk (s.getD 0 0).toNat&&s.all fun c=>U6 c.toNat

theorem Xgl {s:List UInt8}{p:UInt8->Bool}:s.all p=true↔∀i,i<s.length->p (s.getD i 0)=true:=by
 rw[List.all_eq_true]
 constructor
 ·intro h i hi; simp[hi]; exact h _ (List.getElem_mem hi)
 ·intro h x hx
  obtain⟨i,hi,rfl⟩:=List.getElem_of_mem hx
  have:=h i hi
  simpa[hi]using this
end Go.Lx
namespace Go.Sx
open Go Go.Ab Go.Lx
abbrev B:=List UInt8
abbrev iD (n:Int):D:=.int .i64 n
def Xg (l:List B):D:=.list 1 (l.map .str)
structure RTerm where
 name:B
 path:B
 var:Int
 field:Int
 n:Int
structure RFrom where
 name:B
 kind:B
 schema:Int
 of_:RTerm
structure RAtom where
 op:Int
 a:RTerm
 b:RTerm
structure RSet where
 path:B
 field:Int
 term:RTerm
structure RRule where
 head:B
 schema:Int
 froms:List RFrom
 wheres:List RAtom
 sets:List RSet
structure RMove where
 to_:B
 from_:B
 b:Int
 a:Int
 shift:Int
structure RConvert where
 from_:B
 to_:B
 a:Int
 b:Int
 moves:List RMove
structure RRef where
 name:B
 path:B
 schema:Int
 field:Int
structure RPurpose where
 name:B
 may:List RRef
 most:Int
structure RUnit where
 name:B
 of_:B
 factor:Int
 base:Int
 scale:Int
structure RType where
 kind:Int
 lo:Int
 hi:Int
 of_:B
 unit:Int
 names:List B
structure RField where
 name:B
 type:RType
 w0:Int
 w1:Int
 w2:Int
 w3:Int
structure RDepend where
 names:List B
 name:B
 from_:List Int
 to_:Int
structure RSchema where
 name:B
 by_:B
 issuer:Int
 version:Int
 fields:List RField
 depends:List RDepend
structure RSrc where
 issuers:List B
 units:List RUnit
 schemas:List RSchema
 rules:List RRule
 converts:List RConvert
 purposes:List RPurpose
def Xmy (l:List Int):D:=.list 1 (l.map iD)
def RTerm.enc (t:RTerm):D:=.agg [.str t.name,.str t.path,iD t.var,iD t.field,iD t.n]
def RFrom.enc (f:RFrom):D:=.agg [.str f.name,.str f.kind,iD f.schema,f.of_.enc]
def RAtom.enc (a:RAtom):D:=.agg [iD a.op,a.a.enc,a.b.enc]
def RSet.enc (s:RSet):D:=.agg [.str s.path,iD s.field,s.term.enc]
def RRule.enc (r:RRule):D:=.agg [.str r.head,iD r.schema,.list 8 (r.froms.map RFrom.enc),.list 11 (r.wheres.map RAtom.enc),.list 7 (r.sets.map RSet.enc)]
def RMove.enc (m:RMove):D:=.agg [.str m.to_,.str m.from_,iD m.b,iD m.a,iD m.shift]
def RConvert.enc (c:RConvert):D:=.agg [.str c.from_,.str c.to_,iD c.a,iD c.b,.list 5 (c.moves.map RMove.enc)]
def RRef.enc (r:RRef):D:=.agg [.str r.name,.str r.path,iD r.schema,iD r.field]
def RPurpose.enc (p:RPurpose):D:=.agg [.str p.name,.list 4 (p.may.map RRef.enc),iD p.most]
def RUnit.enc (u:RUnit):D:=.agg [.str u.name,.str u.of_,iD u.factor,iD u.base,iD u.scale]
def RType.enc (t:RType):D:=.agg [iD t.kind,iD t.lo,iD t.hi,.str t.of_,iD t.unit,Xg t.names]
def RField.enc (f:RField):D:=.agg [.str f.name,f.type.enc,.agg [iD f.w0,iD f.w1,iD f.w2,iD f.w3]]
def RDepend.enc (d:RDepend):D:=.agg [Xg d.names,.str d.name,Xmy d.from_,iD d.to_]
def RSchema.enc (s:RSchema):D:=.agg [.str s.name,.str s.by_,iD s.issuer,iD s.version,.list 11 (s.fields.map RField.enc),.list 4 (s.depends.map RDepend.enc)]
def RSrc.enc (s:RSrc):D:=.agg [Xg s.issuers,.list 5 (s.units.map RUnit.enc),.list 6 (s.schemas.map RSchema.enc),.list 5 (s.rules.map RRule.enc),.list 5 (s.converts.map RConvert.enc),.list 3 (s.purposes.map RPurpose.enc)]

structure RRule.small (r:RRule):Prop where
 froms:r.froms.length<=9223372036854775807
 wheres:r.wheres.length<=9223372036854775807
 sets:r.sets.length<=9223372036854775807
structure RDepend.small (r:RDepend):Prop where
 names:r.names.length<=9223372036854775807
 from_:r.from_.length<=9223372036854775807
structure RSchema.small (r:RSchema):Prop where
 fields:r.fields.length<=9223372036854775807
 depends:r.depends.length<=9223372036854775807
 names:∀f∈r.fields,f.type.names.length<=9223372036854775807
 deps:∀d∈r.depends,d.small
structure RSrc.small (s:RSrc):Prop where
 issuers:s.issuers.length<=9223372036854775807
 units:s.units.length<=9223372036854775807
 schemas:s.schemas.length<=9223372036854775807
 rules:s.rules.length<=9223372036854775807
 converts:s.converts.length<=9223372036854775807
 purposes:s.purposes.length<=9223372036854775807
 schema:∀x∈s.schemas,x.small
 rule:∀x∈s.rules,x.small
 moves:∀x∈s.converts,x.moves.length<=9223372036854775807
 may:∀x∈s.purposes,x.may.length<=9223372036854775807
structure RTab where
 src:RSrc
 order:List Int
def RTab.enc (t:RTab):D:=.agg [t.src.enc,Xmy t.order]
structure RVar where
 name:B
 kind:B
 schema:Int
 other:Bool
def RVar.enc (v:RVar):D:=.agg [.str v.name,.str v.kind,iD v.schema,.bool v.other]
inductive RForm where
 | mk (op n:Int) (kids:List RForm) (atom:RAtom)
def RForm.op:RForm->Int | .mk o _ _ _=>o
def RForm.n:RForm->Int | .mk _ n _ _=>n
def RForm.kids:RForm->List RForm | .mk _ _ k _=>k
def RForm.atom:RForm->RAtom | .mk _ _ _ a=>a
mutual
def RForm.enc:RForm->D
 | .mk o n k a=>.agg [iD o,iD n,.list 14 (RForm.encs k),a.enc]
def RForm.encs:List RForm->List D
 | []=>[]
 | f::r=>f.enc::RForm.encs r
end
theorem RForm.encs_eq:∀l:List RForm,RForm.encs l=l.map RForm.enc
 | []=>rfl
 | f::r=>by rw[RForm.encs,RForm.encs_eq r]; rfl
theorem RForm.enc_eq (f:RForm):f.enc=.agg [iD f.op,iD f.n,.list 14 (f.kids.map RForm.enc),f.atom.enc]:=by
 cases f; rw[RForm.enc,RForm.encs_eq]; rfl
mutual
def RForm.small:RForm->Prop
 | .mk _ _ k _=>k.length<=9223372036854775807/\RForm.smalls k
def RForm.smalls:List RForm->Prop
 | []=>True
 | f::r=>f.small/\RForm.smalls r
end
theorem RForm.smalls_mem:∀{l:List RForm},RForm.smalls l->∀f∈l,f.small
 | [],_,f,h=>by cases h
 | g::r,h,f,hf=>by
  rw[RForm.smalls]at h
  rcases List.mem_cons.mp hf with rfl | hf
  ·exact h.1
  ·exact RForm.smalls_mem h.2 f hf
theorem RForm.small_eq {f:RForm}(h:f.small):f.kids.length<=9223372036854775807/\∀k∈f.kids,k.small:=by
 cases f; rw[RForm.small]at h; exact⟨h.1,RForm.smalls_mem h.2⟩
structure RQ where
 name:B
 purpose:Int
 vars:List RVar
 form:RForm
def RQ.enc (q:RQ):D:=.agg [.str q.name,iD q.purpose,.list 4 (q.vars.map RVar.enc),q.form.enc]
structure RQ.small (q:RQ):Prop where
 vars:q.vars.length<=9223372036854775807
 form:q.form.small
end Go.Sx
namespace Go.Ab
open Go


structure DCall (P:Prg)(f:Nat)(vs:List V)(ob:Objs)(rv:Option V)(K:Objs->Prop):Prop where
 ret:rv=none->∀w ρ args,OM w ρ ob->ρ.gl=P.g->V.reps w ρ vs args->CallsD P.p f args.toArray .returning w (fun e u w'=>(∃v,e=.returned v)/\u=.returning/\∃ob' ρ',K ob'/\OM w' ρ' ob'/\Tr w ρ w' ρ')
 pan:∀v,rv=some v->∀w ρ args x,OM w ρ ob->ρ.gl=P.g->V.reps w ρ vs args->v.rep w ρ x->(∃t y,x=.iface t y)->CallsD P.p f args.toArray (.panicking [{ v:=x,recovered:=false }]) w
  (fun e u w'=>(∃v,e=.returned v)/\u=.panicking [{ v:=x,recovered:=true }]/\∃ob' ρ',K ob'/\OM w' ρ' ob'/\Tr w ρ w' ρ')

def Yj8:Op->Bool
 | .call { callee:=.builtin .recover,.. }=>true
 | _=>false
def Xtg (P:Program)(f n k:Nat)(its:List It)(s:S):Bool:=match P.funcs[f]? with
 | some fn=>match fn.body with
  | some (.seq (.region _ ops false) code)=>match ops.toList with
   | o::os=>decide (n<=fn.ntmps)&&decide (k<fn.ntmps)&&Yj8 o.op&&o.dst==some k&&o.guard.isNone&&W8 P fn.ntmps ops os its&&S.chk P fn.ntmps code s&&fn.results.isEmpty
   | []=>false
  | _=>false
 | none=>false

def dQ (n:Nat)(K:Objs->Prop):Uc
 | .normal,_,ob=>X0 n K [] ob
 | .ret,_,ob=>X0 n K [] ob
 | .panic _,_,_=>False
 | .exit _,_,_=>False

theorem J5 {P:Prg}{c:Ctx}(hg:P.g=c.g){xo:Nat->Prop}{ops:Array Oper}{cs:List Frame}{Q:Exit->Act->List Frame->World->Prop}{K:Xb->Objs->Prop}
  (hK:∀sl ob ρ a w,K sl ob->Mod c xo ρ sl ob a w->Q .normal a cs w) :
  ∀(l:List Oper) (j:Nat) (its:List It) (sl:Xb) (ob:Objs) (ρ:Env) (a:Act) (w:World),ops.toList.drop j=l->W8 P.p c.N ops l its=true->rwp P K (fun _ _ _=>False) its sl ob->Mod c xo ρ sl ob a w->wpOpsS P.p ops Q (List.range' j l.length) a cs w
 | [],j,[],sl,ob,ρ,a,w,_,_,h,m=>by simp only[List.length_nil,List.range'_zero,wpOpsS]; exact hK sl ob ρ a w h m
 | o::r,j,i::s,sl,ob,ρ,a,w,hd,hc,h,m=>by
  simp only[W8,Bool.and_eq_true]at hc
  obtain⟨h1,h2⟩:=hc
  have hj:ops[j]? = some o:=by
   have:=congrArg (·[0]?) hd
   simpa using this
  have hd':ops.toList.drop (j+1)=r:=by
   have:=congrArg (List.drop 1) hd
   simpa[List.drop_drop]using this
  have step:∀(d:Option Nat) (x:I) (sl:Xb),SM w ρ sl a->Xbq c.N o.dst d=true->x.chk P.p o.op=true->x.wp P sl ob (fun v ob'=>rwp P K (fun _ _ _=>False) s (put sl d v) ob') (fun v ob'=>False)->
    o.wp P.p a w (fun a' w'=>wpOpsS P.p ops Q (List.range' (j+1) r.length) a' cs w') (fun e a' w'=>Q e a' cs w'):=by
   intro d x sl hs hd hx hw
   refine I.sound (m.gl.trans hg.symm) hs m.om hx hw o rfl _ _ (fun v y ob' w' ρ' hk hr ho t=>?_) (fun u y ob' w' ρ' hk hr ho t=>hk.elim)
   obtain⟨g1,g2,g3⟩:=Xm hd m.size (hs.tr t) hr
   exact J5 hg hK r (j+1) s _ ob' ρ' _ w' hd' h2 hk ⟨m.base.tr t,ho,g1,g2,g3.trans m.df,t.xo.trans m.xo,t.gl.trans m.gl⟩
  have fin:o.wp P.p a w (fun a' w'=>wpOpsS P.p ops Q (List.range' (j+1) r.length) a' cs w') (fun e a' w'=>Q e a' cs w')->Region.wanted o (yielded ops a.tmps)=true->wpOpsS P.p ops Q (List.range' j (r.length+1)) a cs w:=by
   intro hw hwant
   rw[List.range'_succ]
   simp only[wpOpsS,hj,hwant,if_true]
   unfold Oper.wp at hw
   split
   ·rename_i w' hrun
    rw[hrun]at hw
    exact hw.elim
   ·exact hw
  simp only[List.length_cons]
  cases i with
  | op d x=>
   simp only[It.chk,Bool.and_eq_true,Option.isNone_iff_eq_none]at h1
   simp only[rwp]at h
   exact fin (step d x sl m.sm h1.1.1 h1.2 h) (by simp[Region.wanted,h1.1.2])
  | gop g want d x=>
   simp only[It.chk,Bool.and_eq_true]at h1
   simp only[rwp]at h
   rcases Wh (ops:=ops) m.sm h1.1.2 h with⟨hw,sl',hs,h⟩ | ⟨hw,sl',hs,h⟩
   ·exact fin (step d x sl' hs h1.1.1 h1.2 h) hw
   ·rw[List.range'_succ]
    simp only[wpOpsS,hj,hw,Bool.false_eq_true,if_false]
    obtain⟨g1,g2,g3⟩:=Xm h1.1.1 m.size hs (Z8.2 rfl)
    exact J5 hg hK r (j+1) s _ ob ρ _ w hd' h2 h ⟨m.base,m.om,g1,g2,g3.trans m.df,m.xo,m.gl⟩
 | [],_,_::_,_,_,_,_,_,_,hc,_,_=>by simp[W8]at hc
 | _::_,_,[],_,_,_,_,_,_,hc,_,_=>by simp[W8]at hc

theorem Xfj {P:Prg}(hm:P.p.follows .mixedOrders=true){f k:Nat}{its:List It}{keep:List Nat}{s:S}{vs:List V}{ob:Objs}{rv:Option V}{K:Objs->Prop}(hc:Xtg P.p f vs.length k its s=true)
  (h:rwp P (fun sl ob'=>cwp P s (dQ (fresh ob) K) (Xf sl keep) ob') (fun _ _ _=>False) its ((k,rv.getD (.d .nili))::Xab 0 vs) ob):DCall P f vs ob rv K:=by
 unfold Xtg at hc
 split at hc
 ·rename_i fn hf
  split at hc
  ·rename_i id ops code hb
   split at hc
   ·rename_i o os hops
    simp only[Bool.and_eq_true,decide_eq_true_eq,Option.isNone_iff_eq_none,beq_iff_eq]at hc
    obtain⟨⟨⟨⟨⟨⟨⟨hn,hk⟩,hrec⟩,hdst⟩,hgd⟩,hits⟩,hs⟩,hres⟩:=hc
    have hemp:fn.results=#[]:=by simpa using hres
    have hres':∀(t:Array Value) (w:World),(results fn t).run P.p w=.ok (.tuple #[]) w:=fun t w=>by simp[results,hemp]
    have hop:∃args ts,o.op=.call { callee:=.builtin .recover,args:=args,argTypes:=ts }:=by
     revert hrec; generalize o.op=op; intro hrec
     unfold Yj8 at hrec
     split at hrec
     ·exact⟨_,_,rfl⟩
     ·simp at hrec
    obtain⟨rargs,rts,hop⟩:=hop
    have hrun:∀(a:Act) (w:World),(execOp a.eval o).run P.p w=.ok .recover w:=fun a w=>by
     simp[execOp,hop,resolve,invoke,builtin]
    have ho0:ops[0]? = some o:=by
     have:=congrArg (·[0]?) hops; simpa using this
    have hsize:ops.size=os.length+1:=by
     have:=congrArg List.length hops; simpa using this
    have hdrop:ops.toList.drop 1=os:=by rw[hops]; rfl
    have key:∀w ρ args,OM w ρ ob->ρ.gl=P.g->V.reps w ρ vs args->∀(u u':FrameMode) (x:Value),(rv.getD (.d .nili)).rep w ρ x->
      (∀(c0:Frame) (cs:List Frame),c0.mode=u->(recoverD (c0::cs)=some (x,{ c0 with mode:=u' }::cs))\/(recoverD (c0::cs)=none/\x=.nilIface/\u'=u))->
      CallsD P.p f args.toArray u w (fun e v w'=>(∃v,e=.returned v)/\v=u'/\∃ob' ρ',K ob'/\OM w' ρ' ob'/\Tr w ρ w' ρ'):=by
     intro w ρ args hO hg hr u u' x hx hrecD
     refine callsD_of_wpS hf hb fun c0 cs hc0=>?_
     let c:Ctx:=⟨w,Xsi ρ,fn.ntmps,[],P.g,ρ.m,[]⟩
     have hlen:args.length=vs.length:=by simpa using Wm hr
     have m:Mod c ρ.xo ρ (Xab 0 vs) ob { tmps:=args.toArray++Array.replicate (fn.ntmps-args.toArray.size) undef,defers:=[] } w:=by
      refine⟨⟨Nat.le_refl _,fun _ _ _=>rfl,fun b h=>.inr h,rfl,rfl,rfl,fun id o h=>⟨o,h,.refl o⟩,(fun p hp=>by cases hp)⟩,hO,?_,?_,rfl,rfl,hg⟩
      ·refine Xac hr 0 _ (fun i hi=>?_)
       simp[Array.getElem?_append,hi]
      ·simp[c]; omega
     have hout:∀(e:Exit) (a':Act) (w':World) cs',cs'={ c0 with mode:=u' }::cs->lift c ρ.xo (dQ (fresh ob) K) e a' w'->bodyPostS P.p fn c0 cs (fun e v w'=>(∃v,e=.returned v)/\v=u'/\∃ob' ρ',K ob'/\OM w' ρ' ob'/\Tr w ρ w' ρ') e a' cs' w':=by
      rintro e a' w' cs' rfl ⟨ae,sl',ob',ρ',hq,he,m'⟩
      have old:∀kp id o,ρ.m id=some o->young (fresh ob) kp id=false:=fun kp id o h0=>by
       obtain⟨x,hx⟩:=hO.dom id o h0
       have hlt:¬fresh ob<=id:=fun hle=>by rw[Yn _ _ hle]at hx; cases hx
       simp[young,hlt]
      have tr:∀kp,Tr w ρ w' (ρ'.del (young (fresh ob) kp)):=fun kp=>by
       have b2:=m'.base
       refine⟨b2.size,fun b h1 h2=>b2.keep b h2 h1,fun b h1=>(b2.owns b (Jd h1)).symm,?_,?_,fun id o h1=>?_,b2.tape,b2.os,b2.out⟩
       ·show ρ'.xo=ρ.xo; rw[m'.xo]
       ·show ρ'.gl=ρ.gl; rw[m'.gl,hg]
       ·obtain⟨o',h3,h4⟩:=b2.same id o h1
        exact⟨o',by simp only[Env.del,old kp id o h1]; exact h3,h4⟩
      have hfin:X0 (fresh ob) K [] ob'->a'.defers=[]/\∃u'',{ c0 with mode:=u' }::cs={ c0 with mode:=u'' }::cs/\∃v,(results fn a'.tmps).run P.p w'=.ok v w'/\((∃v',Ending.returned v=.returned v')/\u''=u'/\∃ob' ρ',K ob'/\OM w' ρ' ob'/\Tr w ρ w' ρ'):=by
       rintro⟨kp,_,k2,k3⟩
       exact⟨m'.df,u',rfl,_,hres' _ _,⟨_,rfl⟩,rfl,_,_,k3,m'.om.del k2,tr kp⟩
      cases ae with
      | normal=>cases e<;>simp only[exM]at he; exact hfin hq
      | ret=>cases e<;>simp only[exM]at he; exact hfin hq
      | exit n=>exact hq.elim
      | panic v=>exact hq.elim
     refine wpS_seq (wpS_region ?_)
     have hrange:List.range ops.size=0::List.range' 1 os.length:=by
      rw[List.range_eq_range',hsize,List.range'_succ]
     rw[hrange]
     have hwant:∀a:Act,Region.wanted o (yielded ops a.tmps)=true:=fun a=>by simp[Region.wanted,hgd]
     have hput:∀cs':List Frame,cs'={ c0 with mode:=u' }::cs->wpOpsS P.p ops (Exit.thenS (code.wpS P.p (bodyPostS P.p fn c0 cs (fun e v w'=>(∃v,e=.returned v)/\v=u'/\∃ob' ρ',K ob'/\OM w' ρ' ob'/\Tr w ρ w' ρ'))) (bodyPostS P.p fn c0 cs (fun e v w'=>(∃v,e=.returned v)/\v=u'/\∃ob' ρ',K ob'/\OM w' ρ' ob'/\Tr w ρ w' ρ'))) (List.range' 1 os.length)
       (({ tmps:=args.toArray++Array.replicate (fn.ntmps-args.toArray.size) undef,defers:=[] }:Act).put o.dst x) cs' w:=by
      intro cs' hcs'
      obtain⟨g1,g2,g3⟩:=Xm (d:=some k) (o:=o.dst) (v:=x) (N:=fn.ntmps) (by simp[Xbq,hdst,hk]) m.size m.sm hx
      refine J5 (c:=c) (xo:=ρ.xo) rfl (fun sl ob1 ρ1 a1 w1 hk1 m1=>?_) os 1 its _ ob ρ _ w hdrop hits h ⟨m.base,m.om,g1,g2,g3,m.xo,m.gl⟩
      simp only[Exit.thenS]
      exact wpS_of_wp (wp_mono (Yz hm rfl code s _ _ _ ρ1 a1 w1 hs hk1 ⟨m1.base,m1.om,m1.sm.keep keep,m1.size,m1.df,m1.xo,m1.gl⟩) (fun e a' w' hl=>hout e a' w' cs' hcs' hl))
     have hwant0:Region.wanted o (yielded ops (args.toArray++Array.replicate (fn.ntmps-args.toArray.size) undef))=true:=hwant { tmps:=args.toArray++Array.replicate (fn.ntmps-args.toArray.size) undef,defers:=[] }
     simp only[wpOpsS,ho0,hwant0,if_true,hrun]
     rcases hrecD c0 cs hc0 with hr1 | ⟨hr1,hx1,hu1⟩
     ·rw[hr1]; exact hput _ rfl
     ·rw[hr1]
      subst hx1
      refine hput _ ?_
      subst hu1; cases c0; simp only at hc0; subst hc0; rfl
    refine⟨fun he w ρ args hO hg hr=>?_,fun v he w ρ args x hO hg hr hx hix=>?_⟩
    ·subst he
     exact key w ρ args hO hg hr .returning .returning .nilIface (Xdc.2 rfl) (fun c0 cs hc0=>.inr ⟨by simp[recoverD,hc0],rfl,rfl⟩)
    ·subst he
     exact key w ρ args hO hg hr _ _ x hx (fun c0 cs hc0=>.inl (by simp[recoverD,hc0]))
   ·simp at hc
  ·simp at hc
 ·simp at hc


inductive FSt where
 | pre (s:S) (r:FSt)
 | dfr (its:List It) (keep:List Nat) (k:Nat) (s:S)

def Yfr (k:Nat):Op->Bool
 | .defer { callee:=.value (.tmp j),args:=args,.. }=>j==k&&args.isEmpty
 | _=>false
def FSt.chk (P:Program)(N:Nat):Code->FSt->Bool
 | .seq a b,.pre s r=>S.chk P N a s&&FSt.chk P N b r
 | .seq (.region _ ops false) b,.dfr its _ k s=>match ops.toList.reverse with
  | o::os=>Yfr k o.op&&o.dst.isNone&&o.guard.isNone&&W8 P N ops os.reverse its&&S.chk P N b s
  | []=>false
 | _,_=>false

def Xgw (P:Prg)(g:Nat)(cl:List V)(rs:List RV)(K:V->Prop):Uc
 | .normal,sl,ob=>DCall P g cl ob none fun ob'=>Ub sl ob' rs fun vs=>Vz (fun l _=>K (Ur (l.map .d))) (V.givs ob' vs)
 | .ret,sl,ob=>DCall P g cl ob none fun ob'=>Ub sl ob' rs fun vs=>Vz (fun l _=>K (Ur (l.map .d))) (V.givs ob' vs)
 | .panic v,sl,ob=>(∃t y,v=.iface t y\/∃z,v=.d (.iface t z))/\DCall P g cl ob (some v) fun ob'=>Ub sl ob' rs fun vs=>Vz (fun l _=>K (Ur (l.map .d))) (V.givs ob' vs)
 | .exit _,_,_=>False
def Yfq (P:Prg)(s:S)(rs:List RV)(K:V->Prop)(sl:Xb)(ob:Objs):V->Prop
 | .fn g fi ca=>Xk P.p g=true/\cwp P s (Xgw P g (fi++ca) rs K) sl ob
 | _=>False
def fwp (P:Prg)(rs:List RV)(K:V->Prop):FSt->Xb->Objs->Prop
 | .pre s r,sl,ob=>cwp P s (Vs (fwp P rs K r) (Q1 rs K)) sl ob
 | .dfr its keep k s,sl,ob=>rwp P (fun sl ob=>Yfq P s rs K (Xf sl keep) ob (look (Xf sl keep) k)) (fun _ _ _=>False) its sl ob

def Xtq (P:Program)(f n:Nat)(s:FSt)(rs:List RV):Bool:=match P.funcs[f]? with
 | some fn=>match fn.body with
  | some code=>decide (n<=fn.ntmps)&&FSt.chk P fn.ntmps code s&&Jt P fn.results.toList rs
  | none=>false
 | none=>false

theorem Xd8 {P:Prg}{c:Ctx}(hg:P.g=c.g){xo:Nat->Prop}{ops:Array Oper}{Q:Exit->Act->World->Prop}{K:Xb->Objs->Prop}{l':List Oper}
  (hK:∀sl ob ρ a w,K sl ob->Mod c xo ρ sl ob a w->wpList P.p ops Q l' a w) :
  ∀(l:List Oper) (its:List It) (sl:Xb) (ob:Objs) (ρ:Env) (a:Act) (w:World),W8 P.p c.N ops l its=true->rwp P K (fun _ _ _=>False) its sl ob->Mod c xo ρ sl ob a w->wpList P.p ops Q (l++l') a w
 | [],[],sl,ob,ρ,a,w,_,h,m=>by simp only[List.nil_append]; exact hK sl ob ρ a w h m
 | o::r,i::s,sl,ob,ρ,a,w,hc,h,m=>by
  simp only[W8,Bool.and_eq_true]at hc
  obtain⟨h1,h2⟩:=hc
  have step:∀(d:Option Nat) (x:I) (sl:Xb),SM w ρ sl a->Xbq c.N o.dst d=true->x.chk P.p o.op=true->x.wp P sl ob (fun v ob'=>rwp P K (fun _ _ _=>False) s (put sl d v) ob') (fun v ob'=>False)->o.wp P.p a w (wpList P.p ops Q (r++l')) Q:=by
   intro d x sl hs hd hx hw
   refine I.sound (m.gl.trans hg.symm) hs m.om hx hw o rfl _ _ (fun v y ob' w' ρ' hk hr ho t=>?_) (fun u y ob' w' ρ' hk hr ho t=>hk.elim)
   obtain⟨g1,g2,g3⟩:=Xm hd m.size (hs.tr t) hr
   exact Xd8 hg hK r s _ ob' ρ' _ w' h2 hk ⟨m.base.tr t,ho,g1,g2,g3.trans m.df,t.xo.trans m.xo,t.gl.trans m.gl⟩
  simp only[List.cons_append]
  cases i with
  | op d x=>
   simp only[It.chk,Bool.and_eq_true,Option.isNone_iff_eq_none]at h1
   simp only[rwp]at h
   simp only[wpList,Region.wanted,h1.1.2,if_true]
   exact .inl (step d x sl m.sm h1.1.1 h1.2 h)
  | gop g want d x=>
   simp only[It.chk,Bool.and_eq_true]at h1
   simp only[rwp]at h
   simp only[wpList]
   rcases Wh (ops:=ops) m.sm h1.1.2 h with⟨hw,sl',hs,h⟩ | ⟨hw,sl',hs,h⟩
   ·rw[if_pos hw]
    exact .inl (step d x sl' hs h1.1.1 h1.2 h)
   ·rw[hw]
    simp only[Bool.false_eq_true,if_false]
    obtain⟨g1,g2,g3⟩:=Xm h1.1.1 m.size hs (Z8.2 rfl)
    exact Xd8 hg hK r s _ ob ρ _ w h2 h ⟨m.base,m.om,g1,g2,g3.trans m.df,m.xo,m.gl⟩
 | [],_::_,_,_,_,_,_,hc,_,_=>by simp[W8]at hc
 | _::_,[],_,_,_,_,_,hc,_,_=>by simp[W8]at hc

section
variable {P:Prg} {w0:World} {ρ0:Env}
def X5e (w0:World)(ρ0:Env)(K:V->Prop):Ending->World->Prop:=fun e w'=>∃v u,K v/\e=.returned u/\v.rep w' ρ0 u/\Ext w0 w'
theorem Xrr {c:Ctx}(h0:c.w0=w0)(hex:∀b,¬c.ex b){w':World}{ρ':Env}{sl:Xb}{ob:Objs}{a:Act}{fn:Func}{rs:List RV}{K:V->Prop}(hb:Base c w' ρ')(ho:OM w' ρ' ob)(hs:SM w' ρ' sl a)(hx:ρ'.xo=own ρ0)
  (hc:Jt P.p fn.results.toList rs=true) (h:Ub sl ob rs fun vs=>Vz (fun l _=>K (Ur (l.map .d))) (V.givs ob vs)):∃v,(results fn a.tmps).run P.p w'=.ok v w'/\X5e w0 ρ0 K (.returned v) w':=by
 obtain⟨vs,us,hk,hrep,hrun⟩:=U8 (P:=P.p) (fn:=fn) hs ho hc h
 cases hgv:V.givs ob vs with
 | none=>simp[hgv,Vz]at hk
 | some q=>
  obtain⟨l,ob2⟩:=q
  simp only[hgv,Vz]at hk
  obtain⟨ρ2,t2,o2,hr2⟩:=Xbu vs us ho hrep hgv
  have mo2:Xje w' (own ρ2) w' (own ρ0):=fun b h1 _=>⟨rfl,fun h2=>h1 (.inr (by rw[t2.xo,hx]; exact h2))⟩
  have hrep':=Qp mo2 _ _ l rfl hr2
  have hext:Ext w0 w':=by subst h0; exact⟨hb.size,fun b h=>hb.keep b h (hex b),hb.tape,hb.os,hb.out⟩
  exact⟨X0x us,hrun,Ur (l.map .d),X0x us,hk,rfl,Xa9 hrep',hext⟩

theorem Xj8 (hm:P.p.follows .mixedOrders=true){c:Ctx}(hg:P.g=c.g)(h0:c.w0=w0)(hex:∀b,¬c.ex b)(hdf:c.df=[])(hm0:∀id,c.m0 id=none){fn:Func}{rs:List RV}{K:V->Prop}(hres:Jt P.p fn.results.toList rs=true) :
  ∀(code:Code) (s:FSt) (sl:Xb) (ob:Objs) (ρ:Env) (a:Act) (w:World),FSt.chk P.p c.N code s=true->fwp P rs K s sl ob->Mod c (own ρ0) ρ sl ob a w->code.wp P.p (bodyPostD P.p fn (X5e w0 ρ0 K)) a w
 | .seq x y,.pre s r,sl,ob,ρ,a,w,hc,h,m=>by
  simp only[FSt.chk,Bool.and_eq_true]at hc
  simp only[fwp]at h
  refine wp_seq (wp_mono (Yz hm hg x s _ sl ob ρ a w hc.1 h m) ?_)
  rintro e a' w' ⟨ae,sl',ob',ρ',hq,he,m'⟩
  cases ae with
  | normal=>
   cases e<;>simp only[exM]at he
   exact Xj8 hm hg h0 hex hdf hm0 hres y r sl' ob' ρ' a' w' hc.2 hq m'
  | exit n=>exact hq.elim
  | ret=>
   cases e<;>simp only[exM]at he
   show Leaves _ _ _ _ a'.defers .returning w'
   rw[m'.df,hdf]
   exact Xrr h0 hex m'.base m'.om m'.sm m'.xo hres hq
  | panic v=>exact hq.elim
 | .seq (.region id ops false) y,.dfr its keep k s,sl,ob,ρ,a,w,hc,h,m=>by
  simp only[FSt.chk]at hc
  split at hc
  ·rename_i o os hops
   simp only[Bool.and_eq_true,Option.isNone_iff_eq_none]at hc
   obtain⟨⟨⟨⟨hop,hdst⟩,hgd⟩,hits⟩,hs⟩:=hc
   simp only[fwp]at h
   have hl:ops.toList=os.reverse++[o]:=by
    have:=congrArg List.reverse hops; simpa using this
   refine wp_seq (wp_region_list ?_)
   rw[hl]
   refine Xd8 hg (fun sl0 ob1 ρ1 a1 w1 hk m0=>?_) os.reverse its sl ob ρ a w hits h m
   have m1:Mod c (own ρ0) ρ1 (Xf sl0 keep) ob1 a1 w1:=⟨m0.base,m0.om,m0.sm.keep keep,m0.size,m0.df,m0.xo,m0.gl⟩
   generalize Xf sl0 keep=sl1 at hk m1
   unfold Yfq at hk
   split at hk
   ·rename_i g fi ca e1
    obtain⟨hcall,hk⟩:=hk
    have hrep:=m1.sm k
    rw[e1]at hrep
    have hrep0:=hrep
    rw[Xep]at hrep
    obtain⟨fs,gs,hv,hr1,hr2⟩:=hrep
    obtain⟨args,ts,hop'⟩:∃args ts,o.op=.defer { callee:=.value (.tmp k),args:=args,argTypes:=ts }/\args=#[]:=by
     revert hop; generalize o.op=op; intro hop
     unfold Yfr at hop
     split at hop
     ·simp only[Bool.and_eq_true,beq_iff_eq]at hop
      obtain⟨rfl,hop⟩:=hop
      exact⟨_,_,rfl,by simpa using hop⟩
     ·simp at hop
    obtain⟨hop',rfl⟩:=hop'
    let d:Deferred:={ target:=.fn (.func g) gs.toArray,args:=fs.toArray++#[] }
    have hrun:(execOp a1.eval o).run P.p w1=.ok (.defer d) w1:=by
     have:a1.eval (.tmp k)=.func (.func g) fs.toArray gs.toArray:=hv
     simp[execOp,hop',resolve,this,Deferred.ofValue,d]
    simp only[wpList,Region.wanted,hgd,if_true]
    left
    unfold Oper.wp
    rw[hrun]
    simp only[Oper.upon,hdst,Act.put]
    let c2:Ctx:=⟨c.w0,c.ex,c.N,[d],c.g,c.m0,[(.fn g fi ca,.func (.func g) fs.toArray gs.toArray)]⟩
    have m2:Mod c2 (own ρ0) ρ1 sl1 ob1 { a1 with defers:=d::a1.defers } w1:=by
     refine⟨⟨m1.base.size,m1.base.keep,m1.base.owns,m1.base.tape,m1.base.os,m1.base.out,m1.base.same,fun p hp=>?_⟩,m1.om,m1.sm,m1.size,?_,m1.xo,m1.gl⟩
     ·simp only[c2,List.mem_singleton]at hp
      subst hp
      rw[hv]at hrep0
      exact hrep0
     ·show d::a1.defers=[d]; rw[m1.df,hdf]
    show Code.wp _ _ _ _ _
    refine wp_mono (Yz hm (c:=c2) hg y s _ _ _ ρ1 _ w1 hs hk m2) ?_
    rintro e a' w' ⟨ae,sl',ob',ρ',hq,he,m'⟩
    have hclo:V.reps w' ρ' (fi++ca) (fs++gs):=by
     have:=m'.base.ext (.fn g fi ca,.func (.func g) fs.toArray gs.toArray) (by simp[c2])
     simp only at this
     rw[Xep]at this
     obtain⟨fs',gs',e2,q1,q2⟩:=this
     simp only[Value.func.injEq,true_and]at e2
     obtain⟨e3,e4⟩:=e2
     have e3:fs=fs':=by simpa using congrArg Array.toList e3
     have e4:gs=gs':=by simpa using congrArg Array.toList e4
     subst e3 e4
     exact Wl q1 q2
    have hinv:∀w,(invoke d.target d.args).run P.p w=.ok (.enter g (fs++gs).toArray) w:=fun w=>by
     simp only[d,invoke,Wr hcall]
     simp
    have hd:a'.defers=[d]:=m'.df
    have after:∀(w'':World) (ob2:Objs) (ρ2:Env),(Ub sl' ob2 rs fun vs=>Vz (fun l _=>K (Ur (l.map .d))) (V.givs ob2 vs))->OM w'' ρ2 ob2->Tr w' ρ' w'' ρ2->Leaves P.p fn a'.tmps (X5e w0 ρ0 K) [] .returning w'':=by
     intro w'' ob2 ρ2 hq o2 t2
     exact Xrr (c:=c2) h0 hex (m'.base.tr t2) o2 (m'.sm.tr t2) (t2.xo.trans m'.xo) hres hq
    have hgl:ρ'.gl=P.g:=m'.gl.trans hg.symm
    have hret:DCall P g (fi++ca) ob' none (fun ob'=>Ub sl' ob' rs fun vs=>Vz (fun l _=>K (Ur (l.map .d))) (V.givs ob' vs))->Leaves P.p fn a'.tmps (X5e w0 ρ0 K) a'.defers .returning w':=by
     intro hq
     rw[hd]
     refine leaves_cons (fv:=.func g) (cap:=gs.toArray) (dargs:=fs.toArray++#[]) (by simp) (hinv w') ((hq.ret rfl w' ρ' (fs++gs) m'.om hgl hclo).mono ?_)
     rintro e u w'' ⟨⟨v,rfl⟩,rfl,ob2,ρ2,k2,o2,t2⟩
     exact after w'' ob2 ρ2 k2 o2 t2
    cases ae with
    | normal=>cases e<;>simp only[exM]at he; exact hret hq
    | ret=>cases e<;>simp only[exM]at he; exact hret hq
    | exit n=>exact hq.elim
    | panic v=>
     cases e<;>simp only[exM]at he
     obtain⟨u,rfl,hu⟩:=he
     obtain⟨⟨t,y,hty⟩,hq⟩:=hq
     have hix:∃t y,u=.iface t y:=by
      rcases hty with rfl | ⟨z,rfl⟩
      ·rw[Wq (by simp[V.isAgg]) (by simp)]at hu
       simp only[V.repC,List.cons.injEq,and_true]at hu
       obtain⟨c,hu,_⟩:=hu
       exact⟨_,_,hu⟩
      ·rw[Xa8]at hu
       obtain⟨c,hu,_⟩:=hu
       exact⟨_,_,hu⟩
     show Leaves _ _ _ _ a'.defers _ w'
     rw[hd]
     refine leaves_cons (fv:=.func g) (cap:=gs.toArray) (dargs:=fs.toArray++#[]) (by simp) (hinv w') ((hq.pan v rfl w' ρ' (fs++gs) u m'.om hgl hclo hu hix).mono ?_)
     rintro e u' w'' ⟨⟨v',rfl⟩,rfl,ob2,ρ2,k2,o2,t2⟩
     exact after w'' ob2 ρ2 k2 o2 t2
   ·exact hk.elim
  ·simp at hc
 | .skip,_,_,_,_,_,_,hc,_,_ | .region _ _ _,_,_,_,_,_,_,hc,_,_ | .cond _ _ _,_,_,_,_,_,_,hc,_,_ | .block _ _,_,_,_,_,_,_,hc,_,_ | .loop _,_,_,_,_,_,_,hc,_,_ | .rangeFunc _ _ _ _,_,_,_,_,_,_,hc,_,_ | .exit _,_,_,_,_,_,_,hc,_,_ | .scope _,_,_,_,_,_,_,hc,_,_ | .label _,_,_,_,_,_,_,hc,_,_ | .goto _,_,_,_,_,_,_,hc,_,_ | .ret,_,_,_,_,_,_,hc,_,_ | .refuse _,_,_,_,_,_,_,hc,_,_=>by simp[FSt.chk]at hc
 | .seq (.region _ _ true) _,.dfr _ _ _ _,_,_,_,_,_,hc,_,_ | .seq .skip _,.dfr _ _ _ _,_,_,_,_,_,hc,_,_ | .seq (.seq _ _) _,.dfr _ _ _ _,_,_,_,_,_,hc,_,_ | .seq (.cond _ _ _) _,.dfr _ _ _ _,_,_,_,_,_,hc,_,_ | .seq (.block _ _) _,.dfr _ _ _ _,_,_,_,_,_,hc,_,_ | .seq (.loop _) _,.dfr _ _ _ _,_,_,_,_,_,hc,_,_ | .seq (.rangeFunc _ _ _ _) _,.dfr _ _ _ _,_,_,_,_,_,hc,_,_ | .seq (.exit _) _,.dfr _ _ _ _,_,_,_,_,_,hc,_,_ | .seq (.scope _) _,.dfr _ _ _ _,_,_,_,_,_,hc,_,_ | .seq (.label _) _,.dfr _ _ _ _,_,_,_,_,_,hc,_,_ | .seq (.goto _) _,.dfr _ _ _ _,_,_,_,_,_,hc,_,_ | .seq .ret _,.dfr _ _ _ _,_,_,_,_,_,hc,_,_ | .seq (.refuse _) _,.dfr _ _ _ _,_,_,_,_,_,hc,_,_=>by simp[FSt.chk]at hc

theorem Xeh (hm:P.p.follows .mixedOrders=true){f:Nat}{s:FSt}{rs:List RV}{ds:List D}{ob0:Objs}{K:V->Prop}(hc:Xtq P.p f ds.length s rs=true)
  (h:fwp P rs K s (Xab 0 (ds.map .d)) []):PCall P f (ds.map .d) ob0 K:=by
 unfold Xtq at hc
 split at hc
 ·rename_i fn hf
  split at hc
  ·rename_i code hb
   simp only[Bool.and_eq_true,decide_eq_true_eq]at hc
   obtain⟨⟨hn,h1⟩,h2⟩:=hc
   refine⟨fun w ρ args hO hg hr=>?_⟩
   let ρ1:Env:=⟨fun _=>none,own ρ,ρ.gl⟩
   let c:Ctx:=⟨w,fun _=>False,fn.ntmps,[],P.g,fun _=>none,[]⟩
   have hnone:∀b,¬Xsi ρ1 b:=fun b ⟨_,_,h,_⟩=>by cases h
   have hlt:∀b,own ρ b->b<w.heap.size:=fun b h=>h.elim (fun ⟨_,_,h1,h2⟩=>Q0 hO h1 h2) (hO.xlt b)
   have mo:Xje w (own ρ) w (own ρ1):=fun b h1 _=>⟨rfl,fun h2=>h2.elim (hnone b) h1⟩
   have hr0:=Qp mo _ _ ds rfl hr
   have hlen:args.length=ds.length:=by simpa using Wm hr
   have m:Mod c (own ρ) ρ1 (Xab 0 (ds.map .d)) [] { tmps:=args.toArray++Array.replicate (fn.ntmps-args.toArray.size) undef,defers:=[] } w:=by
    refine⟨⟨Nat.le_refl _,fun _ _ _=>rfl,fun b h=>absurd h (hnone b),rfl,rfl,rfl,(fun id o h=>by cases h),(fun p hp=>by cases hp)⟩,⟨fun j x hx=>(by simp[lookO]at hx),fun j o hj=>(by cases hj),fun i j o p b hi=>(by cases hi),fun b hb=>hlt b hb,fun b o hb=>⟨(hO.glb b o hb).1,fun h=>h.elim (hnone b) (hO.glb b o hb).2⟩,fun b hb=>absurd hb (hnone b),trivial⟩,?_,?_,rfl,rfl,hg⟩
    ·refine Xac hr0 0 _ (fun i hi=>?_)
     simp[Array.getElem?_append,hi]
    ·simp[c]; omega
   exact calls_of_wp_defers hf hb (Xj8 (w0:=w) (ρ0:=ρ) hm (c:=c) rfl rfl (fun _ h=>h) rfl (fun _=>rfl) h2 code s _ _ _ _ w h1 h m)
  ·simp at hc
 ·simp at hc
end

inductive FS2 where
 | pre (s:S2) (r:FS2)
 | dfr (l:List It2) (keep:List (Nat×E)) (k:Nat) (s:S2)
def FSt.lift (fs:List Nat):FSt->Option FS2
 | .pre s r=>match s.lift fs,r.lift fs with
  | some s,some r=>some (.pre s r)
  | _,_=>none
 | .dfr its kp k s=>match Xaw fs kp [] its [] [] [],s.lift fs with
  | some (l,keep),some s=>some (.dfr l keep k s)
  | _,_=>none
def Xgx (P:Prg)(T:Tab)(s:S2)(rs:List RV)(K:V->Prop)(sl:Xb)(ob:Objs):V->Prop
 | .fn g fi ca=>Xk P.p g=true/\Ze P T s (Xgw P g (fi++ca) rs K) sl ob
 | _=>False
def Xuu (P:Prg)(T:Tab)(rs:List RV)(K:V->Prop):FS2->Xb->Objs->Prop
 | .pre s r,sl,ob=>Ze P T s (Vs (Xuu P T rs K r) (Q1 rs K)) sl ob
 | .dfr l keep k s,sl,ob=>Us P T (fun sl ob=>Vm T sl ob keep/\Xgx P T s rs K (Ql T sl ob keep) ob (look (Ql T sl ob keep) k)) (fun _ _ _=>False) l sl ob

theorem Yrv {T:Tab}{sl:Xb}{ob:Objs}:Inv T [] sl sl ob:=fun k p e h=>by
 simp[ent,W5]at h; obtain⟨rfl,rfl⟩:=h; exact⟨fun _=>rfl,fun h=>by cases h⟩

theorem FSt.lift_sound {P:Prg}{T:Tab}(hT:TOk P T){fs:List Nat}{rs:List RV}{K:V->Prop}:∀(s:FSt) {s2:FS2} {sl:Xb} {ob:Objs},s.lift fs=some s2->Xuu P T rs K s2 sl ob->fwp P rs K s sl ob
 | .pre s r,s2,sl,ob,h,hc=>by
  simp only[FSt.lift]at h
  split at h
  ·rename_i s' r' hs hr
   cases h
   simp only[Xuu]at hc
   simp only[fwp]
   refine S.lift_sound hT s hs (fun e sl ob h=>?_) hc
   cases e with
   | normal=>exact FSt.lift_sound hT r hr h
   | _=>exact h
  ·cases h
 | .dfr its kp k s,s2,sl,ob,h,hc=>by
  simp only[FSt.lift]at h
  split at h
  ·rename_i l keep s' hl hs
   cases h
   simp only[Xuu]at hc
   simp only[fwp]
   have hmono:∀sl ob,Xgx P T s' rs K sl ob (look sl k)->Yfq P s rs K sl ob (look sl k):=fun sl ob h=>by
    unfold Xgx at h
    split at h
    ·rename_i g fi ca e1
     simp only[Yfq,e1]
     exact⟨h.1,S.lift_sound hT s hs (fun _ _ _ h=>h) h.2⟩
    ·exact h.elim
   have:=Y8 (pk:=[]) hT (K:=fun sl ob=>Xgx P T s' rs K sl ob (look sl k)) (K':=fun sl ob=>Yfq P s rs K sl ob (look sl k)) (Pn:=fun _ _ _=>False) (Pn':=fun _ _ _=>False) hmono (fun _ _ _ h=>h) its Yrv hl hc
   exact this
  ·cases h

theorem Qe {P:Prg}{p:Program}(hP:P.p=p)(hm:p.follows .mixedOrders=true){f:Nat}{s:FSt}{rs:List RV}{ds:List D}{ob0:Objs}{K:V->Prop}{fs:List Nat}{s2:FS2}{T:Tab}(hc:Xtq p f ds.length s rs=true)(hl:s.lift fs=some s2)(hT:TOk P T)
  (h:Xuu P T rs K s2 (Xab 0 (ds.map .d)) []):PCall P f (ds.map .d) ob0 K:=by
 subst hP
 exact Xeh hm hc (FSt.lift_sound hT s hl h)

theorem Ug {P:Prg}{p:Program}(hP:P.p=p)(hm:p.follows .mixedOrders=true){f k:Nat}{its:List It}{s:S}{vs:List V}{ob:Objs}{rv:Option V}{K:Objs->Prop}{fs keep:List Nat}{l:List It2}{kp:List (Nat×E)}{s2:S2}{T:Tab}(hc:Xtg p f vs.length k its s=true)
  (hl:Xaw fs keep [] its [] [] []=some (l,kp)) (hs:s.lift fs=some s2) (hT:TOk P T)
  (h:Us P T (fun sl ob'=>Vm T sl ob' kp/\Ze P T s2 (dQ (fresh ob) K) (Ql T sl ob' kp) ob') (fun _ _ _=>False) l ((k,rv.getD (.d .nili))::Xab 0 vs) ob):DCall P f vs ob rv K:=by
 subst hP
 refine Xfj hm (keep:=keep) hc ?_
 have:=Y8 (pk:=[]) hT (K:=fun sl ob'=>Ze P T s2 (dQ (fresh ob) K) sl ob') (K':=fun sl ob'=>cwp P s (dQ (fresh ob) K) sl ob') (Pn:=fun _ _ _=>False) (Pn':=fun _ _ _=>False) (fun sl ob h=>S.lift_sound hT s hs (fun _ _ _ h=>h) h) (fun _ _ _ h=>h) its Yrv hl h
 exact this

section
variable (P:Prg) (T:Tab) (sl:Xb) (ob:Objs) (rs:List RV) (K:V->Prop) (KB:Objs->Prop) (n k g:Nat) (v:V) (cl:List V)
@[simp] theorem fwp2_pre (s:S2)(r:FS2):Xuu P T rs K (.pre s r) sl ob=Ze P T s (Vs (Xuu P T rs K r) (Q1 rs K)) sl ob:=by simp only[Xuu]
@[simp] theorem fwp2_dfr (l:List It2)(kp:List (Nat×E))(s:S2):Xuu P T rs K (.dfr l kp k s) sl ob=Us P T (fun sl ob=>Vm T sl ob kp/\Xgx P T s rs K (Ql T sl ob kp) ob (look (Ql T sl ob kp) k)) (fun _ _ _=>False) l sl ob:=by simp only[Xuu]
@[simp] theorem dfrK2_f (s:S2)(fi ca:List V):Xgx P T s rs K sl ob (.fn g fi ca)=(Xk P.p g=true/\Ze P T s (Xgw P g (fi++ca) rs K) sl ob):=by simp only[Xgx]
@[simp] theorem dferQ_r:Xgw P g cl rs K .ret sl ob=DCall P g cl ob none fun ob'=>Ub sl ob' rs fun vs=>Vz (fun l _=>K (Ur (l.map .d))) (V.givs ob' vs):=by simp only[Xgw]
theorem Ybw:Xgw P g cl rs K (.panic v) sl ob=((∃t y,v=.iface t y\/∃z,v=.d (.iface t z))/\DCall P g cl ob (some v) fun ob'=>Ub sl ob' rs fun vs=>Vz (fun l _=>K (Ur (l.map .d))) (V.givs ob' vs)):=by simp only[Xgw]
@[simp] theorem dferQ_pd (t:Nat)(z:D):Xgw P g cl rs K (.panic (.d (.iface t z))) sl ob=DCall P g cl ob (some (.d (.iface t z))) fun ob'=>Ub sl ob' rs fun vs=>Vz (fun l _=>K (Ur (l.map .d))) (V.givs ob' vs):=by
 rw[Ybw,eq_iff_iff]; exact⟨fun h=>h.2,fun h=>⟨⟨t,.any,.inr ⟨z,rfl⟩⟩,h⟩⟩
@[simp] theorem dQ_n:dQ n KB .normal sl ob=X0 n KB [] ob:=by simp only[dQ]
@[simp] theorem dQ_p:dQ n KB (.panic v) sl ob=False:=by simp only[dQ]
end
@[congr] theorem DCall_congr {P:Prg}{f:Nat}{vs vs':List V}{ob ob':Objs}{rv rv':Option V}{K:Objs->Prop}(h:vs=vs')(h':ob=ob')(h2:rv=rv'):DCall P f vs ob rv K=DCall P f vs' ob' rv' K:=by rw[h,h',h2]
@[congr] theorem dfrK2_congr {P:Prg}{T:Tab}{s:S2}{rs:List RV}{K:V->Prop}{sl sl':Xb}{ob ob':Objs}{v v':V}(h:sl=sl')(h':ob=ob')(h2:v=v'):Xgx P T s rs K sl ob v=Xgx P T s rs K sl' ob' v':=by rw[h,h',h2]
@[congr] theorem fwp2_congr {P:Prg}{T:Tab}{rs:List RV}{K:V->Prop}{s:FS2}{sl sl':Xb}{ob ob':Objs}(h:sl=sl')(h':ob=ob'):Xuu P T rs K s sl ob=Xuu P T rs K s sl' ob':=by rw[h,h']
end Go.Ab
namespace Go.Ab
open Go
section
variable {ob:Objs} {n k:Nat} {l:List Nat}
theorem X5z (h:k<n):young n l k=false:=by simp[young]; omega
@[simp] theorem Xag (h:fresh ob<=n):X1 (young n l) ob=ob:=by
 induction ob with
 | nil=>rfl
 | cons e r ih=>
  obtain⟨i,y⟩:=e
  simp only[fresh]at h
  have hi:i<n/\fresh r<=n:=by split at h<;>omega
  simp only[X1,X5z hi.1,Bool.false_eq_true,if_false,ih hi.2]
@[simp] theorem young_old_add (m:Nat)(h:(lookO ob k).isSome=true):young (fresh ob+m) l k=false:=by
 have:k<fresh ob:=by
  rcases Nat.lt_or_ge k (fresh ob) with h1 | h1
  ·exact h1
  ·rw[Yn ob k h1]at h; cases h
 simp[young]; omega
mutual
theorem V.men_mono {p q:Nat->Bool}(h:∀j,q j=false->p j=false):∀v:V,V.men q v=false->V.men p v=false
 | .d _,_=>rfl
 | .ptr id _,e=>h id e
 | .sl id _,e=>h id e
 | .sd id _,e=>h id e
 | .mp id,e=>h id e
 | .ep id _ _ _ _ _,e=>h id e
 | .bs id _ _ _,e=>h id e
 | .fn _ a b,e=>by
  simp only[V.men,Bool.or_eq_false_iff]at e⊢
  exact⟨V.mens_mono h a e.1,V.mens_mono h b e.2⟩
 | .agg xs,e=>by simp only[V.men]at e⊢; exact V.mens_mono h xs e
 | .iface _ v,e=>by simp only[V.men]at e⊢; exact V.men_mono h v e
 | .tup xs,e=>by simp only[V.men]at e⊢; exact V.mens_mono h xs e
 | .undef,_=>rfl
 | .any,_=>rfl
theorem V.mens_mono {p q:Nat->Bool}(h:∀j,q j=false->p j=false):∀xs:List V,V.mens q xs=false->V.mens p xs=false
 | [],_=>rfl
 | x::r,e=>by
  simp only[V.mens,Bool.or_eq_false_iff]at e⊢
  exact⟨V.men_mono h x e.1,V.mens_mono h r e.2⟩
end
theorem Xf1 {p q:Nat->Bool}(h:∀j,q j=false->p j=false):∀xs:List (D×V),J6 q xs=false->J6 p xs=false
 | [],_=>rfl
 | (_,x)::r,e=>by
  simp only[J6,Bool.or_eq_false_iff]at e⊢
  exact⟨V.men_mono h x e.1,Xf1 h r e.2⟩
theorem noMenO_mono {p q:Nat->Bool}(h:∀j,q j=false->p j=false):∀ob:Objs,noMenO q ob=true->noMenO p ob=true
 | [],_=>rfl
 | (_,.box _ t)::r,e=>by
  simp only[noMenO,Bool.and_eq_true,Bool.not_eq_true']at e⊢
  exact⟨V.men_mono h t e.1,noMenO_mono h r e.2⟩
 | (_,.vec _ _ t)::r,e=>by
  simp only[noMenO,Bool.and_eq_true,Bool.not_eq_true']at e⊢
  exact⟨V.mens_mono h t e.1,noMenO_mono h r e.2⟩
 | (_,.map t)::r,e=>by
  simp only[noMenO,Bool.and_eq_true,Bool.not_eq_true']at e⊢
  exact⟨Xf1 h t e.1,noMenO_mono h r e.2⟩
 | (_,.arr _ _ _)::r,e=>by simp only[noMenO]at e⊢; exact noMenO_mono h r e
 | (_,.gone)::r,e=>by simp only[noMenO]at e⊢; exact noMenO_mono h r e
theorem Z6 (h:∀kp,noMenO (young (fresh ob) kp) ob=true)(hn:fresh ob<=n):noMenO (young n l) ob=true:=
 noMenO_mono (fun j e=>by simp[young]at e⊢; intro hj; exact e (by omega)) ob (h l)
theorem Vf (m:Nat)(h:∀kp,noMenO (young (fresh ob) kp) ob=true):noMenO (young (fresh ob+m) l) ob=true:=Z6 h (by omega)
theorem DCall.of_wf {P:Prg}{f:Nat}{vs:List V}{ob:Objs}{rv:Option V}{K:Objs->Prop}(h:(∀kp,V.mens (young (fresh ob) kp) vs=false)->(∀kp,noMenO (young (fresh ob) kp) ob=true)->DCall P f vs ob rv K):DCall P f vs ob rv K:=by
 have key:∀w ρ args,OM w ρ ob->V.reps w ρ vs args->DCall P f vs ob rv K:=fun w ρ args hO hr=>by
  have old:∀kp id o,ρ.m id=some o->young (fresh ob) kp id=false:=fun kp id o h0=>by
   obtain⟨x,hx⟩:=hO.dom id o h0
   have hlt:¬fresh ob<=id:=fun hle=>by rw[Yn _ _ hle]at hx; cases hx
   simp[young,hlt]
  exact h (fun kp=>V.mens_dom (old kp) _ _ hr) (fun kp=>Vp ob fun e he=>(hO.one e.1 _ (hO.once.look e he)).noMen (old kp))
 exact⟨fun e w ρ args hO hg hr=>(key w ρ args hO hr).ret e w ρ args hO hg hr,fun v e w ρ args x hO hg hr hv hi=>(key w ρ args hO hr).pan v e w ρ args x hO hg hr hv hi⟩
end
end Go.Ab
namespace Go.Ab
open Go
section
variable {P:Prg} {T:Tab} {sl:Xb} {ob:Objs} {K:Xb->Objs->Prop} {Pn:V->Xb->Objs->Prop}
@[simp] theorem zm:owp P K Pn .done sl ob=K sl ob:=by simp only[owp]
@[simp] theorem zn (i:Nat)(x:It)(r:Ot):owp P K Pn (.one i x r) sl ob=itK P (owp P K Pn r) Pn x sl ob:=by simp only[owp]
@[simp] theorem zl (l:Ots):owp P K Pn (.br l) sl ob=Xjh P K Pn l sl ob:=by simp only[owp]
@[simp] theorem zp:Xjh P K Pn .nil sl ob=True:=by simp only[Xjh]
@[simp] theorem zo (i:Nat)(x:It)(r:Ot)(l:Ots):Xjh P K Pn (.cons i x r l) sl ob=(itK P (owp P K Pn r) Pn x sl ob/\Xjh P K Pn l sl ob):=by simp only[Xjh]
@[simp] theorem qq (d:Option Nat)(i:I):itK P K Pn (.op d i) sl ob=i.wp P sl ob (fun v ob'=>K (put sl d v) ob') (fun v ob'=>Pn v sl ob'):=by simp only[itK]
@[simp] theorem qp (s:Nat)(b:Bool)(d:Option Nat)(i:I):itK P K Pn (.gop s b d i) sl ob=gdK s b sl (fun sl=>i.wp P sl ob (fun v ob'=>K (put sl d v) ob') (fun v ob'=>Pn v sl ob')) (fun sl=>K (put sl d .undef) ob) (look sl s):=by simp only[itK]
@[simp] theorem qm (t:Ot)(kp pk:List Nat)(Q:Uc):Ze P T (.rgT t kp pk) Q sl ob=owp P (fun sl ob=>Q .normal (Xf sl kp) ob) (fun v sl ob=>Q (.panic v) (Xf sl pk) ob) t sl ob:=by simp only[Ze]
variable {KO PO:V->Objs->Prop} {KV:V->Prop}
@[simp] theorem iwp_mkm (r:Option A):I.wp P sl ob KO PO (.mkm r)=(X17 sl r/\KO (.mp (fresh ob)) ((fresh ob,.map [])::ob)):=by simp only[I.wp]
@[simp] theorem iwp_lkp (kd z:D)(ok:Bool)(m k:A):I.wp P sl ob KO PO (.lkp kd z ok m k)=Xx1 ob kd z ok (fun v=>KO v ob) (m.ev sl) (k.ev sl):=by simp only[I.wp]
@[simp] theorem iwp_mset (kd:D)(m k v:A):I.wp P sl ob KO PO (.mset kd m k v)=Xeb ob kd (v.ev sl) KO (m.ev sl) (k.ev sl):=by simp only[I.wp]
@[simp] theorem za (g n:Nat)(ag:Bool)(x:D):I.wp P sl ob KO PO (.gld g n ag x)=(Xcc P g x/\x.sz=n/\(V.d x).isAgg=ag/\KO (.d x) ob):=by simp only[I.wp]
@[simp] theorem mkmK_none:X17 sl none=True:=by simp only[X17]
@[simp] theorem mkmK_some (x:A):X17 sl (some x)=Xkh (x.ev sl):=by simp only[X17]
@[simp] theorem isIntV_int (k:IntKind)(n:Int):Xkh (.d (.int k n))=True:=by simp only[Xkh]
@[simp] theorem lkpK_mp (kd z k:D)(ok:Bool)(id:Nat):Xx1 ob kd z ok KV (.mp id) (.d k)=Xhc kd z ok k KV (lookO ob id):=by simp only[Xx1]
@[simp] theorem lkpKo_map (kd z k:D)(ok:Bool)(es:List (D×V)):Xhc kd z ok k KV (some (.map es))=(Qx kd k es/\KV (X42 z ok (J0 k es))):=by simp only[Xhc]
@[simp] theorem msetK_mp (kd k:D)(v:V)(id:Nat):Xeb ob kd v KO (.mp id) (.d k)=Xaz ob id kd k v KO (lookO ob id):=by simp only[Xeb]
@[simp] theorem msetKo_map (kd k:D)(v:V)(id:Nat)(es:List (D×V)):Xaz ob id kd k v KO (some (.map es))=(Qx kd k es/\v.sto=true/\KO .undef (setO ob id (.map (Xqh k v es)))):=by simp only[Xaz]
@[simp] theorem lkpV_fs (z:D)(v:V):X42 z false (some v)=v:=by simp only[X42]
@[simp] theorem lkpV_fn (z:D):X42 z false none=.d z:=by simp only[X42]
@[simp] theorem findE_nil (k:D):J0 k []=none:=by simp only[J0]
@[simp] theorem findE_cons (k j:D)(v:V)(r:List (D×V)):J0 k ((j,v)::r)=if D.sameKey k j then some v else J0 k r:=by simp only[J0]
@[simp] theorem updE_nil (k:D)(x:V):Xqh k x []=[(k,x)]:=by simp only[Xqh]
@[simp] theorem updE_cons (k j:D)(x v:V)(r:List (D×V)):Xqh k x ((j,v)::r)=if D.sameKey k j then (k,x)::r else (j,v)::Xqh k x r:=by simp only[Xqh]
@[simp] theorem sameKey_str (a b:List UInt8):D.sameKey (.str a) (.str b)=(a==b):=by simp only[D.sameKey]
@[simp] theorem alike_str (a b:List UInt8):D.alike (.str a) (.str b)=true:=by simp only[D.alike]
@[simp] theorem keysOk_nil (kd k:D):Qx kd k []=(D.alike kd k=true):=by simp[Qx]
@[simp] theorem keysOk_cons (kd k j:D)(v:V)(r:List (D×V)):Qx kd k ((j,v)::r)=(D.alike k j=true/\Qx kd k r):=by
 simp only[Qx,List.mem_cons,forall_eq_or_imp,eq_iff_iff]
 exact⟨fun ⟨a,b,c⟩=>⟨b,a,c⟩,fun ⟨a,b,c⟩=>⟨b,a,c⟩⟩
@[simp] theorem cwp_idxV (n z:Nat)(ag:Bool)(x y:A):C.wp sl ob KV (.aix n z ag x y)=Xmx n z ag KV (x.ev sl) (y.ev sl):=by simp only[C.wp]
@[simp] theorem cval_eqD (ty:KT)(e:Bool)(x y:A):C.val sl ob (.eqD ty e x y)=Yeb e (x.ev sl) (y.ev sl):=by simp only[C.val]
@[simp] theorem cval_idxV (n z:Nat)(ag:Bool)(x y:A):C.val sl ob (.aix n z ag x y)=Xtv (x.ev sl) (y.ev sl):=by simp only[C.val]
@[simp] theorem eqDV_d (e:Bool)(x y:D):Yeb e (.d x) (.d y)=.d (.bool (D.eqb x y==e)):=by simp only[Yeb]
@[simp] theorem idxVV_d (k:IntKind)(xs:List D)(n:Int):Xtv (.d (.agg xs)) (.d (.int k n))=.d (xs.getD n.toNat default):=by simp only[Xtv]
def Yfu (ty:KT):V->V->Prop
 | .d x,.d y=>ty.fits x=true/\ty.fits y=true
 | _,_=>False
@[simp] theorem eqDS_d (ty:KT)(x y:D):Yfu ty (.d x) (.d y)=(ty.fits x=true/\ty.fits y=true):=by simp only[Yfu]
@[simp] theorem cok_eqD (ty:KT)(e:Bool)(x y:A):C.ok sl ob (.eqD ty e x y)=Yfu ty (x.ev sl) (y.ev sl):=by
 simp only[C.ok,C.wp,C.val]
 generalize x.ev sl=a; generalize y.ev sl=b
 cases a<;>cases b<;>simp[Yft,Yfu,Yeb]
end
attribute [simp] D.eqb D.eqbs KT.fits KT.fitss KT.fitsA
@[congr] theorem owp_congr {P:Prg}{K:Xb->Objs->Prop}{Pn:V->Xb->Objs->Prop}{t:Ot}{sl:Xb}{ob:Objs}:owp P K Pn t sl ob=owp P K Pn t sl ob:=rfl
@[congr] theorem itK_congr {P:Prg}{K:Xb->Objs->Prop}{Pn:V->Xb->Objs->Prop}{t:It}{sl:Xb}{ob:Objs}:itK P K Pn t sl ob=itK P K Pn t sl ob:=rfl
@[congr] theorem slgK_congr {ob:Objs}{n z:Nat}{K:V->Objs->Prop}{u u':V}(h0:u=u'):X85 ob n z K u=X85 ob n z K u':=by rw[h0]
@[congr] theorem slgKv_congr {n z:Nat}{K:D->Prop}{u u':Option V}(h0:u=u'):Xua n z K u=Xua n z K u':=by rw[h0]
@[congr] theorem lkpK_congr {ob:Objs}{kd z:D}{ok:Bool}{K:V->Prop}{u u' v v':V}(h0:u=u')(h1:v=v'):Xx1 ob kd z ok K u v=Xx1 ob kd z ok K u' v':=by rw[h0,h1]
@[congr] theorem lkpKo_congr {kd z k:D}{ok:Bool}{K:V->Prop}{o o':Option Ob}(h0:o=o'):Xhc kd z ok k K o=Xhc kd z ok k K o':=by rw[h0]
@[congr] theorem msetK_congr {ob:Objs}{kd:D}{x x':V}{K:V->Objs->Prop}{u u' v v':V}(h:x=x')(h0:u=u')(h1:v=v'):Xeb ob kd x K u v=Xeb ob kd x' K u' v':=by rw[h,h0,h1]
@[congr] theorem msetKo_congr {ob:Objs}{id:Nat}{kd k:D}{x:V}{K:V->Objs->Prop}{o o':Option Ob}(h0:o=o'):Xaz ob id kd k x K o=Xaz ob id kd k x K o':=by rw[h0]
structure Pin {α:Type}(a:α):Type where
 mk::
section
variable {P:Prg} {T:Tab} {sl:Xb} {ob:Objs} {KO PO:V->Objs->Prop}
end
end Go.Ab
namespace Go.Ab
open Go
def Yx3:Nat->Nat->List Nat
  | 0,_=>[]
  | f+1,n=>match n with
    | 0=>[]
    | m+1=>((m+1) % 64)::Yx3 f ((m+1) / 64)
abbrev Zr (α:Type):=Option (α×List Nat)
def Yq3:Nat->Nat->Nat->List Nat->Zr Nat
  | 0,a,_,s=>some (a,s)
  | n+1,a,p,d::s=>Yq3 n (a+d*p) (p*64) s
  | _+1,_,_,[]=>none
def rN:List Nat->Zr Nat
  | []=>none
  | d::s=>match d.ble 55 with
    | true=>some (d,s)
    | false=>match d.ble 59 with
      | true=>Yq3 1 ((d-56)*64+56) 1 s
      | false=>Yq3 ([2,4,6,12].getD (d-60) 0) 0 1 s
def rZ (s:List Nat):Zr Int:=(rN s).bind fun (n,s)=>some (match n % 2 with | 0=>Int.ofNat (n / 2) | _=>Int.negSucc (n / 2),s)
def rB (s:List Nat):Zr Bool:=(rN s).bind fun (n,s)=>some (n.beq 1,s)
def rIK (s:List Nat):Zr IntKind:=(rN s).bind fun (n,s)=>some (([.i8,.i16,.i32,.i64,.u8,.u16,.u32,.u64]:List IntKind).getD n .i64,s)
def rBO (s:List Nat):Zr BinOp:=(rN s).bind fun (n,s)=>some (([.add,.sub,.mul,.quo,.rem,.and,.or,.xor,.andNot,.shl,.shr,.eql,.neq,.lss,.leq,.gtr,.geq]:List BinOp).getD n .add,s)
def rL' {α:Type}(p:List Nat->Zr α):Nat->List Nat->Zr (List α)
  | 0,s=>some ([],s)
  | n+1,s=>(p s).bind fun (x,s)=>(rL' p n s).bind fun (l,s)=>some (x::l,s)
def rL {α:Type}(p:List Nat->Zr α)(s:List Nat):Zr (List α):=(rN s).bind fun (n,s)=>rL' p n s
def rO {α:Type}(p:List Nat->Zr α)(s:List Nat):Zr (Option α):=(rN s).bind fun (n,s)=>match n with | 0=>some (none,s) | _=>(p s).bind fun (x,s)=>some (some x,s)
def rP {α β:Type}(p:List Nat->Zr α)(q:List Nat->Zr β)(s:List Nat):Zr (α×β):=(p s).bind fun (x,s)=>(q s).bind fun (y,s)=>some ((x,y),s)
def rb:List Nat->Zr UInt8
  | []=>none
  | d::s=>match d.ble 47 with
    | true=>some (UInt8.ofNat (d+96),s)
    | false=>match s with
      | []=>none
      | e::s=>some (UInt8.ofNat ((d-48)*64+e),s)
def rY:List Nat->Zr (List UInt8):=rL rb
mutual
def rD:Nat->List Nat->Zr D
  | 0,_=>none
  | f+1,s=>(rN s).bind fun (n,s)=>match n with
    | 0=>(rIK s).bind fun (a,s)=>(rZ s).bind fun (b,s)=>some (.int a b,s)
    | 1=>(rB s).bind fun (a,s)=>some (.bool a,s)
    | 2=>(rY s).bind fun (a,s)=>some (.str a,s)
    | 3=>some (.nils,s)
    | 4=>(rN s).bind fun (a,s)=>(rLD f s).bind fun (b,s)=>some (.list a b,s)
    | 5=>(rLD f s).bind fun (a,s)=>some (.agg a,s)
    | 6=>some (.nili,s)
    | 7=>some (.nilp,s)
    | 8=>some (.nilf,s)
    | 9=>some (.nilm,s)
    | 10=>(rD f s).bind fun (a,s)=>some (.ref a,s)
    | 11=>(rN s).bind fun (a,s)=>(rD f s).bind fun (b,s)=>some (.iface a b,s)
    | 12=>(rN s).bind fun (a,s)=>(rLD f s).bind fun (b,s)=>(rLD f s).bind fun (c,s)=>some (.fn a b c,s)
    | _=>none
def rLD:Nat->List Nat->Zr (List D)
  | 0,_=>none
  | f+1,s=>(rN s).bind fun (m,s)=>match m with | 0=>(rN s).bind fun (n,s)=>rMD f n s | _=>(rN s).bind fun (n,s)=>(rD f s).bind fun (x,s)=>some (List.replicate n x,s)
def rMD:Nat->Nat->List Nat->Zr (List D)
  | 0,_,_=>none
  | _+1,0,s=>some ([],s)
  | f+1,n+1,s=>(rD f s).bind fun (x,s)=>(rMD f n s).bind fun (l,s)=>some (x::l,s)
end
mutual
def rK:Nat->List Nat->Zr KT
  | 0,_=>none
  | f+1,s=>(rN s).bind fun (n,s)=>match n with
    | 0=>(rIK s).bind fun (a,s)=>some (.int a,s)
    | 1=>some (.bool,s)
    | 2=>some (.str,s)
    | 3=>(rLK f s).bind fun (a,s)=>some (.st a,s)
    | 4=>(rN s).bind fun (a,s)=>(rK f s).bind fun (b,s)=>some (.ar a b,s)
    | _=>none
def rLK:Nat->List Nat->Zr (List KT)
  | 0,_=>none
  | f+1,s=>(rN s).bind fun (n,s)=>rMK f n s
def rMK:Nat->Nat->List Nat->Zr (List KT)
  | 0,_,_=>none
  | _+1,0,s=>some ([],s)
  | f+1,n+1,s=>(rK f s).bind fun (x,s)=>(rMK f n s).bind fun (l,s)=>some (x::l,s)
end
def rA:List Nat->Zr A
  | []=>none
  | d::s=>match d.ble 43 with
    | true=>some (.t d,s)
    | false=>match d-44 with
    | 0=>(rN s).bind fun (a,s)=>some (.t a,s)
    | 1=>(rIK s).bind fun (a,s)=>(rZ s).bind fun (b,s)=>some (.int a b,s)
    | 2=>(rB s).bind fun (a,s)=>some (.bool a,s)
    | 3=>(rY s).bind fun (a,s)=>some (.str a,s)
    | 4=>some (.nils,s)
    | 5=>some (.nili,s)
    | 6=>some (.nilp,s)
    | 7=>some (.nilf,s)
    | 8=>some (.nilm,s)
    | 9=>(rN s).bind fun (a,s)=>some (.nl a,s)
    | 10=>(rN s).bind fun (a,s)=>some (.fn a,s)
    | _=>none
def rC (s:List Nat):Zr C:=(rN s).bind fun (n,s)=>match n with
    | 12=>(rA s).bind fun (a,s)=>some (.neg a,s)
    | 13=>(rB s).bind fun (a,s)=>(rA s).bind fun (b,s)=>(rA s).bind fun (c,s)=>some (.beq a b c,s)
    | 14=>(rB s).bind fun (a,s)=>(rA s).bind fun (b,s)=>some (.isnil a b,s)
    | 15=>(rB s).bind fun (a,s)=>(rA s).bind fun (b,s)=>some (.pnil a b,s)
    | 16=>(rB s).bind fun (a,s)=>(rA s).bind fun (b,s)=>some (.fnil a b,s)
    | 17=>(rB s).bind fun (a,s)=>(rA s).bind fun (b,s)=>(rA s).bind fun (c,s)=>some (.peq a b c,s)
    | 18=>(rA s).bind fun (a,s)=>some (.usd a,s)
    | 19=>(rIK s).bind fun (a,s)=>(rA s).bind fun (b,s)=>some (.cvi a b,s)
    | 20=>(rA s).bind fun (a,s)=>some (.cvs a,s)
    | 21=>(rA s).bind fun (a,s)=>(rA s).bind fun (b,s)=>some (.idx a b,s)
    | 22=>(rN s).bind fun (a,s)=>(rN s).bind fun (b,s)=>(rA s).bind fun (c,s)=>(rA s).bind fun (d,s)=>some (.idxP a b c d,s)
    | 23=>(rN s).bind fun (a,s)=>(rN s).bind fun (b,s)=>(rN s).bind fun (c,s)=>(rB s).bind fun (d,s)=>(rA s).bind fun (e,s)=>some (.fld a b c d e,s)
    | 24=>(rA s).bind fun (a,s)=>some (.lenS a,s)
    | 25=>(rN s).bind fun (a,s)=>some (.lenA a,s)
    | 26=>(rA s).bind fun (a,s)=>(rO (rA) s).bind fun (b,s)=>(rO (rA) s).bind fun (c,s)=>some (.slcS a b c,s)
    | 27=>(rN s).bind fun (a,s)=>(rA s).bind fun (b,s)=>(rO (rA) s).bind fun (c,s)=>(rO (rA) s).bind fun (d,s)=>some (.slcL a b c d,s)
    | 28=>(rN s).bind fun (a,s)=>(rL (rA) s).bind fun (b,s)=>(rL (rA) s).bind fun (c,s)=>some (.mkf a b c,s)
    | 29=>(rN s).bind fun (a,s)=>(rD 90 s).bind fun (b,s)=>(rA s).bind fun (c,s)=>some (.tas a b c,s)
    | 30=>(rK 90 s).bind fun (a,s)=>(rB s).bind fun (b,s)=>(rA s).bind fun (c,s)=>(rA s).bind fun (d,s)=>some (.eqD a b c d,s)
    | 31=>(rN s).bind fun (a,s)=>(rN s).bind fun (b,s)=>(rB s).bind fun (c,s)=>(rA s).bind fun (d,s)=>(rA s).bind fun (e,s)=>some (.aix a b c d e,s)
    | 32=>(rA s).bind fun (a,s)=>some (.cpl a,s)
    | 33=>(rA s).bind fun (a,s)=>(rA s).bind fun (b,s)=>some (.mx a b,s)
    | _=>none
def rI (s:List Nat):Zr I:=(rN s).bind fun (n,s)=>match n with
    | 10=>(rN s).bind fun (a,s)=>(rN s).bind fun (b,s)=>(rA s).bind fun (c,s)=>(rA s).bind fun (d,s)=>some (.appS a b c d,s)
    | 11=>(rA s).bind fun (a,s)=>some (.b2s a,s)
    | 12=>(rA s).bind fun (a,s)=>some (.s2b a,s)
    | 13=>(rN s).bind fun (a,s)=>(rN s).bind fun (b,s)=>(rA s).bind fun (c,s)=>some (.nilo a b c,s)
    | 14=>(rA s).bind fun (a,s)=>some (.mvf a,s)
    | 15=>(rN s).bind fun (a,s)=>(rB s).bind fun (b,s)=>(rA s).bind fun (c,s)=>some (.ldf a b c,s)
    | 16=>(rN s).bind fun (a,s)=>(rN s).bind fun (b,s)=>(rA s).bind fun (c,s)=>(rA s).bind fun (d,s)=>(rL (rN) s).bind fun (e,s)=>some (.mvg a b c d e,s)
    | 17=>(rA s).bind fun (a,s)=>(rA s).bind fun (b,s)=>(rL (rP (rN) (rP (rN) (rL (rN)))) s).bind fun (c,s)=>some (.mvn a b c,s)
    | 18=>(rA s).bind fun (a,s)=>some (.cvb a,s)
    | 19=>(rN s).bind fun (a,s)=>(rA s).bind fun (b,s)=>(rA s).bind fun (c,s)=>some (.ustr a b c,s)
    | 20=>(rO (rA) s).bind fun (a,s)=>some (.mkm a,s)
    | 21=>(rD 90 s).bind fun (a,s)=>(rD 90 s).bind fun (b,s)=>(rB s).bind fun (c,s)=>(rA s).bind fun (d,s)=>(rA s).bind fun (e,s)=>some (.lkp a b c d e,s)
    | 22=>(rD 90 s).bind fun (a,s)=>(rA s).bind fun (b,s)=>(rA s).bind fun (c,s)=>(rA s).bind fun (d,s)=>some (.mset a b c d,s)
    | 23=>(rN s).bind fun (a,s)=>(rN s).bind fun (b,s)=>(rB s).bind fun (c,s)=>(rD 90 s).bind fun (d,s)=>some (.gld a b c d,s)
    | 24=>(rN s).bind fun (a,s)=>(rN s).bind fun (b,s)=>(rA s).bind fun (c,s)=>some (.slg a b c,s)
    | 25=>(rN s).bind fun (a,s)=>(rN s).bind fun (b,s)=>(rLD 90 s).bind fun (c,s)=>(rL (rP (rN) (rA)) s).bind fun (d,s)=>some (.blv a b c d,s)
    | 26=>(rN s).bind fun (a,s)=>(rN s).bind fun (b,s)=>(rN s).bind fun (c,s)=>(rA s).bind fun (d,s)=>(rA s).bind fun (e,s)=>some (.apv a b c d e,s)
    | 27=>(rA s).bind fun (a,s)=>some (.gv a,s)
    | 28=>(rN s).bind fun (a,s)=>(rB s).bind fun (b,s)=>(rA s).bind fun (c,s)=>some (.ldg a b c,s)
    | 29=>(rN s).bind fun (a,s)=>(rN s).bind fun (b,s)=>(rA s).bind fun (c,s)=>(rO (rA) s).bind fun (d,s)=>(rO (rA) s).bind fun (e,s)=>some (.slb a b c d e,s)
    | 30=>(rN s).bind fun (a,s)=>(rA s).bind fun (b,s)=>(rA s).bind fun (c,s)=>some (.cpy a b c,s)
    | 31=>(rD 90 s).bind fun (a,s)=>(rN s).bind fun (b,s)=>(rA s).bind fun (c,s)=>some (.clr a b c,s)
    | 32=>(rN s).bind fun (a,s)=>(rN s).bind fun (b,s)=>(rN s).bind fun (c,s)=>(rD 90 s).bind fun (d,s)=>(rA s).bind fun (e,s)=>some (.gix a b c d e,s)
    | _=>none
def rIc (c:Nat)(s:List Nat):Zr I:=match c with
    | 0=>(rA s).bind fun (a,s)=>some (.c (.mv a),s)
    | 1=>(rN s).bind fun (a,s)=>(rB s).bind fun (b,s)=>(rA s).bind fun (c,s)=>some (.c (.ld a b c),s)
    | 2=>(rN s).bind fun (a,s)=>(rN s).bind fun (b,s)=>(rA s).bind fun (c,s)=>some (.c (.fldA a b c),s)
    | 3=>(rBO s).bind fun (a,s)=>(rA s).bind fun (b,s)=>(rA s).bind fun (c,s)=>some (.c (.bin a b c),s)
    | 4=>(rA s).bind fun (a,s)=>some (.c (.lenL a),s)
    | 5=>(rA s).bind fun (a,s)=>some (.c (.nilc a),s)
    | 6=>(rN s).bind fun (a,s)=>(rA s).bind fun (b,s)=>(rA s).bind fun (c,s)=>some (.c (.idxA a b c),s)
    | 7=>(rA s).bind fun (a,s)=>(rN s).bind fun (b,s)=>some (.c (.ext a b),s)
    | 8=>(rA s).bind fun (a,s)=>(rA s).bind fun (b,s)=>(rA s).bind fun (c,s)=>some (.c (.pick a b c),s)
    | 9=>(rA s).bind fun (a,s)=>some (.c (.not a),s)
    | 10=>(rLD 90 s).bind fun (a,s)=>(rL (rP (rN) (rA)) s).bind fun (b,s)=>some (.c (.bld a b),s)
    | 11=>(rN s).bind fun (a,s)=>(rA s).bind fun (b,s)=>some (.c (.mki a b),s)
    | 12=>(rA s).bind fun (a,s)=>(rL (rA) s).bind fun (b,s)=>some (.callv a b,s)
    | 13=>(rN s).bind fun (a,s)=>(rL (rA) s).bind fun (b,s)=>some (.call a b,s)
    | 14=>(rN s).bind fun (a,s)=>(rL (rA) s).bind fun (b,s)=>some (.pcall a b,s)
    | 15=>(rN s).bind fun (a,s)=>(rN s).bind fun (b,s)=>(rN s).bind fun (c,s)=>(rA s).bind fun (d,s)=>(rA s).bind fun (e,s)=>some (.app a b c d e,s)
    | 16=>(rN s).bind fun (a,s)=>(rD 90 s).bind fun (b,s)=>some (.alloc a b,s)
    | 17=>(rN s).bind fun (a,s)=>(rA s).bind fun (b,s)=>some (.box a b,s)
    | 18=>(rN s).bind fun (a,s)=>(rLD 90 s).bind fun (b,s)=>(rL (rP (rN) (rA)) s).bind fun (c,s)=>some (.bls a b c,s)
    | 19=>(rN s).bind fun (a,s)=>(rN s).bind fun (b,s)=>(rLD 90 s).bind fun (c,s)=>(rL (rP (rN) (rA)) s).bind fun (d,s)=>some (.blo a b c d,s)
    | 20=>(rN s).bind fun (a,s)=>(rA s).bind fun (b,s)=>(rA s).bind fun (c,s)=>some (.st a b c,s)
    | 21=>(rA s).bind fun (a,s)=>some (.panic a,s)
    | 28=>(rC s).bind fun (c,s)=>some (.c c,s)
    | 29=>rI s
    | _=>none
def zop (g:Option (Nat×Bool))(d:Option Nat)(l:Nat)(c:Nat)(s:List Nat):Zr (Nat×It):=(rIc c s).bind fun (i,s)=>some ((d.getD l,match g with | none=>.op d i | some (a,b)=>.gop a b d i),s)
def Yxi (g:Option (Nat×Bool))(l:Nat):List Nat->Zr (Nat×It)
  | []=>none
  | c::s=>match c.ble 29 with
    | true=>zop g (match c with | 20=>none | 21=>none | _=>some (l+1)) l c s
    | false=>(rN s).bind fun (n,s)=>zop g (match n with | 0=>none | n+1=>some n) l (c-30) s
def rIt (l:Nat):List Nat->Zr (Nat×It)
  | []=>none
  | c::s=>match c with
    | 61=>(rN s).bind fun (a,s)=>(rB s).bind fun (b,s)=>Yxi (some (a,b)) l s
    | _=>Yxi none l (c::s)
def Yxj:Nat->Nat->List Nat->Zr (Nat×List It)
  | 0,l,s=>some ((l,[]),s)
  | n+1,l,s=>(rIt l s).bind fun ((l,x),s)=>(Yxj n l s).bind fun ((l,r),s)=>some ((l,x::r),s)
mutual
def rOt:Nat->Nat->List Nat->Zr (Nat×Ot)
  | 0,_,_=>none
  | f+1,l,s=>(rN s).bind fun (n,s)=>match n with
    | 0=>some ((l,.done),s)
    | 1=>(rN s).bind fun (i,s)=>(rIt l s).bind fun ((l,x),s)=>(rOt f l s).bind fun ((l,r),s)=>some ((l,.one i x r),s)
    | 2=>(rN s).bind fun (n,s)=>(Yxk f n l s).bind fun (t,s)=>some ((l,.br t),s)
    | _=>none
def Yxk:Nat->Nat->Nat->List Nat->Zr Ots
  | 0,_,_,_=>none
  | _+1,0,_,s=>some (.nil,s)
  | f+1,n+1,l,s=>(rN s).bind fun (i,s)=>(rIt l s).bind fun ((l',x),s)=>(rOt f l' s).bind fun ((_,r),s)=>(Yxk f n l s).bind fun (t,s)=>some (.cons i x r t,s)
end
structure Alg (τ:Type) where
  rg:List Nat->List It->List Nat->List Nat->τ
  rgT:Nat->Ot->List Nat->List Nat->τ
  seq:τ->τ->τ
  skip:τ
  cond:A->τ->τ->τ
  block:Nat->τ->τ
  loop:List Nat->τ->τ
  exit:Nat->τ
  ret:τ
def Yzo:Alg S:=⟨.rg,.rgT,.seq,.skip,.cond,.block,.loop,.exit,.ret⟩
def Yzn (fs:List Nat):Alg S2:=⟨fun _ l keep pk=>match Xaw fs keep pk l [] [] []with
    | some (l,kp)=>.rg l kp pk
    | none=>.skip,fun _ t keep pk=>.rgT t keep pk,.seq,.skip,.cond,.block,.loop,.exit,.ret⟩
def rS {τ:Type}(a:Alg τ)(ns:List τ):Nat->Nat->List Nat->Zr (Nat×τ)
  | 0,_,_=>none
  | f+1,l,s=>(rN s).bind fun (n,s)=>match n with
    | 0=>(rL rN s).bind fun (o,s)=>(rN s).bind fun (n,s)=>(Yxj n l s).bind fun ((l,i),s)=>(rL rN s).bind fun (c,s)=>(rL rN s).bind fun (b,s)=>some ((l,a.rg o i c b),s)
    | 1=>(rN s).bind fun (n,s)=>(rOt 1000 l s).bind fun ((l,t),s)=>(rL rN s).bind fun (c,s)=>(rL rN s).bind fun (b,s)=>some ((l,a.rgT n t c b),s)
    | 2=>(rS a ns f l s).bind fun ((l,x),s)=>(rS a ns f l s).bind fun ((l,y),s)=>some ((l,a.seq x y),s)
    | 3=>some ((l,a.skip),s)
    | 4=>(rA s).bind fun (c,s)=>(rS a ns f l s).bind fun ((l,x),s)=>(rS a ns f l s).bind fun ((l,y),s)=>some ((l,a.cond c x y),s)
    | 5=>(rN s).bind fun (n,s)=>(rS a ns f l s).bind fun ((l,x),s)=>some ((l,a.block n x),s)
    | 6=>(rL rN s).bind fun (n,s)=>(rS a ns f l s).bind fun ((l,x),s)=>some ((l,a.loop n x),s)
    | 7=>(rN s).bind fun (n,s)=>some ((l,a.exit n),s)
    | 8=>some ((l,a.ret),s)
    | 10=>(rN s).bind fun (n,s)=>some ((l,ns.getD n a.skip),s)
    | _=>none
def zA {τ:Type}(a:Alg τ)(ns:List τ)(n:Nat):τ:=match rS a ns 1000 0 (Yx3 20000 n) with
  | some ((_,x),_)=>x
  | none=>a.skip
def zS:List S->Nat->S:=zA Yzo
def zL (fs:List Nat):List S2->Nat->S2:=zA (Yzn fs)
end Go.Ab
namespace Go.Proofs.YtmapdjjigmkbfaaGreatDoor
open Go Go.Ab
def n20:Nat:=0x12001818c7780ba27888607c30783817bd28118105ef480460417bd1c118105ef5d000b9c6c82c005bf5a0096de2c000200b2892071590182865030030000800c00030000c0180159e4bb815070146655d579654203838504404704659f2400020092071444c04881940c00c00020030000c000300600567926e04e1c03939513de40f080e0e1011011c11907c90000801c51033471940c30c30c31801410057b922e3000430c30c30c600504028304635f1000020051030c0b8008fe1104fe1101d12f100002
def Ym1:S:=zS [] n20
theorem Ywd:Xt Tryz.prog 20 3 Ym1 [.t 6]=true:=by kernel_rfl
def n40:Nat:=0x480051022c02857812470091c8978d870e4e0d04018004108514220000200204202e0000ed15e01d0ef0c0002
def Ym7:S:=zS [] n40
theorem Ywi:Xt Tryz.prog 40 2 Ym7 [.t 4,.t 5]=true:=by kernel_rfl
def n56:Nat:=0x1200144081b867a9106504046a9f0c00020c800510202e19ea041941011810c00029c4027102981b97200ba56c8017f642416fd8dc0b3e0e05bf620450416fd85f14605bf6000189f05bf5e00181f05bf4204675f05bf4410486005bf5d0410816fd08001e8016fd680017f400ed6500c05fd600041017f441040805fd580541b9121424047d4d20b2e0e011f4404604047d081181011f5000f24541e6585d65544d240d44f38c2ca2481c61440c20406400820051020ce19e3441940461c018e94c1de2c91c3c7838a0010430c308800104308208204621f2c00020040c20c0b800c00c00020030000c00030060056794013f84407b90ef100002
def Ynl:S:=zS [] n56
theorem Ywr:Xt Tryz.prog 56 2 Ynl [.c 4 6 true,.t 5]=true:=by kernel_rfl
def n57:Nat:=0x1200181078b07780e2cc2c2c3dec001076b030c2d6ccec146d2c001d9fcac001d1fbec00106eb030c2b6cac51acb0006e7ea001b1f144135831b010420c0032804104b60a410420c002a8124503ce34c2871851022c9203040480083200181a077a794b0e60010451040a40010441049601800025840161440c48d77a206e7c8043b612c301ff600010407fd14410201ff5e01d06e688043b5c2c301af5b0010406bd10410201af590020ed60c0d7001044000620380002200181547794482d383930010451450910010441454a018000234400d1440c440e7880ed3cb0ce0010440003e010000220018102e1de0400021c40071440c430878b24c0ca0010450000880010440002601800020050801440c302e0026794416794407b912f100002
def Ynm:S:=zS [] n57
theorem Yws:Xt Tryz.prog 57 3 Ynm [.t 6]=true:=by kernel_rfl
def n71:Nat:=0x480051022c02857812470091c8eb8d870f9e0d04018004108208220000200204202e0000ed15e01d0ef0c0002
def Ynz:S:=zS [] n71
theorem Yw4:Xt Tryz.prog 71 2 Ynz [.t 4,.t 5]=true:=by kernel_rfl
def X8p:Nat:=0x12001c6081b8034778639e0c00020c800718202e0000ed1de08000230400c182003b4b34318c782000082
def n92:Nat:=0x100a00604a1de248085e4d1440801b971c0001000020051000c0b80003b400894410fa16f100002
def Yn1:S:=zS [(zS [] X8p)] n92
theorem Yw6:Xt Tryz.prog 92 3 Yn1 [.t 6,.t 7]=true:=by kernel_rfl
def X8q:Nat:=0x10092070444ca7820ed2405210800032001014857850020000911004492071411903cb0c100e0010460003e01000020092071850463461142c67800400c0002002100147e07b8c0440491c41890060000811420070ca10200a2481c114824d2e1040002
def n94:Nat:=0x1200101043b457810000802892070441801402481c11000ed00710021e0c00020800400800ed15e040002
def Yn3:S:=zS [(zS [] X8q)] n94
theorem Yw8:Xt Tryz.prog 94 2 Yn3 [.t 4]=true:=by kernel_rfl
def Yvf:Nat:=0x4800718206e21eb6c18652cb01181ac1042aa92c6080a000419c41029a51860409000418c20820c002480d0000832001c6080b887a21865060460430000a11008460c2045801b9621f5d00c05bd784016f5d0010405bd704102016f5b6861805bd040016f590010405bd602082016f430000805bd080016f5501406e488003b53343012f420004bd440401b8a20f2d00c02bd38400af4d0010402bd30208200af430000802bd04000af490000ed20d0c101a0000820060c204402e0030030000800c00030000c0180159e47b807b912f0c0002
def Ycf:S:=zS [] Yvf
theorem Yi9:Xt Tryz.prog 105 3 Ycf [.c 6 6 true,.t 7]=true:=by kernel_rfl
def Yvg:Nat:=0x4800405615e5510905ea3cd00115f47a00de4eb1411300155f0c11927ce00141f4810420800138030003e02ca2430081c40861412c008320010102e15e04000230400c0c20cb06e208203b4a3c3008f4900104023d0c0002008f470020ed18d0c500104300008800008200308202e0016794407b90ef0c0002
def Ycg:S:=zS [] Yvg
theorem Yja:Xt Tryz.prog 106 2 Ycg [.t 4]=true:=by kernel_rfl
def Yvh:Nat:=0x4800406515e02e91b2020ed8cb0c16fd88004105bf611040816fd81e14605bf5f0010416fd0c30c205bf5d0010416fd70104205bf420000816fd68002e65221850d0c14bd5c4052f560010414bd541042052f420000814bd4c0041052f430c30814bd44002e40d2000ed3d00c137d38004104df430c308137d30002e2c820000000080000000003f0ed28e0c123d240041048f4310408123d1c0083b464031400410c410288000200308202e00137a4407b90ef0c0002
def Ych:S:=zS [] Yvh
theorem Yjb:Xt Tryz.prog 107 2 Ych [.t 4]=true:=by kernel_rfl
def Xyf:Nat:=0x4034c04011939e083b4d01a8420000c8004040b8578100009810060d3010055d33035800587d200151f55404614005579140118500045e2481c318510204024008034c1410053c678d0020000811420070ce10200e34c04014c34d3e1040002
def Yps:Nat:=0x120010106e15e04000200a34c04010600500d301004003b402c400c7830000820c8004040b8578100008a10028100324730320404018400778500008200100202e15e040002
def Yci:S:=zS [(zS [] Xyf)] Yps
theorem Yjc:Xt Tryz.prog 108 2 Yci [.t 4]=true:=by kernel_rfl
def Xyo:Nat:=0x12001c6081b8034778639e0c00020c800718202e0000ed1de08000230400c182003b4b34318c782000082
def Ypv:Nat:=0x100a00604a1de24808fe4d14408043971c0001000020051000c0b80003b4008944163a16f100002
def Ycm:S:=zS [(zS [] Xyo)] Ypv
theorem Yjf:Xt Tryz.prog 113 3 Ycm [.t 6,.t 7]=true:=by kernel_rfl
def Xyw:Nat:=0x4320010144578549e080002404
def Xyx:Nat:=0x4020704011225e083b48013842000
def Xpp:Nat:=0x104a00a0102071410063c12cc3810c134c0c614000004c7860000802071410052867880020000811420070c910200920704014720d2a1040002
def Yp1:Nat:=0x1200101043b457810000802881c10041801402070401000ed0061001de0c00020800400800ed15e040002
def Ycq:S:=zS [(zS [(zS [] Xyw),(zS [] Xyx)] Xpp)] Yp1
theorem Yjj:Xt Tryz.prog 125 2 Ycq [.t 4]=true:=by kernel_rfl
def Yvo:Nat:=0x120010100915e1412072ca84404604522a0810800497c300915e1412072c31010800410c10860453020820c10c10410400410011810800c204302e000ef812f080002
def Ycr:S:=zS [] Yvo
theorem Yjk:Xt Tryz.prog 126 3 Ycr [.t 4]=true:=by kernel_rfl
def Yvp:Nat:=0x4800510206e19e538b041144f8b034b8b020800c000300008008400a1c0478b00041438b020823f8b0ee2c106180378b00041338b060422f8b0500ce1e3000020c800510202e19e2b8b041141011010c0002278b04009e07184005238b01b84e2c207e2c178b0c0c0138f46e2c001040138f430c3080138f47000138f43e2c002e2c2450f8788000082007185103006078b06780e2c21e0681c0a01e25deca5edacd2cb2c0d1e4ed6c001ddfcec001072b02082c6cc2c13392fb000717eb046b5f0c1076806c9ebac1810adb0502e7aa0000a9140a9e51349140f38d2ca2470cc2061440810140020c800510202e19e9c41141011010c00029840261840c016506e848922303021f6300104087d0c2082021f4600087d800003b5f3431a078800008200610300478779d6c29b839c00179f68005c7c30007606460426050197881c6143102040200083200144080b867971045040440430000961005840c011506e488003b54303012f530010404bd0c4102012f5101006e3083c900cf4e06738033d34004100cf4304108033d2c02892419ce2000410c000980f0000820040c00c0b800030000c000200210014fe1006612f0c0002
def Ycs:S:=zS [] Yvp
theorem Yjl:Xt Tryz.prog 127 2 Ycs [.c 4 4 true,.t 5]=true:=by kernel_rfl
def Yvq:Nat:=0x1200081783780b9d688200000f43b5c38305af5b0010416bd04410205af59000b98548003b57403055f5600104157d044102055f54000b93408003b522c3050f5100104143d0430c2050f4f000b8e2c8043b4d2c304bf4c0010412fd04208204bf4a000b8918802f20b0c11bd1c0041046f410410811bd14002f10b0c300104100009d00008004102e000991080002
def Yct:S:=zS [] Yvq
theorem Yjm:Xt Tryz.prog 128 1 Yct [.t 2]=true:=by kernel_rfl
def Xyy:Nat:=0x4320010144578549e080002404
def Xyz:Nat:=0x4020704011225e083b48013842000
def Xpq:Nat:=0x104a00a0102071410063c12cc38118134c18614000004c7860000802071410052867880020000811420070c910200920704014720d2a1040002
def Yp2:Nat:=0x1200101043b457810000802881c10041801402070401000ed0061001de0c00020800400800ed15e040002
def Ycw:S:=zS [(zS [(zS [] Xyy),(zS [] Xyz)] Xpq)] Yp2
theorem Yjp:Xt Tryz.prog 135 2 Ycw [.t 4]=true:=by kernel_rfl
def Yvt:Nat:=0x120010100915e1412072ca84404604522a0810800497c300915e1412072c31010800410c10860453020820c11810410400410011810800c204302e0002f812f080002
def Ycx:S:=zS [] Yvt
theorem Yjq:Xt Tryz.prog 136 3 Ycx [.t 4]=true:=by kernel_rfl
def Yvu:Nat:=0x12001c609a0191de0581c06075e1e765838393420150010541040934861810110010430824a03000020c800718202e0000ed1de0800024040100c20443c1b8a20e2d00c02bd34400af4c0010402bd0c208200af410002bd240003b483430402400020800c204302e0000ed1de01d12f0c0002
def Ycy:S:=zS [] Yvu
theorem Yjr:Xt Tryz.prog 137 3 Ycy [.t 6,.t 7]=true:=by kernel_rfl
def Yvz:Nat:=0x1200101905780ba37c8003b622c305ff611017fd80004105ff421450817fd78002e75921c6cd0c167d040059f5a00104167d084102059f58000b97508043b56403054f5500104153d084102054f53000b923c8200000f43b5138304ff500010413fd08208204ff4e000b8d20830a383048f4b00104123d082082048f4900104123d081042048f470000ed1900c50010420410a1000080081080b857806790ef080002
def Ycz:S:=zS [] Yvz
theorem Yjs:Xt Tryz.prog 147 2 Ycz [.t 4]=true:=by kernel_rfl
def Yv0:Nat:=0x12001015c5780b96488003b552c3052f541014bd4c0041052f421450814bd44002e40d2010ed3cb0c137d38004104df4210408137d30002e2c821ffbc0ed28b0c123d240041048f4208208123d1c0003b462c3140041081042500002002040b857806790ef080002
def Yc0:S:=zS [] Yv0
theorem Yjt:Xt Tryz.prog 148 2 Yc0 [.t 4]=true:=by kernel_rfl
def Yv1:Nat:=0x12001015c5780b96488003b552c3052f541014bd4c0041052f421450814bd44002e40d2010ed3cb0c137d38004104df4210408137d30002e2c820007ffbd0ed28b0c123d240041048f4208208123d1c0003b462c3140041081042500002002040b857806790ef080002
def Yc1:S:=zS [] Yv1
theorem Yju:Xt Tryz.prog 149 2 Yc1 [.t 4]=true:=by kernel_rfl
def Yv2:Nat:=0x1200101985780ba58889017f93818bd8c0041062f421450818bd84002e81c2200ed7ce0c173d78405cf5d00104173d08514205cf5b000b9a588083b59403056f581015bd5c0041056f421450815bd54002e5112010ed4cb0c147d480041051f4210408147d40002e3c820e28b0c123d083b4d043048f4c10123d2c0041048f4214508123d240041048f4208208123d1c0003b462c31400410810428c0002002040b857806790ef080002
def Yc2:S:=zS [] Yv2
theorem Yjv:Xt Tryz.prog 150 2 Yc2 [.t 4]=true:=by kernel_rfl
def Xy0:Nat:=0x100b2890c450c7820ed2c00c200000b2890c406e4d2002580ec50034de0c000320008102e0de0400024440112ca2450c640f00004009574500341e0c00020802ca2450c538678d00104b2411830000811420070cc10200c2ca24314a2cd361040002
def Yp3:Nat:=0x48002041b8378100008028b2890c41801402ca2431000ed00910029e0c00020800c008811e1c151d18400778400008000102e0de040002
def Yc3:S:=zS [(zS [] Xy0)] Yp3
theorem Yjw:Xt Tryz.prog 151 1 Yc3 [.t 2]=true:=by kernel_rfl
def Xy1:Nat:=0x12001c6081b8034778639e0c00020c800718202e0000ed1de08000230400c182003b4b34318c782000082
def Yp4:Nat:=0x100a00604a1de2480aee4d144080bf971c0001000020051000c0b80003b400894411bb16f100002
def Yc4:S:=zS [(zS [] Xy1)] Yp4
theorem Yjx:Xt Tryz.prog 152 3 Yc4 [.t 6,.t 7]=true:=by kernel_rfl
def Xy2:Nat:=0x4320010144578549e080002404
def Xy3:Nat:=0x4020704011225e083b48013842000
def Xpr:Nat:=0x104a00a0102071410063c12cc3812c134c2c614000004c7860000802071410052867880020000811420070c910200920704014720d2a1040002
def Yp5:Nat:=0x1200101043b457810000802881c10041801402070401000ed0061001de0c00020800400800ed15e040002
def Yc6:S:=zS [(zS [(zS [] Xy2),(zS [] Xy3)] Xpr)] Yp5
theorem Yjz:Xt Tryz.prog 166 2 Yc6 [.t 4]=true:=by kernel_rfl
def Yv7:Nat:=0x120010100915e1412072ca84404604522a0810800497c300915e1412072c31010800410c10860453020820c12c10410400410011810800c204302e00073912f080002
def Yc7:S:=zS [] Yv7
theorem Yj0:Xt Tryz.prog 167 3 Yc7 [.t 4]=true:=by kernel_rfl
def n93:Nat:=0x480020440de0c00410400020c0002001040bc003be11080002
def Yn2:S:=zS [] n93
theorem Yw7:Xt Tryz.prog 93 1 Yn2 [.t 2]=true:=by kernel_rfl
def Yvi:Nat:=0x480020440de0c00410400020c0002001040bc000be11080002
def Ycn:S:=zS [] Yvi
theorem Yjg:Xt Tryz.prog 114 1 Ycn [.t 2]=true:=by kernel_rfl
def Yv3:Nat:=0x480020440de0c00410400020c0002001040bc001ce51080002
def Yc5:S:=zS [] Yv3
theorem Yjy:Xt Tryz.prog 153 1 Yc5 [.t 2]=true:=by kernel_rfl
def Yvs:Nat:=0x12000010401547b9d84779d83739d826f9d81108208208140282000080001205045c7a06e040002
def Ycv:S:=zS [] Yvs
theorem Yjo:Xt Tryz.prog 133 0 Ycv [.c 0 5 true]=true:=by kernel_rfl
end Go.Proofs.YtmapdjjigmkbfaaGreatDoor
namespace Go.Proofs.YtmapdjjigmkbfaaGreatDoor
open Go Go.Ab
def Ytc:S2:=zL [] [] n20
def Yx7:=by
 have h:=Eq.refl Ytc
 conv at h=>rhs; cbv
 exact h
theorem Yz3:Ym1.lift []=some Ytc:=by kernel_rfl
def Ytr:S2:=zL [] [] n40
def Yyk:=by
 have h:=Eq.refl Ytr
 conv at h=>rhs; cbv
 exact h
theorem Y0h:Ym7.lift []=some Ytr:=by kernel_rfl
def Yt5:S2:=zL [] [] n56
def Yyq:=by
 have h:=Eq.refl Yt5
 conv at h=>rhs; cbv
 exact h
theorem Y0q:Ynl.lift []=some Yt5:=by kernel_rfl
def Yt6:S2:=zL [] [] n57
def Yd8:=by
 have h:=Eq.refl Yt6
 conv at h=>rhs; cbv
 exact h
theorem Y0r:Ynm.lift []=some Yt6:=by kernel_rfl
def Yuj:S2:=zL [] [] n71
def Yy0:=by
 have h:=Eq.refl Yuj
 conv at h=>rhs; cbv
 exact h
theorem Y03:Ynz.lift []=some Yuj:=by kernel_rfl
def Xpa:S2:=zL [] [] X8p
def Yat:=by
 have h:=Eq.refl Xpa
 conv at h=>rhs; cbv
 exact h
def Yu3:S2:=zL [] [Xpa] n92
def Yzf:=by
 have h:=fun (a:S2)=>Eq.refl (zL [] [a] n92)
 conv at h=>intro a; rhs; cbv
 have e:Yu3=_:=h Xpa
 exact e
theorem Y1n:Yn1.lift []=some Yu3:=by kernel_rfl
def Xpb:S2:=zL [] [] X8q
def Xvz:=by
 have h:=Eq.refl Xpb
 conv at h=>rhs; cbv
 exact h
def Yu5:S2:=zL [] [Xpb] n94
def Yzh:=by
 have h:=fun (a:S2)=>Eq.refl (zL [] [a] n94)
 conv at h=>intro a; rhs; cbv
 have e:Yu5=_:=h Xpb
 exact e
theorem Y1p:Yn3.lift []=some Yu5:=by kernel_rfl
def Yg7:S2:=zL [] [] Yvf
def Xu1:=by
 have h:=Eq.refl Yg7
 conv at h=>rhs; cbv
 exact h
theorem Yod:Ycf.lift []=some Yg7:=by kernel_rfl
def Yg8:S2:=zL [] [] Yvg
def Xs6:=by
 have h:=Eq.refl Yg8
 conv at h=>rhs; cbv
 exact h
theorem Yoe:Ycg.lift []=some Yg8:=by kernel_rfl
def Yg9:S2:=zL [] [] Yvh
def Xs7:=by
 have h:=Eq.refl Yg9
 conv at h=>rhs; cbv
 exact h
theorem Yof:Ych.lift []=some Yg9:=by kernel_rfl
def Xhd:S2:=zL [] [] Xyf
def Xqk:=by
 have h:=Eq.refl Xhd
 conv at h=>rhs; cbv
 exact h
def Yha:S2:=zL [] [Xhd] Yps
def Yes:=by
 have h:=fun (a:S2)=>Eq.refl (zL [] [a] Yps)
 conv at h=>intro a; rhs; cbv
 have e:Yha=_:=h Xhd
 exact e
theorem Yog:Yci.lift []=some Yha:=by kernel_rfl
def Xhr:S2:=zL [] [] Xyo
def X2h:=by
 have h:=Eq.refl Xhr
 conv at h=>rhs; cbv
 exact h
def Yhd:S2:=zL [] [Xhr] Ypv
def Ylm:=by
 have h:=fun (a:S2)=>Eq.refl (zL [] [a] Ypv)
 conv at h=>intro a; rhs; cbv
 have e:Yhd=_:=h Xhr
 exact e
theorem Yoj:Ycm.lift []=some Yhd:=by kernel_rfl
def Xhx:S2:=zL [] [] Xyw
def Xqy:=by
 have h:=Eq.refl Xhx
 conv at h=>rhs; cbv
 exact h
def Xhy:S2:=zL [] [] Xyx
def X2m:=by
 have h:=Eq.refl Xhy
 conv at h=>rhs; cbv
 exact h
def Xhw:S2:=zL [] [Xhx,Xhy] Xpp
def Xqx:=by
 have h:=fun (a b:S2)=>Eq.refl (zL [] [a,b] Xpp)
 conv at h=>intro a b; rhs; cbv
 have e:Xhw=_:=h Xhx Xhy
 exact e
def Yhp:S2:=zL [] [Xhw] Yp1
def Ylt:=by
 have h:=fun (a:S2)=>Eq.refl (zL [] [a] Yp1)
 conv at h=>intro a; rhs; cbv
 have e:Yhp=_:=h Xhw
 exact e
theorem Yov:Ycq.lift []=some Yhp:=by kernel_rfl
def Yhq:S2:=zL [] [] Yvo
def Ylu:=by
 have h:=Eq.refl Yhq
 conv at h=>rhs; cbv
 exact h
theorem Yow:Ycr.lift []=some Yhq:=by kernel_rfl
def Yhr:S2:=zL [] [] Yvp
def Ylv:=by
 have h:=Eq.refl Yhr
 conv at h=>rhs; cbv
 exact h
theorem Yox:Ycs.lift []=some Yhr:=by kernel_rfl
def Yhs:S2:=zL [] [] Yvq
def Xl3:=by
 have h:=Eq.refl Yhs
 conv at h=>rhs; cbv
 exact h
theorem Yoy:Yct.lift []=some Yhs:=by kernel_rfl
def Xh0:S2:=zL [] [] Xyy
def Xq0:=by
 have h:=Eq.refl Xh0
 conv at h=>rhs; cbv
 exact h
def Xh1:S2:=zL [] [] Xyz
def X2n:=by
 have h:=Eq.refl Xh1
 conv at h=>rhs; cbv
 exact h
def Xhz:S2:=zL [] [Xh0,Xh1] Xpq
def Xqz:=by
 have h:=fun (a b:S2)=>Eq.refl (zL [] [a,b] Xpq)
 conv at h=>intro a b; rhs; cbv
 have e:Xhz=_:=h Xh0 Xh1
 exact e
def Yhv:S2:=zL [] [Xhz] Yp2
def Yly:=by
 have h:=fun (a:S2)=>Eq.refl (zL [] [a] Yp2)
 conv at h=>intro a; rhs; cbv
 have e:Yhv=_:=h Xhz
 exact e
theorem Yo1:Ycw.lift []=some Yhv:=by kernel_rfl
def Yhw:S2:=zL [] [] Yvt
def Ylz:=by
 have h:=Eq.refl Yhw
 conv at h=>rhs; cbv
 exact h
theorem Yo2:Ycx.lift []=some Yhw:=by kernel_rfl
def Yhx:S2:=zL [] [] Yvu
def Yev:=by
 have h:=Eq.refl Yhx
 conv at h=>rhs; cbv
 exact h
theorem Yo3:Ycy.lift []=some Yhx:=by kernel_rfl
def Yh2:S2:=zL [] [] Yvz
def Yl2:=by
 have h:=Eq.refl Yh2
 conv at h=>rhs; cbv
 exact h
theorem Yo8:Ycz.lift []=some Yh2:=by kernel_rfl
def Yh3:S2:=zL [] [] Yv0
def Yl3:=by
 have h:=Eq.refl Yh3
 conv at h=>rhs; cbv
 exact h
theorem Yo9:Yc0.lift []=some Yh3:=by kernel_rfl
def Yh4:S2:=zL [] [] Yv1
def Yl4:=by
 have h:=Eq.refl Yh4
 conv at h=>rhs; cbv
 exact h
theorem Ypa:Yc1.lift []=some Yh4:=by kernel_rfl
def Yh5:S2:=zL [] [] Yv2
def Xs8:=by
 have h:=Eq.refl Yh5
 conv at h=>rhs; cbv
 exact h
theorem Ypb:Yc2.lift []=some Yh5:=by kernel_rfl
def Xh2:S2:=zL [] [] Xy0
def Xq1:=by
 have h:=Eq.refl Xh2
 conv at h=>rhs; cbv
 exact h
def Yh6:S2:=zL [] [Xh2] Yp3
def Yl5:=by
 have h:=fun (a:S2)=>Eq.refl (zL [] [a] Yp3)
 conv at h=>intro a; rhs; cbv
 have e:Yh6=_:=h Xh2
 exact e
theorem Ypc:Yc3.lift []=some Yh6:=by kernel_rfl
def Xh3:S2:=zL [] [] Xy1
def X2o:=by
 have h:=Eq.refl Xh3
 conv at h=>rhs; cbv
 exact h
def Yh7:S2:=zL [] [Xh3] Yp4
def Yl6:=by
 have h:=fun (a:S2)=>Eq.refl (zL [] [a] Yp4)
 conv at h=>intro a; rhs; cbv
 have e:Yh7=_:=h Xh3
 exact e
theorem Ypd:Yc4.lift []=some Yh7:=by kernel_rfl
def Xh5:S2:=zL [] [] Xy2
def Xq3:=by
 have h:=Eq.refl Xh5
 conv at h=>rhs; cbv
 exact h
def Xh6:S2:=zL [] [] Xy3
def X2p:=by
 have h:=Eq.refl Xh6
 conv at h=>rhs; cbv
 exact h
def Xh4:S2:=zL [] [Xh5,Xh6] Xpr
def Xq2:=by
 have h:=fun (a b:S2)=>Eq.refl (zL [] [a,b] Xpr)
 conv at h=>intro a b; rhs; cbv
 have e:Xh4=_:=h Xh5 Xh6
 exact e
def Yic:S2:=zL [] [Xh4] Yp5
def Yma:=by
 have h:=fun (a:S2)=>Eq.refl (zL [] [a] Yp5)
 conv at h=>intro a; rhs; cbv
 have e:Yic=_:=h Xh4
 exact e
theorem Ypi:Yc6.lift []=some Yic:=by kernel_rfl
def Yid:S2:=zL [] [] Yv7
def Ymb:=by
 have h:=Eq.refl Yid
 conv at h=>rhs; cbv
 exact h
theorem Ypj:Yc7.lift []=some Yid:=by kernel_rfl
def Yu4:S2:=zL [] [] n93
def Yzg:=by
 have h:=Eq.refl Yu4
 conv at h=>rhs; cbv
 exact h
theorem Y1o:Yn2.lift []=some Yu4:=by kernel_rfl
def Yhe:S2:=zL [] [] Yvi
def Yln:=by
 have h:=Eq.refl Yhe
 conv at h=>rhs; cbv
 exact h
theorem Yok:Ycn.lift []=some Yhe:=by kernel_rfl
def Yh8:S2:=zL [] [] Yv3
def Yl7:=by
 have h:=Eq.refl Yh8
 conv at h=>rhs; cbv
 exact h
theorem Ype:Yc5.lift []=some Yh8:=by kernel_rfl
def Yhu:S2:=zL [] [] Yvs
def Ylx:=by
 have h:=Eq.refl Yhu
 conv at h=>rhs; cbv
 exact h
theorem Yo0:Ycv.lift []=some Yhu:=by kernel_rfl
end Go.Proofs.YtmapdjjigmkbfaaGreatDoor
namespace Go.Ab
open Go
def X4h (n z:Nat)(ag:Bool)(u v:V):Prop:=Xmx n z ag (fun w=>w=Xtv u v) u v
section
variable (T:Tab) (sl:Xb) (ob:Objs) (x y:E) (n z:Nat) (b:Bool) (ty:KT)
@[simp] theorem v_eqD:E.val T sl ob (.b (.eqD ty b (.t 0) (.t 1)) x y)=Yeb b (x.val T sl ob) (y.val T sl ob):=by simp[E.val]
@[simp] theorem o_eqD:E.ok T sl ob (.b (.eqD ty b (.t 0) (.t 1)) x y)=(x.ok T sl ob/\y.ok T sl ob/\Yfu ty (x.val T sl ob) (y.val T sl ob)):=by simp[E.ok]
@[simp] theorem v_aix:E.val T sl ob (.b (.aix n z b (.t 0) (.t 1)) x y)=Xtv (x.val T sl ob) (y.val T sl ob):=by simp[E.val]
@[simp] theorem o_aix:E.ok T sl ob (.b (.aix n z b (.t 0) (.t 1)) x y)=(x.ok T sl ob/\y.ok T sl ob/\X4h n z b (x.val T sl ob) (y.val T sl ob)):=by simp[E.ok,C.ok,C.val,X4h]
@[simp] theorem idxVS_d (xs:List D)(k:IntKind)(i:Int):X4h n z b (.d (.agg xs)) (.d (.int k i))=((0<=i/\i<n)/\xs.length=n/\∀x∈xs,x.sz=z/\x.isAgg=b):=by
 simp[X4h,Xmx]
end
theorem ALoop.upto {keep:List Nat}{body:Uc->Xb->Objs->Prop}{Q:Uc}{sl:Xb}{ob:Objs}(n:Nat)(S:Nat->Xb)(O:Nat->Objs)(I:Nat->Prop)(h0:I 0)(hs:Xf sl keep=S 0)(ho:ob=O 0)
  (step:∀k,k<n->I k->∀R:Uc,(∀kp sl' ob',I (k+1)->Xf sl' keep=S (k+1)->X1 (young (fresh (O k)) kp) ob'=O (k+1)->Qd (young (fresh (O k)) kp) (S (k+1))=true->noMenO (young (fresh (O k)) kp) (O (k+1))=true->R .normal sl' ob')->
   (∀n sl' ob',Q (.exit n) sl' ob'->R (.exit n) sl' ob')->(∀sl' ob',Q .ret sl' ob'->R .ret sl' ob')->(∀v sl' ob',Q (.panic v) sl' ob'->R (.panic v) sl' ob')->body R (S k) (O k))
  (done:I n->∀R:Uc,(∀n sl' ob',Q (.exit n) sl' ob'->R (.exit n) sl' ob')->(∀sl' ob',Q .ret sl' ob'->R .ret sl' ob')->(∀v sl' ob',Q (.panic v) sl' ob'->R (.panic v) sl' ob')->body R (S n) (O n)):ALoop keep body Q sl ob:=by
 refine ALoop.go (ι:=Nat) S O (fun k=>k<=n/\I k) (fun k=>n-k) 0 ⟨Nat.zero_le _,h0⟩ hs ho fun k ⟨hk,hi⟩ R rn re rr rp=>?_
 rcases Nat.lt_or_ge k n with h | h
 ·exact step k h hi R (fun kp sl' ob' h1 h2 h3 h4 h5=>rn kp (k+1) sl' ob' ⟨h,h1⟩ (by omega) h2 h3 h4 h5) re rr rp
 ·obtain rfl:k=n:=Nat.le_antisymm hk h
  exact done hi R re rr rp
end Go.Ab
namespace Go.Proofs.YtmapdjjigmkbfaaGreatDoor
open Go Go.Ab
def X65:Nat:=0x440c20c61440c200602db0cb2c00106b18115672a001067a4123b5abea68957250019dfa020828698e40410a314500000500e34c2ca2461481c40c20403800450070e01040c20e01851030801df74d0de61c0007000416c104268515b787000082
def Yc8:S:=zS [] X65
def Yrz:FSt:=.pre (.rg [] [.op (some 2) (.alloc 55 (.nils)),
   .op (some 3) (.alloc 3 (.int .i64 0)),
   .op (some 4) (.alloc 45 (.int .i64 0))] [0,2,3,4] [])
 (.pre (.seq (.rg [] [.op (some 7) (.c (.mv (.t 0))),
   .op (some 8) (.c (.lenS (.t 7))),
   .op (some 9) (.c (.bin .gtr (.t 8) (.int .i64 65536)))] [0,2,3,4,9] [])
 (.cond (.t 9) (.seq (.rg [] [.op none (.st 1 (.t 2) .nils),
   .op none (.st 1 (.t 3) (.int .i64 0)),
   .op none (.st 1 (.t 4) (.int .i64 2))] [2,3,4] [])
 (.ret)) (.skip)))
 (.dfr [.op (some 10) (.c (.mkf 43 [] [(.t 2),(.t 3),(.t 4)]))] [0,2,3,4,10] 10
 (.seq (.rg [] [.op (some 11) (.c (.mv (.t 0))),
   .op (some 12) (.pcall 44 []),
   .op (some 13) (.c (.bld [.str [],.int .i64 0,.agg (List.replicate 256 (.int .i64 0)),.nils] [(0,(.t 11)),(2,(.t 12))])),
   .op (some 14) (.box 130 (.t 13)),
   .op (some 5) (.mvg 59 4 (.t 14) (.t 14) [3])] [0,2,3,4,5] [2,3,4])
 (.seq (.rg [] [.op (some 15) (.c (.mv (.t 5))),
   .op (some 16) (.c (.mkf 45 [(.t 15)] [])),
   .op (some 17) (.c (.mv (.t 5))),
   .op (some 18) (.c (.mkf 46 [(.t 17)] [])),
   .op (some 19) (.c (.mv (.t 5))),
   .op (some 20) (.c (.mkf 47 [(.t 19)] [])),
   .op (some 21) (.c (.mv (.t 5))),
   .op (some 22) (.c (.mkf 48 [(.t 21)] [])),
   .op (some 23) (.c (.mv (.t 5))),
   .op (some 24) (.c (.mkf 49 [(.t 23)] [])),
   .op (some 25) (.c (.bld [.nilf,.nilf,.nilf,.nilf,.nilf] [(0,(.t 16)),(1,(.t 18)),(2,(.t 20)),(3,(.t 22)),(4,(.t 24))])),
   .op (some 6) (.alloc 131 (.agg (List.replicate 5 (.nilf)))),
   .op none (.st 5 (.t 6) (.t 25))] [0,2,3,4,5,6] [2,3,4])
 (.seq (.block 0 (.loop [0,2,3,4,5,6] Yc8))
 (.seq (.rg [] [.op (some 47) (.c (.mv (.t 5))),
   .op (some 48) (.c (.nilc (.t 47))),
   .op (some 49) (.c (.fldA 3 258 (.t 48))),
   .op (some 50) (.c (.ld 1 false (.t 49))),
   .op none (.st 1 (.t 2) (.t 50)),
   .op none (.st 1 (.t 3) (.int .i64 0)),
   .op none (.st 1 (.t 4) (.int .i64 0))] [2,3,4] [2,3,4])
 (.ret)))))))
theorem Y1y:Xtq Tryz.prog 16 1 Yrz [.c 2 1 false,.c 3 1 false,.c 4 1 false]=true:=by kernel_rfl
def X66:Nat:=0x402481c411e29e083b4901f842000
def X67:Nat:=0x402481c411c102d0d6c00411810420c00002481c4119102d0d601d4e5c00411820821000161005892071841840ed54b0d40010460005600c0002
def Xy6:Nat:=0x41280283009207184148e04b440b33410004840122481c6106003b513c31527820000820c8003082f390ed000bc37820000901004092071851073c9381c8e18110f7c30000820092071851063461142c67800c00030000800c0100143e07b8c0440491c41890060000811420070ca10200a2481c414824d2e1040002
def n17:Nat:=0x12000c20800ed01f0de101da0ac30000802892071041801402481c41000ed00710021e0c00020801000831c20053b9401000080001003b4002f0de080002
def Yr0:S:=zS [(zS [(zS [] X67),(zS [] X66)] Xy6)] n17
theorem Y1z:Xt Tryz.prog 17 1 Yr0 [.t 2,.t 3]=true:=by kernel_rfl
def X7q:Nat:=0x100f3800f5b107820ed3c0da108000320008102e0de040002d2c100d0f380100bb3b25232b01ba820197d02ec6cac8028f70b01baeb0806bf7ae04b6fb0f0c0bbd10002ef6db0006bf68e04b6cb0d0c1afd10006bf6a000a3d1ba12da4c0c0a3d100028f6700197d003b662c3065f4300197d9008c91647920000803ce1440c01a219e841b9b200ba078801bf7ce84b5f38305ef440017bd74001bf4ae84b5c40301bf440006fd68002e65723ce44b58383057f440015fd5802b912d5500c459e3c000200f3840c015415e4d255c0c00137840000803ce0c011111e3c00800020450801c340408040f38010e3cd461040002
def n39:Nat:=0x120008106e0de04000200a3ce0031801403ce003003b4035870039e0c000208320008102e0de04000230400c0022c1b88208e03b4a3c3008f4961c008f4000023d1c002f18b0c01de1c000208000102e0de040002
def Ym6:S:=zS [(zS [] X7q)] n39
theorem Ywh:Xt Tryz.prog 39 1 Ym6 [.t 2]=true:=by kernel_rfl
def X7v:Nat:=0x4003ce43b42054441054c00054112784000
def Xxp:List It:=[.op (some 3) (.c (.mv (.t 6)))]
def X6j:List Nat:=[0,1,2,3]
def n43:Nat:=0x4300a0c01020401105430020003c400f10308100638914f7820000820051030810063403057812470093652ca78a003004e5d7032de1c00022040080c204014700e70321e080002
def Yna:S:=zS [(zS [] X7v)] n43
theorem Yqw:Xtg Tryz.prog 43 3 6 Xxp Yna=true:=by kernel_rfl
def X7w:Nat:=0x1025923004ae67820ed9400c2000025923004203b6a054a40048ed6706a9e0c00009648c6005a077a70010658c11830000871421870e61020269648c016494d9e1040002
def X7x:Nat:=0x101b69900485c7820ed6c00c200001b699004083b600547c0048ed670481e0c00006da64400578579d00105b6411830000851421070dc10201c6da64015a6cd761040002
def X7y:Nat:=0x4044009749e083b510030800004400860ed58151500123b59c528e03b400c255e1000004420034c37910020000831420870d21020124400d40ed44d4e1040002
def X7z:Nat:=0x401c009021e083b470030800001c00840ed3c150d00123b59c103b4e0542c0048ed670c2ba0ed00304028ae43b400c12de2000001c10032427870020000811420070c81020081c00f40ed1cd261040002
def n44:Nat:=0x4800006cb0023b500048eed7c20000832a59230041861409648c01000ed02312249d7b812d3bce04b4d93812d322e04b4b2b812d280e44b499b812d20ee04b470b912d1a0e04b45fb812d11ae04b4363812d082ec4b41fba12d00f00400f041163c4400008208a6da64010610501b699004003b4064461275a12d0d412d09212d048e04b40100100004000100004004001159c4400008204a440086085011002003b5278100008200a1c0086005007002003b487810000820000400c023b0451f906e040002
def Ynb:S:=zS [(zS [] X7z),(zS [] X7y),(zS [] X7x),(zS [] X7w)] n44
theorem Ywl:Xt Tryz.prog 44 0 Ynb [.c 0 256 true]=true:=by kernel_rfl
def n45:Nat:=0x1000195144e4b1000410c1042085003786000
def Ync:S:=zS [] n45
theorem Ywm:Xt Tryz.prog 45 1 Ync []=true:=by kernel_rfl
def n46:Nat:=0x10001880541c1042085083b450031000410c1042085003788000
def Ynd:S:=zS [] n46
theorem Ywn:Xt Tryz.prog 46 1 Ynd []=true:=by kernel_rfl
def X70:Nat:=0x4001240e0eae0d45870200f0420ed0020030000c000200300400a08004004f7c6000
def n47:Nat:=0x40283002042355304e4b2c00412810422450400411800081002020432380ed1cf0c661c0877830000820020421437840c2a38381040a7871c0400447c4000080041006e51040002
def Yne:S:=zS [(zS [] X70)] n47
theorem Ywo:Xt Tryz.prog 47 1 Yne []=true:=by kernel_rfl
def X71:Nat:=0x100a2430811652de083b4a026842000
def Xzm:Nat:=0x100a0c02890c20459158c4e4b88004184104280504004118001f1007ca24308119e06e5c802e75a2005fda3812d70b0c16bd003b5b55c05af420016bd640017f400ed60f0c05fd100017f5600000000080000000003f0ed54f0c359e2c000200a2440c20465047933800d20d3728e04b5104340f55c1000803540ed0830ce78900008028910308118c15e2800800020450801c32c40802ca24308118928d321040002
def n48:Nat:=0x4002aa260eae0da587020270840ed0020030000c000200300400a0c00400677c600000a2890c20451801402890c2045003b4021870225e0c00020800c2043003b400400020020421c3786142a38381040af871c0400467c4000080041006e51040002
def Ynf:S:=zS [(zS [(zS [] X71)] Xzm)] n48
theorem Ywp:Xt Tryz.prog 48 1 Ynf []=true:=by kernel_rfl
def n49:Nat:=0x400020ed9560eae0d901183b400800c00030000800c01002a305e05a69c083b620038400637dd0017df64005b7e004109f14081e7010426c501c79800009714000001140f38d30810b2891c614308101100320001354151404108c1523c00d161cb78d900a8e12b0e00141f01178d04108c14000b2892071850c408100b0022c400b002bf0bf00af282b3838024115a70800129f1000467c70410861401de0c000208500378a2481c3185102040280082
def Yng:S:=zS [] n49
theorem Ywq:Xt Tryz.prog 49 1 Yng []=true:=by kernel_rfl
def n50:Nat:=0x48002040b83781000083200081b6c0de02eb2ca48003b6b2c3069f6a001041a7d042082069f68000ba79089abc3ac2ec2dc21c3cc2fc23c3dc2cc3bc29c28c1d6cfbc2bb838193d940041064f4104108193d8c0083b622c38587200010410418603c000278401e0427df7860ed10b821080002200081743780b9c648000000020000000000fc3b5b383059f5a00104167d042082059f58000b97508003b56403054f5500104153d042082054f53000bd22c344004104105280e00008f1003c40434107840ed10b461080002200081383780b8d288003b4c2c304af4b0010412bd04208204af490080673870010410412202400021440051010c619e083b442c7842000080140101083001041000082000082001040b80003e11080002
def Ynh:S:=zS [] n50
theorem ok50:Xt Tryz.prog 50 1 Ynh [.t 2]=true:=by kernel_rfl
def n51:Nat:=0x4800407115e0400020003900543c10421c534b04114f3000401000400520402800412410422050000002c0002001002141bf83400020000800400b115e040002
def Yni:S:=zS [] n51
theorem ok51:Xt Tryz.prog 51 2 Yni [.t 4]=true:=by kernel_rfl
def n52:Nat:=0x12001440b101215e4587010040000800413900543c104220534c04529d0402c0041281042245000000280002001002181bf83400020000800400b10000ed15e080002
def Ynj:S:=zS [] n52
theorem ok52:Xt Tryz.prog 52 2 Ynj [.t 4,.t 5]=true:=by kernel_rfl
def n54:Nat:=0x4800204d0de30715374b10a00131f1927050011df24104220500978404108314000c2ca2481031c614204030008000102f0de040002
def Ynk:S:=zS [] n54
theorem ok54:Xt Tryz.prog 54 1 Ynk [.t 2]=true:=by kernel_rfl
def n73:Nat:=0x120008140378f06e348684b4e2c300df4000037d3002c1b8921412d28b0c027d000009f4800706e148484b462c3005f4000017d10023812d0cb0c000f00008000102e0de040002
def Ysh:S:=zS [] n73
theorem Y2g:Xt Tryz.prog 73 1 Ysh [.t 2]=true:=by kernel_rfl
def n74:Nat:=0x480020500de3c1b89200b8e308009f7ce44b4d38304cf4000133d2c0009f4ae44b4a403009f4000027d20002e1c523ce84b46383045f4000117d1002ba12d0d00c000f00008000102e0de040002
def Ysi:S:=zS [] n74
theorem Y2h:Xt Tryz.prog 74 1 Ysi [.t 2]=true:=by kernel_rfl
def n75:Nat:=0x4800204c0de2c1b89206e84b4a2c3009f4000027d2001c1b85206055e0e005f4000017d1000c14b838000b00008000102e0de040002
def Ysj:S:=zS [] n75
theorem Y2i:Xt Tryz.prog 75 1 Ysj [.t 2]=true:=by kernel_rfl
def X8h:Nat:=0x400c009711e083b560030d77830000c8002040b8378100009c1007030036c96814f839961570300065e1400020450801c35440150c00d448d0d361c0000d3784000082
def n76:Nat:=0x120008106e0de04000200a0c0086005003002003b4004000208320008102e0de040002444011002401b8c20f24033d3814b838033d003b4d55c00cf4000033d2c0281b87208e03b493c3007f4861c007f400001fd180083b4534311870015e38000208000102e0de040002
def Ysk:S:=zS [(zS [] X8h)] n76
theorem Y2j:Xt Tryz.prog 76 1 Ysk [.t 2]=true:=by kernel_rfl
def n77:Nat:=0x480020480de02e1c523ae04b46383045f4000117d100a3812d0d00c000700008000102e0de040002
def Ysl:S:=zS [] n77
theorem Y2k:Xt Tryz.prog 77 1 Ysl [.t 2]=true:=by kernel_rfl
def X8i:Nat:=0x10051000cb19e083b4a00314b7830000c800308202e0000ed0de080002544015144004000000020000000000fc3b543c31157820000801440034c57923400d10d3728e04b500433ce55c1400003140ed08310d7890000811420070c910024510010818d0c761c000147784000082
def n78:Nat:=0x12000c209e0160de741b9a228e04b5c30301af400ed6d57006bd00001af590020ed60b0d761c00011778b28920718510308100b00200a144003180140144003003b400400020801000800ed00100008000102e0000ed0de080002
def Ysm:S:=zS [(zS [] X8i)] n78
theorem Y2l:Xt Tryz.prog 78 1 Ysm [.t 2,.t 3]=true:=by kernel_rfl
def X8j:Nat:=0x401030032857820ed2400c429e0c000320008106e0de0400023c400f10300438d2c300030b55c1000cc7850000811420070c81002040c010714d0c661c0c0106784000082
def n79:Nat:=0x48002040b837810000802840c00c60050040c00c00ed001000082003002af0eb0bb0b70870f30bf08f0f70b30ef0a70a3075b3ef00100008000102e0de040002
def Ysn:S:=zS [(zS [] X8j)] n79
theorem Y2m:Xt Tryz.prog 79 1 Ysn [.t 2]=true:=by kernel_rfl
def X8u:Nat:=0x10050400dc19e083b5b0031400c00011401c368401a14100402e65121805230147d5d655c051f4500147d540041051f5400008147d4c5051f4000147d040051f5000f28d0ce61c3400413000022c500014b791000082
def n96:Nat:=0x12001019857a50640606a7ea300195f7c00617c599e88104284502279e00009d14079e2ca2470c81851020402c00802850400c60050801410032467880010470410861401de14000200100202f15e040002
def Yn5:S:=zS [(zS [] X8u)] n96
theorem Yxa:Xt Tryz.prog 96 2 Yn5 [.t 4]=true:=by kernel_rfl
def n97:Nat:=0x4800305711e581b94206e84b552c3014f4000053d4c0481b8b2060ed44b0c02fd40004100bf4d3c123b59c00bf4e0820802fd30500bf400002fd04004100bf4a0040ed24b0c80010451c123b59c18208210500004004154000200100202e11e040002
def Yn6:S:=zS [] n97
theorem Yxb:Xt Tryz.prog 97 2 Yn6 [.t 3]=true:=by kernel_rfl
def n98:Nat:=0x100069c0546c10425456580030805c00415810425450002400000800925015132bb0c22c544fa040f83d00010030000c000200300400504011210110138004134aec308c14000000b28920718510308100b0020040800c92815040c30880010470410861401de1800020040800c10f816f040002
def Yn7:S:=zS [] n98
theorem Yxc:Xt Tryz.prog 98 3 Yn7 []=true:=by kernel_rfl
def n99:Nat:=0x12000c12847860ed24b0c80010451c123b59c18208210500004004120000200100202e11e040002
def Yn8:S:=zS [] n99
theorem Yxd:Xt Tryz.prog 99 2 Yn8 [.t 3]=true:=by kernel_rfl
def Yvd:Nat:=0x4800404715e185089e4e04000010000200100202e15e040002
def Ycd:S:=zS [] Yvd
theorem Yi7:Xt Tryz.prog 100 2 Ycd [.t 4]=true:=by kernel_rfl
def Yve:Nat:=0x120008110379412d0cc0c000300008000102e0de040002
def Yce:S:=zS [] Yve
theorem Yi8:Xt Tryz.prog 101 1 Yce [.t 2]=true:=by kernel_rfl
def Yvr:Nat:=0x4800405115e02e40a20f38b0c12bd04004af4d0402da7012bd3187012bd04004af400012bd2402064031d870100561c00038000200100202e15e040002
def Ycu:S:=zS [] Yvr
theorem Yjn:Xt Tryz.prog 129 2 Ycu [.t 4]=true:=by kernel_rfl
end Go.Proofs.YtmapdjjigmkbfaaGreatDoor
namespace Go.Proofs.YtmapdjjigmkbfaaGreatDoor
open Go Go.Ab
def Xx4:S2:=zL [] [] X65
def Xbh:=by
 have h:=Eq.refl Xx4
 conv at h=>rhs; cbv
 exact h
def Yta:FS2:=.pre (.rg [.op (some 2) (.alloc 55 .nils),.op (some 3) (.alloc 3 (.int .i64 0)),.op (some 4) (.alloc 45 (.int .i64 0))] [(0,(.a (.t 0))),(2,(.a (.t 2))),(3,(.a (.t 3))),(4,(.a (.t 4)))] [])
 (.pre (.seq (.rg [] [(0,(.a (.t 0))),(2,(.a (.t 2))),(3,(.a (.t 3))),(4,(.a (.t 4))),(9,(.b (.bin .gtr (.t 0) (.t 1)) (.u (.lenS (.t 0)) (.a (.t 0))) (.a (.int .i64 65536))))] [])
 (.cond (.t 9) (.seq (.rg [.op none (.st 1 (.t 2) .nils),.op none (.st 1 (.t 3) (.int .i64 0)),.op none (.st 1 (.t 4) (.int .i64 2))] [(2,(.a (.t 2))),(3,(.a (.t 3))),(4,(.a (.t 4)))] [])
 (.ret)) (.skip)))
 (.dfr [.op (some 10) (.c (.mkf 43 [] [(.t 2),(.t 3),(.t 4)]))] [(0,(.a (.t 0))),(2,(.a (.t 2))),(3,(.a (.t 3))),(4,(.a (.t 4))),(10,(.a (.t 10)))] 10
 (.seq (.rg [.op (some 12) (.pcall 44 []),.lt 11 [] (.a (.t 0)),.op (some 13) (.c (.bld [(.str []),(.int .i64 0),(.agg (List.replicate 256 (.int .i64 0))),.nils] [(0,(.t 11)),(2,(.t 12))])),.op (some 14) (.box 130 (.t 13)),.op (some 5) (.mvg 59 4 (.t 14) (.t 14) [3])] [(0,(.a (.t 0))),(2,(.a (.t 2))),(3,(.a (.t 3))),(4,(.a (.t 4))),(5,(.a (.t 5)))] [2,3,4])
 (.seq (.rg [.lt 15 [] (.a (.t 5)),.op (some 16) (.c (.mkf 45 [(.t 15)] [])),.lt 17 [] (.a (.t 5)),.op (some 18) (.c (.mkf 46 [(.t 17)] [])),.lt 19 [] (.a (.t 5)),.op (some 20) (.c (.mkf 47 [(.t 19)] [])),.lt 21 [] (.a (.t 5)),.op (some 22) (.c (.mkf 48 [(.t 21)] [])),.lt 23 [] (.a (.t 5)),.op (some 24) (.c (.mkf 49 [(.t 23)] [])),.op (some 25) (.c (.bld [.nilf,.nilf,.nilf,.nilf,.nilf] [(0,(.t 16)),(1,(.t 18)),(2,(.t 20)),(3,(.t 22)),(4,(.t 24))])),.op (some 6) (.alloc 131 (.agg [.nilf,.nilf,.nilf,.nilf,.nilf])),.op none (.st 5 (.t 6) (.t 25))] [(0,(.a (.t 0))),(2,(.a (.t 2))),(3,(.a (.t 3))),(4,(.a (.t 4))),(5,(.a (.t 5))),(6,(.a (.t 6)))] [2,3,4])
 (.seq (.block 0 (.loop [0,2,3,4,5,6] Xx4))
 (.seq (.rg [.chk [] (.u (.ld 1 false (.t 0)) (.u (.fldA 3 258 (.t 0)) (.u (.nilc (.t 0)) (.a (.t 5))))),.lt 50 [] (.u (.ld 1 false (.t 0)) (.u (.fldA 3 258 (.t 0)) (.u (.nilc (.t 0)) (.a (.t 5))))),.op none (.st 1 (.t 2) (.t 50)),.op none (.st 1 (.t 3) (.int .i64 0)),.op none (.st 1 (.t 4) (.int .i64 0))] [(2,(.a (.t 2))),(3,(.a (.t 3))),(4,(.a (.t 4)))] [2,3,4])
 (.ret)))))))
theorem Yz1:Yrz.lift []=some Yta:=by kernel_rfl
def Xng:S2:=zL [] [] X66
def Xgj:=by
 have h:=Eq.refl Xng
 conv at h=>rhs; cbv
 exact h
def Xnh:S2:=zL [] [] X67
def Xu5:=by
 have h:=Eq.refl Xnh
 conv at h=>rhs; cbv
 exact h
def Xnf:S2:=zL [] [Xnh,Xng] Xy6
def Xl6:=by
 have h:=fun (a b:S2)=>Eq.refl (zL [] [a,b] Xy6)
 conv at h=>intro a b; rhs; cbv
 have e:Xnf=_:=h Xnh Xng
 exact e
def Ytb:S2:=zL [] [Xnf] n17
def Yx6:=by
 have h:=fun (a:S2)=>Eq.refl (zL [] [a] n17)
 conv at h=>intro a; rhs; cbv
 have e:Ytb=_:=h Xnf
 exact e
theorem Yz2:Yr0.lift []=some Ytb:=by kernel_rfl
def Xoa:S2:=zL [] [] X7q
def X9z:=by
 have h:=Eq.refl Xoa
 conv at h=>rhs; cbv
 exact h
def Ytq:S2:=zL [] [Xoa] n39
def Yyj:=by
 have h:=fun (a:S2)=>Eq.refl (zL [] [a] n39)
 conv at h=>intro a; rhs; cbv
 have e:Ytq=_:=h Xoa
 exact e
theorem Y0g:Ym6.lift []=some Ytq:=by kernel_rfl
def Xoe:S2:=zL [] [] X7v
def X91:=by
 have h:=Eq.refl Xoe
 conv at h=>rhs; cbv
 exact h
def Xx6:List It2:=[]
def Xx5:List (Nat×E):=[(0,(.a (.t 0))),(1,(.a (.t 1))),(2,(.a (.t 2))),(3,(.a (.t 6)))]
theorem Ys5:Xaw [] X6j [] Xxp [] [] []=some (Xx6,Xx5):=by kernel_rfl
def Ytu:S2:=zL [] [Xoe] n43
def Yq5:=by
 have h:=fun (a:S2)=>Eq.refl (zL [] [a] n43)
 conv at h=>intro a; rhs; cbv
 have e:Ytu=_:=h Xoe
 exact e
theorem Ys2:Yna.lift []=some Ytu:=by kernel_rfl
def Xx7:S2:=zL [] [] X7w
def Xvn:=by
 have h:=Eq.refl Xx7
 conv at h=>rhs; cbv
 exact h
def Xx8:S2:=zL [] [] X7x
def Xvo:=by
 have h:=Eq.refl Xx8
 conv at h=>rhs; cbv
 exact h
def Xx9:S2:=zL [] [] X7y
def Xvp:=by
 have h:=Eq.refl Xx9
 conv at h=>rhs; cbv
 exact h
def Xya:S2:=zL [] [] X7z
def Xvq:=by
 have h:=Eq.refl Xya
 conv at h=>rhs; cbv
 exact h
def Ytv:S2:=.seq (.rg [.op (some 0) (.alloc 127 (.agg (List.replicate 256 (.int .i64 0))))] [(0,(.a (.t 0)))] [])
 (.seq (.seq (.rg [] [(0,(.a (.t 0))),(7,(.a (.int .i64 0)))] [])
 (.block 0 (.loop [0,7] Xya)))
 (.seq (.seq (.rg [] [(0,(.a (.t 0))),(17,(.a (.int .i64 0)))] [])
 (.block 2 (.loop [0,17] Xx9)))
 (.seq (.seq (.rg [.op (some 24) (.blo 5 1 [(.int .u8 0),(.int .u8 0),(.int .u8 0),(.int .u8 0)] [(0,(.int .u8 32)),(1,(.int .u8 9)),(2,(.int .u8 10)),(3,(.int .u8 13))]),.op (some 25) (.cvb (.t 24))] [(0,(.a (.t 0))),(25,(.a (.t 25))),(26,(.u (.lenL (.t 0)) (.a (.t 25)))),(27,(.a (.int .i64 0)))] [])
 (.block 4 (.loop [0,25,26,27] Xx8)))
 (.seq (.seq (.rg [.op (some 34) (.blo 5 1 (List.replicate 15 (.int .u8 0)) [(0,(.int .u8 123)),(1,(.int .u8 125)),(2,(.int .u8 40)),(3,(.int .u8 41)),(4,(.int .u8 59)),(5,(.int .u8 44)),(6,(.int .u8 61)),(7,(.int .u8 35)),(8,(.int .u8 47)),(9,(.int .u8 60)),(10,(.int .u8 33)),(11,(.int .u8 45)),(12,(.int .u8 46)),(13,(.int .u8 58)),(14,(.int .u8 43))]),.op (some 35) (.cvb (.t 34))] [(0,(.a (.t 0))),(35,(.a (.t 35))),(36,(.u (.lenL (.t 0)) (.a (.t 35)))),(37,(.a (.int .i64 0)))] [])
 (.block 6 (.loop [0,35,36,37] Xx7)))
 (.seq (.rg [.chk [] (.u (.ld 256 true (.t 0)) (.a (.t 0))),.lt 44 [] (.u (.ld 256 true (.t 0)) (.a (.t 0))),.op none (.st 256 (.t 0) (.t 44))] [(0,(.a (.t 0)))] [])
 (.ret))))))
theorem Y0k:Ynb.lift []=some Ytv:=by kernel_rfl
def Ytw:S2:=zL [] [] n45
def Yyl:=by
 have h:=Eq.refl Ytw
 conv at h=>rhs; cbv
 exact h
theorem Y0l:Ync.lift []=some Ytw:=by kernel_rfl
def Ytx:S2:=zL [] [] n46
def Yym:=by
 have h:=Eq.refl Ytx
 conv at h=>rhs; cbv
 exact h
theorem Y0m:Ynd.lift []=some Ytx:=by kernel_rfl
def Xof:S2:=zL [] [] X70
def X92:=by
 have h:=Eq.refl Xof
 conv at h=>rhs; cbv
 exact h
def Yty:S2:=zL [] [Xof] n47
def Yyn:=by
 have h:=fun (a:S2)=>Eq.refl (zL [] [a] n47)
 conv at h=>intro a; rhs; cbv
 have e:Yty=_:=h Xof
 exact e
theorem Y0n:Yne.lift []=some Yty:=by kernel_rfl
def Xoh:S2:=zL [] [] X71
def X94:=by
 have h:=Eq.refl Xoh
 conv at h=>rhs; cbv
 exact h
def Xog:S2:=zL [] [Xoh] Xzm
def X93:=by
 have h:=fun (a:S2)=>Eq.refl (zL [] [a] Xzm)
 conv at h=>intro a; rhs; cbv
 have e:Xog=_:=h Xoh
 exact e
def Ytz:S2:=zL [] [Xog] n48
def Yyo:=by
 have h:=fun (a:S2)=>Eq.refl (zL [] [a] n48)
 conv at h=>intro a; rhs; cbv
 have e:Ytz=_:=h Xog
 exact e
theorem Y0o:Ynf.lift []=some Ytz:=by kernel_rfl
def Yt0:S2:=zL [] [] n49
def Yyp:=by
 have h:=Eq.refl Yt0
 conv at h=>rhs; cbv
 exact h
theorem Y0p:Yng.lift []=some Yt0:=by kernel_rfl
def Yt1:S2:=zL [39,102] [] n50
def Et50:=by
 have h:=Eq.refl Yt1
 conv at h=>rhs; cbv
 exact h
theorem lf50:Ynh.lift [39,102]=some Yt1:=by kernel_rfl
def Yt2:S2:=zL [] [] n51
def Et51:=by
 have h:=Eq.refl Yt2
 conv at h=>rhs; cbv
 exact h
theorem lf51:Yni.lift []=some Yt2:=by kernel_rfl
def Yt3:S2:=zL [] [] n52
def Et52:=by
 have h:=Eq.refl Yt3
 conv at h=>rhs; cbv
 exact h
theorem lf52:Ynj.lift []=some Yt3:=by kernel_rfl
def Yt4:S2:=zL [] [] n54
def Et54:=by
 have h:=Eq.refl Yt4
 conv at h=>rhs; cbv
 exact h
theorem lf54:Ynk.lift []=some Yt4:=by kernel_rfl
def Yul:S2:=zL [] [] n73
def Yy1:=by
 have h:=Eq.refl Yul
 conv at h=>rhs; cbv
 exact h
theorem Y05:Ysh.lift []=some Yul:=by kernel_rfl
def Yum:S2:=zL [] [] n74
def Yy2:=by
 have h:=Eq.refl Yum
 conv at h=>rhs; cbv
 exact h
theorem Y06:Ysi.lift []=some Yum:=by kernel_rfl
def Yun:S2:=zL [74,77] [] n75
def Yy3:=by
 have h:=Eq.refl Yun
 conv at h=>rhs; cbv
 exact h
theorem Y07:Ysj.lift [74,77]=some Yun:=by kernel_rfl
def Xo1:S2:=zL [74,75] [] X8h
def Yap:=by
 have h:=Eq.refl Xo1
 conv at h=>rhs; cbv
 exact h
def Yuo:S2:=zL [74,75] [Xo1] n76
def Yy4:=by
 have h:=fun (a:S2)=>Eq.refl (zL [74,75] [a] n76)
 conv at h=>intro a; rhs; cbv
 have e:Yuo=_:=h Xo1
 exact e
theorem Y08:Ysk.lift [74,75]=some Yuo:=by kernel_rfl
def Yup:S2:=zL [] [] n77
def Yy5:=by
 have h:=Eq.refl Yup
 conv at h=>rhs; cbv
 exact h
theorem Y09:Ysl.lift []=some Yup:=by kernel_rfl
def Xo2:S2:=zL [] [] X8i
def Yaq:=by
 have h:=Eq.refl Xo2
 conv at h=>rhs; cbv
 exact h
def Yuq:S2:=zL [] [Xo2] n78
def Yy6:=by
 have h:=fun (a:S2)=>Eq.refl (zL [] [a] n78)
 conv at h=>intro a; rhs; cbv
 have e:Yuq=_:=h Xo2
 exact e
theorem Y1a:Ysm.lift []=some Yuq:=by kernel_rfl
def Xo3:S2:=zL [] [] X8j
def Yar:=by
 have h:=Eq.refl Xo3
 conv at h=>rhs; cbv
 exact h
def Yur:S2:=zL [] [Xo3] n79
def Yy7:=by
 have h:=fun (a:S2)=>Eq.refl (zL [] [a] n79)
 conv at h=>intro a; rhs; cbv
 have e:Yur=_:=h Xo3
 exact e
theorem Y1b:Ysn.lift []=some Yur:=by kernel_rfl
def Xpf:S2:=zL [] [] X8u
def Yau:=by
 have h:=Eq.refl Xpf
 conv at h=>rhs; cbv
 exact h
def Yu7:S2:=zL [] [Xpf] n96
def Yzi:=by
 have h:=fun (a:S2)=>Eq.refl (zL [] [a] n96)
 conv at h=>intro a; rhs; cbv
 have e:Yu7=_:=h Xpf
 exact e
theorem Y1r:Yn5.lift []=some Yu7:=by kernel_rfl
def Yu8:S2:=zL [] [] n97
def Yzj:=by
 have h:=Eq.refl Yu8
 conv at h=>rhs; cbv
 exact h
theorem Y1s:Yn6.lift []=some Yu8:=by kernel_rfl
def Yu9:S2:=zL [] [] n98
def Yzk:=by
 have h:=Eq.refl Yu9
 conv at h=>rhs; cbv
 exact h
theorem Y1t:Yn7.lift []=some Yu9:=by kernel_rfl
def Yva:S2:=zL [] [] n99
def Yzl:=by
 have h:=Eq.refl Yva
 conv at h=>rhs; cbv
 exact h
theorem Y1u:Yn8.lift []=some Yva:=by kernel_rfl
def Yg5:S2:=zL [] [] Yvd
def Yli:=by
 have h:=Eq.refl Yg5
 conv at h=>rhs; cbv
 exact h
theorem Yob:Ycd.lift []=some Yg5:=by kernel_rfl
def Yg6:S2:=zL [] [] Yve
def Ylj:=by
 have h:=Eq.refl Yg6
 conv at h=>rhs; cbv
 exact h
theorem Yoc:Yce.lift []=some Yg6:=by kernel_rfl
def Yht:S2:=zL [] [] Yvr
def Ylw:=by
 have h:=Eq.refl Yht
 conv at h=>rhs; cbv
 exact h
theorem Yoz:Ycu.lift []=some Yht:=by kernel_rfl
end Go.Proofs.YtmapdjjigmkbfaaGreatDoor
namespace Go.Proofs.YtmapdjjigmkbfaaGreatDoor
open Go Go.Ab Go.Lx
theorem mixed:Tryz.prog.follows .mixedOrders=true:=by kernel_rfl

def fnI (f:Int->Bool):Ab.Fn:=⟨fun vs=>match vs with | [.d (.int .u8 _)]=>True | _=>False,fun vs=>match vs with | [.d (.int .u8 n)]=>.d (.bool (f n)) | _=>.any⟩
@[simp] theorem fnI_pre (f:Int->Bool)(n:Int):(fnI f).pre [.d (.int .u8 n)]=True:=by simp only[fnI]
@[simp] theorem fnI_val (f:Int->Bool)(n:Int):(fnI f).val [.d (.int .u8 n)]=.d (.bool (f n)):=by simp only[fnI]
theorem Xj6 {P:Prg}{k:Nat}{f:Int->Bool}(h:∀n ob (K:V->Prop),K (.d (.bool (f n)))->PCall P k [.d (.int .u8 n)] ob K):PFn P k (fnI f):=by
 intro vs hp ob K hK
 simp only[fnI]at hp hK
 split at hp
 ·exact h _ _ _ hK
 ·exact hp.elim
def fnS (f:List UInt8->Bool):Ab.Fn:=⟨fun vs=>match vs with | [.d (.str _)]=>True | _=>False,fun vs=>match vs with | [.d (.str s)]=>.d (.bool (f s)) | _=>.any⟩
@[simp] theorem fnS_pre (f:List UInt8->Bool)(s:List UInt8):(fnS f).pre [.d (.str s)]=True:=by simp only[fnS]
@[simp] theorem fnS_val (f:List UInt8->Bool)(s:List UInt8):(fnS f).val [.d (.str s)]=.d (.bool (f s)):=by simp only[fnS]
theorem X6g {P:Prg}{k:Nat}{f:List UInt8->Bool}(h:∀s ob (K:V->Prop),K (.d (.bool (f s)))->PCall P k [.d (.str s)] ob K):PFn P k (fnS f):=by
 intro vs hp ob K hK
 simp only[fnS]at hp hK
 split at hp
 ·exact h _ _ _ hK
 ·exact hp.elim

section
variable {P:Prg} (hP:P.p=Tryz.prog)
include hP
theorem Xgn:PFn P 74 (fnI Zk):=Xj6 fun n ob K h=>by
 refine pcall_lift hP mixed (ds:=[.int .u8 n]) Y2h Y06 TOk.nil ?_
 have h':∀b,b=Zk n->K (.d (.bool b)):=fun b e=>e▸h
 simp[Yy2]
 apply h'; rw[Bool.eq_iff_iff]; simp[Zk]; try omega
theorem Xrk:PFn P 77 (fnI Wb):=Xj6 fun n ob K h=>by
 refine pcall_lift hP mixed (ds:=[.int .u8 n]) Y2k Y09 TOk.nil ?_
 have h':∀b,b=Wb n->K (.d (.bool b)):=fun b e=>e▸h
 simp[Yy5]
 apply h'; rw[Bool.eq_iff_iff]; simp[Wb]; try omega
theorem Ybe:PFn P 73 (fnI Jx):=Xj6 fun n ob K h=>by
 refine pcall_lift hP mixed (ds:=[.int .u8 n]) Y2g Y05 TOk.nil ?_
 have h':∀b,b=Jx n->K (.d (.bool b)):=fun b e=>e▸h
 simp[Yy1]
 apply h'; rw[Bool.eq_iff_iff]; simp[Jx]; try omega
theorem X6a:PFn P 75 (fnI U6):=Xj6 fun n ob K h=>by
 refine pcall_lift hP mixed (ds:=[.int .u8 n]) Y2i Y07 (TOk.cons (Xgn hP) (TOk.cons (Xrk hP) TOk.nil)) ?_
 have h':∀b,b=U6 n->K (.d (.bool b)):=fun b e=>e▸h
 simp[Yy3]
 apply h'; rw[Bool.eq_iff_iff]; simp[U6]; try omega
theorem c_Name:PFn P 39 (fnS nameB):=X6g fun s ob K h=>by
 refine pcall_lift hP mixed (ds:=[.str s]) Ywh Y0g TOk.nil ?_
 have h':∀b,b=nameB s->K (.d (.bool b)):=fun b e=>e▸h
 clear h
 simp[Yyj]
 refine⟨fun hne=>h' _ ?_,fun h0 h1=>?_⟩
 ·rcases hne with rfl | h1
  ·simp[nameB]
  ·simp[nameB]; omega
 ·have h0':1<=s.length:=by cases s with | nil=>exact absurd rfl h0 | cons=>simp
  refine ALoop.go (ι:=Nat) (fun k=>[(0,.d (.str s)),(14,.d (.int .i64 s.length)),(15,.d (.int .i64 k))]) (fun _=>[]) (fun k=>k<=s.length/\(∀i,i<k->U6 (s.getD i 0).toNat=true)/\(0<k->Zk (s.getD 0 0).toNat=true)) (fun k=>s.length-k) 0 ⟨by omega,by omega,by omega⟩ (by simp) rfl ?_
  rintro k ⟨hk,hp,hl⟩ R rn re rr _
  simp[X9z]
  simp only[List.getD_eq_getElem?_getD]at hp hl rn
  refine⟨fun hlt=>⟨hlt,fun e1 e2 e3=>rr _ _ ?_,fun e=>rn [] (k+1) _ _ ⟨by omega,fun i hi=>?_,fun _=>?_⟩ (by omega) ?_ rfl rfl rfl⟩,fun hge=>re _ _ _ ?_⟩
  ·simp
   refine h' _ (Eq.symm ?_)
   rw[Bool.eq_false_iff]
   intro hn
   simp only[nameB,Bool.and_eq_true,Xgl,List.getD_eq_getElem?_getD]at hn
   have:=hn.2 k hlt
   have h2:=hn.1.2
   rcases e3 with rfl | e3
   ·simp[Zk]at h2; omega
   ·simp[U6,Zk,Wb]at this; omega
  ·by_cases hi':i=k
   ·subst hi'; simp[U6,Zk,Wb]; omega
   ·exact hp i (by omega)
  ·by_cases h2:k=0
   ·subst h2; simp[Zk]; omega
   ·exact hl (by omega)
  ·simp; exact IntWalk.i64_in _ (by omega)
  ·have hk':k=s.length:=by omega
   subst hk'
   simp
   refine h' _ (Eq.symm ?_)
   simp only[nameB,Bool.and_eq_true,Xgl,List.getD_eq_getElem?_getD]
   exact⟨⟨by simp; omega,hl h0'⟩,hp⟩
end
end Go.Proofs.YtmapdjjigmkbfaaGreatDoor
namespace Go.Sx
open Go Go.Ab Go.Lx
def Xc {α:Type}(f:α->B):List α->B->Int->Int
 | [],_,_=>-1
 | x::r,n,k=>if f x=n then k else Xc f r n (k+1)
theorem J1 {α:Type}(f:α->B)(n:B):∀(l:List α) (j:Nat) (k:Int),j<=l.length->(∀i (h:i<l.length),i<j->f l[i] ≠ n)->Xc f l n k=Xc f (l.drop j) n (k+j)
 | l,0,k,_,_=>by simp
 | [],j+1,k,h,_=>by simp at h
 | x::r,j+1,k,h,hn=>by
  have h0:=hn 0 (by simp) (by omega)
  simp only[List.getElem_cons_zero]at h0
  simp only[Xc,h0,if_false,List.drop_succ_cons]
  rw[J1 f n r j (k+1) (by simpa using h) (fun i hi hj=>by have:=hn (i+1) (by simpa using hi) (by omega); simpa using this)]
  congr 1; push_cast; omega
theorem Wt {α:Type}(f:α->B)(n:B)(l:List α)(j:Nat)(h:j<l.length)(hn:∀i (h:i<l.length),i<j->f l[i] ≠ n)(he:f l[j]=n):Xc f l n 0=j:=by
 rw[J1 f n l j 0 (by omega) hn,List.drop_eq_getElem_cons h]
 simp[Xc,he]
theorem Y7 {α:Type}(f:α->B)(n:B)(l:List α)(hn:∀i (h:i<l.length),f l[i] ≠ n):Xc f l n 0=-1:=by
 rw[J1 f n l l.length 0 (Nat.le_refl _) (fun i hi _=>hn i hi)]
 simp[Xc]
end Go.Sx
namespace Go.Proofs.YtmapdjjigmkbfaaGreatDoor
open Go Go.Ab Go.Lx Go.Sx
section
variable {P:Prg} (hP:P.p=Tryz.prog)
include hP
theorem Jb {l:List RVar}(hl:l.length<=9223372036854775807)(n:B){ob:Objs}{K:V->Prop}(h:K (.d (.int .i64 (Xc RVar.name l n 0)))):PCall P 94 [.d (.list 4 (l.map RVar.enc)),.d (.str n)] ob K:=by
 have wr:∀{k n:Nat},k<n->n<=9223372036854775807->IntKind.i64.wrap ((k:Int)+1)=(k:Int)+1:=fun h1 h2=>IntWalk.i64_in _ (by omega)
 refine pcall_lift hP mixed (ds:=[.list 4 (l.map RVar.enc),.str n]) Yw8 Y1p TOk.nil ?_
 simp[Yzh]
 refine ALoop.go (ι:=Nat) (fun k=>[(1,.d (.str n)),(7,.d (.list 4 (l.map RVar.enc))),(8,.d (.int .i64 l.length)),(9,.d (.int .i64 k))]) (fun _=>[]) (fun k=>k<=l.length/\∀i (h:i<l.length),i<k->l[i].name ≠ n) (fun k=>l.length-k) 0 ⟨Nat.zero_le _,fun i _ h=>by omega⟩ (by simp) (by simp) ?_
 rintro k ⟨hk,hn⟩ R rn re rr rp
 by_cases hlt:k<l.length
 ·simp[Xvz,hlt,RVar.enc]
  refine⟨fun e=>rr _ _ ?_,fun e=>rn [] (k+1) _ _ ⟨by omega,fun i hi hj=>?_⟩ (by omega) (by simp[wr hlt hl]) (by simp[young]) (by simp[young]) (by simp[young])⟩
  ·simp
   rw[Wt RVar.name n l k hlt hn e]at h
   exact h
  ·rcases Nat.lt_or_ge i k with h1 | h1
   ·exact hn i hi h1
   ·have:i=k:=by omega
    subst this; exact e
 ·have:k=l.length:=by omega
  subst this
  simp[Xvz]
  refine re _ _ _ ?_
  simp
  rw[Y7 RVar.name n l (fun i hi=>hn i hi hi)]at h
  exact h
end
end Go.Proofs.YtmapdjjigmkbfaaGreatDoor
namespace Go.Ab
open Go
def Xjt (n:Nat)(rs:List RV)(K:Out->Objs->Prop):Uc
 | .normal,sl,ob=>Ub sl ob rs fun vs=>X0 n (K (.ret (Ur vs))) vs ob
 | .ret,sl,ob=>Ub sl ob rs fun vs=>X0 n (K (.ret (Ur vs))) vs ob
 | .panic v,_,ob=>X0 n (K (.panic v)) [v] ob
 | .exit _,_,_=>False
section
variable {n k:Nat} {sl:Xb} {ob:Objs} {v:V}
@[simp] theorem callN_r (rs:List RV)(KU:Out->Objs->Prop):Xjt n rs KU .ret sl ob=Ub sl ob rs fun vs=>X0 n (KU (.ret (Ur vs))) vs ob:=by simp only[Xjt]
@[simp] theorem callN_p (rs:List RV)(KU:Out->Objs->Prop):Xjt n rs KU (.panic v) sl ob=X0 n (KU (.panic v)) [v] ob:=by simp only[Xjt]
end
theorem Xdm {P:Prg}(hm:P.p.follows .mixedOrders=true){f:Nat}{s:S}{rs:List RV}{vs:List V}{ob:Objs}{K:Out->Objs->Prop}(hc:Xt P.p f vs.length s rs=true)
  (h:cwp P s (Xjt (fresh ob) rs K) (Xab 0 vs) ob):ACall P f vs ob K:=by
 unfold Xt at hc
 split at hc
 ·rename_i fn hf
  split at hc
  ·rename_i code hb
   simp only[Bool.and_eq_true,decide_eq_true_eq]at hc
   obtain⟨⟨hn,h1⟩,h2⟩:=hc
   refine⟨fun w ρ args hO hg hr=>calls_of_wp hf hb ?_⟩
   let c:Ctx:=⟨w,Xsi ρ,fn.ntmps,[],P.g,ρ.m,[]⟩
   have hlen:args.length=vs.length:=by simpa using Wm hr
   have m:Mod c ρ.xo ρ (Xab 0 vs) ob { tmps:=args.toArray++Array.replicate (fn.ntmps-args.toArray.size) undef,defers:=[] } w:=by
    refine⟨⟨Nat.le_refl _,fun _ _ _=>rfl,fun b h=>.inr h,rfl,rfl,rfl,fun id o h=>⟨o,h,.refl o⟩,(fun p hp=>by cases hp)⟩,hO,?_,?_,rfl,rfl,hg⟩
    ·refine Xac hr 0 _ (fun i hi=>?_)
     simp[Array.getElem?_append,hi]
    ·simp[c]; omega
   refine wp_mono (Yz hm rfl code s _ _ _ ρ _ w h1 h m) ?_
   rintro e a' w' ⟨ae,sl',ob',ρ',hq,he,m'⟩
   have old:∀kp id o,ρ.m id=some o->young (fresh ob) kp id=false:=fun kp id o h0=>by
    obtain⟨x,hx⟩:=hO.dom id o h0
    have hlt:¬fresh ob<=id:=fun hle=>by rw[Yn _ _ hle]at hx; cases hx
    simp[young,hlt]
   have tr:∀{ρ2:Env},Tr w' ρ' w' ρ2->∀kp,Tr w ρ w' (ρ2.del (young (fresh ob) kp)):=fun {ρ2} t kp=>by
    have b2:=m'.base.tr t
    refine⟨b2.size,fun b h1 h2=>b2.keep b h2 h1,fun b h1=>(b2.owns b (Jd h1)).symm,?_,?_,fun id o h1=>?_,b2.tape,b2.os,b2.out⟩
    ·show ρ2.xo=ρ.xo; rw[t.xo,m'.xo]
    ·show ρ2.gl=ρ.gl; rw[t.gl,m'.gl,hg]
    ·obtain⟨o',h3,h4⟩:=b2.same id o h1
     exact⟨o',by simp only[Env.del,old kp id o h1]; exact h3,h4⟩
   have hfin:Ub sl' ob' rs (fun vs=>X0 (fresh ob) (K (.ret (Ur vs))) vs ob')->a'.defers=[]/\∃v,(results fn a'.tmps).run P.p w'=.ok v w'/\∃out ob2 ρ2,K out ob2/\Xv4 w' ρ2 (.returned v) out/\OM w' ρ2 ob2/\Tr w ρ w' ρ2:=by
    intro hq
    obtain⟨vs,us,hk,hrep,hrun⟩:=U8 (P:=P.p) (fn:=fn) m'.sm m'.om h2 hq
    obtain⟨kp,k1,k2,k3⟩:=hk
    exact⟨m'.df,X0x us,hrun,.ret (Ur vs),_,_,k3,Xa9 (Xle k1 hrep),m'.om.del k2,tr (Tr.refl _ _) kp⟩
   cases ae with
   | normal=>
    cases e<;>simp only[exM]at he
    exact hfin hq
   | ret=>
    cases e<;>simp only[exM]at he
    exact hfin hq
   | exit n=>exact hq.elim
   | panic v=>
    cases e<;>simp only[exM]at he
    obtain⟨u,rfl,hu⟩:=he
    obtain⟨kp,k1,k2,k3⟩:=hq
    simp only[V.mens,Bool.or_false]at k1
    exact⟨m'.df,.panic v,_,_,k3,⟨u,rfl,V.rep_del k1 hu⟩,m'.om.del k2,tr (Tr.refl _ _) kp⟩
  ·simp at hc
 ·simp at hc

theorem Xdl {P:Prg}{p:Program}(hP:P.p=p)(hm:p.follows .mixedOrders=true){f:Nat}{s:S}{rs:List RV}{vs:List V}{ob:Objs}{K:Out->Objs->Prop}{fs:List Nat}{s2:S2}{T:Tab}(hc:Xt p f vs.length s rs=true)(hl:s.lift fs=some s2)(hT:TOk P T)
  (h:(∀kp,V.mens (young (fresh ob) kp) vs=false)->(∀kp,noMenO (young (fresh ob) kp) ob=true)->Ze P T s2 (Xjt (fresh ob) rs K) (Xab 0 vs) ob):ACall P f vs ob K:=
 ACall.of_wf fun h1 h2=>by subst hP; exact Xdm hm hc (S.lift_sound hT s hl (fun _ _ _ h=>h) (h h1 h2))
end Go.Ab
namespace Go.Proofs.YtmapdjjigmkbfaaGreatDoor
open Go Go.Ab Go.Lx Go.Sx
section
variable {P:Prg} (hP:P.p=Tryz.prog)
include hP
theorem Yms:Xk P.p 93=true:=by rw[hP]; kernel_rfl
theorem Ymr:Xk P.p 126=true:=by rw[hP]; kernel_rfl
theorem Yra {x:RPurpose}{ob:Objs}{K:Out->Objs->Prop}(h:K (.ret (.d (.str x.name))) ob):ACall P 93 [.d x.enc] ob K:=
 PCall.acall (by
  refine pcall_lift hP mixed (ds:=[x.enc]) Yw7 Y1o TOk.nil ?_
  simp[Yzg,RPurpose.enc]
  exact h)
abbrev obF (o:Ob)(n:B):Objs:=[(2,.box 9 (.d (.str n))),(1,.box 187 (.fn 93 [] [])),(0,o)]
theorem Yzm {x:RPurpose}{n:B}{o:Ob}{K:Out->Objs->Prop}(h:K (.ret (.d (.bool (x.name==n)))) (obF o n)):ACall P 126 [.d x.enc,.ptr 1 [],.ptr 2 []] (obF o n) K:=by
 refine acall_lift hP mixed Yjk Yow TOk.nil fun _ hm=>?_
 simp[Ylu,Yms hP]
 have hn:=hm []
 simp[fresh]at hn
 refine⟨by rw[D.size_shape]; simp[RPurpose.enc,D.sz,D.szs],by simp[RPurpose.enc],Yra hP ?_,Yra hP ?_⟩
 ·simp
  refine⟨[],by simp,?_,?_⟩
  ·simp[young]; simpa[young]using hn
  ·simpa[young]using h
 ·simp
  refine⟨[],by simp,?_,?_⟩
  ·simp[young]; simpa[young]using hn
  ·simpa[young]using h
theorem Ymm {l:List RPurpose}(hl:l.length<=9223372036854775807){n:B}{o:Ob}{K:Out->Objs->Prop}(h:K (.ret (.d (.int .i64 (Xc RPurpose.name l n 0)))) (obF o n)):ACall P 125 [.d (.list 3 (l.map RPurpose.enc)),.fn 126 [] [.ptr 1 [],.ptr 2 []]] (obF o n) K:=by
 have wr:∀{k n:Nat},k<n->n<=9223372036854775807->IntKind.i64.wrap ((k:Int)+1)=(k:Int)+1:=fun h1 h2=>IntWalk.i64_in _ (by omega)
 refine acall_lift hP mixed Yjj Yov TOk.nil fun _ hm=>?_
 have hno:=hm []
 simp[fresh]at hno
 have lv:∀{v:V},V.mens (young 3 []) [v]=false->K (.ret v) (obF o n)->X0 3 (K (.ret v)) [v] (obF o n):=fun h1 h2=>⟨[],h1,by simpa[young]using hno,by simpa[young]using h2⟩
 simp[Ylt]
 refine ALoop.go (ι:=Nat) (fun k=>[(0,.d (.list 3 (l.map RPurpose.enc))),(1,.fn 126 [] [.ptr 1 [],.ptr 2 []]),(7,.d (.int .i64 l.length)),(8,.d (.int .i64 k))]) (fun _=>obF o n) (fun k=>k<=l.length/\∀i (h:i<l.length),i<k->l[i].name ≠ n) (fun k=>l.length-k) 0 ⟨Nat.zero_le _,fun i _ h=>by omega⟩ (by simp) (by simp) ?_
 rintro k ⟨hk,hn⟩ R rn re rr rp
 by_cases hlt:k<l.length
 ·simp[Xqx,hlt,Ymr hP]
  refine⟨⟨by simp[RPurpose.enc,D.sz,D.szs],by simp[RPurpose.enc]⟩,Yzm hP ?_⟩
  by_cases e:l[k].name=n
  ·simp[Xqy,e]
   refine rr _ _ ?_
   simp
   rw[Wt RPurpose.name n l k hlt hn e]at h
   exact lv (by simp) h
  ·have e':(l[k].name==n)=false:=by simpa using e
   simp[Xqy,X2m,e']
   refine rn [] (k+1) _ _ ⟨by omega,fun i hi hj=>?_⟩ (by omega) (by simp[wr hlt hl]) (by simp[young]) (by simp[young]) (by simpa[young]using hno)
   rcases Nat.lt_or_ge i k with h1 | h1
   ·exact hn i hi h1
   ·have:i=k:=by omega
    subst this; exact e
 ·have:k=l.length:=by omega
  subst this
  simp[Xqx]
  refine re _ _ _ ?_
  simp
  rw[Y7 RPurpose.name n l (fun i hi=>hn i hi hi)]at h
  exact lv (by simp) h
def Yo (i:Int):V:=if i<0 then .tup [.d (.int .i64 0),.d (.bool false)] else .tup [.d (.int .i64 i),.d (.bool true)]
theorem Yaw {l:List RPurpose}(hl:l.length<=9223372036854775807){n:B}{o:Ob}{K:Out->Objs->Prop}(h:K (.ret (Yo (Xc RPurpose.name l n 0))) [(0,o)]):ACall P 92 [.d (.list 3 (l.map RPurpose.enc)),.fn 93 [] [],.d (.str n)] [(0,o)] K:=by
 refine acall_lift hP mixed Yw6 Y1n TOk.nil fun _ hm=>?_
 have hno:=hm []
 simp[fresh]at hno
 simp[Yzf]
 refine Ymm hP hl ?_
 simp[Yat]
 unfold Yo at h
 constructor
 ·intro hi
  simp only[hi,if_true]at h
  exact⟨[],by simp,by simpa[young]using hno,by simpa[young]using h⟩
 ·intro hi
  rw[if_neg (by omega)]at h
  exact⟨[],by simp,by simpa[young]using hno,by simpa[young]using h⟩
theorem Xjr {y:RSrc}(hl:y.purposes.length<=9223372036854775807){n:B}{ob:Objs}{K:V->Prop}(h:K (Yo (Xc RPurpose.name y.purposes n 0))):PCall P 40 [.d y.enc,.d (.str n)] ob K:=by
 refine pcall_lift hP mixed (ds:=[y.enc,.str n]) Ywi Y0h TOk.nil ?_
 simp[Yyk,RSrc.enc,Xg]
 refine Yaw hP hl ?_
 unfold Yo at h⊢
 split at h
 ·rename_i hi
  simp[hi]
  exact h
 ·rename_i hi
  simp[hi]
  exact h
end
end Go.Proofs.YtmapdjjigmkbfaaGreatDoor
