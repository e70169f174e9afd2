/- Joined texts, part 2 of 13. That append does what Ab9 says of it. Over any program; no condition. -/
import Derived.Test.YtghnkpkellnmdaaGreatDoorI1
set_option linter.unusedSimpArgs false
set_option linter.unusedVariables false
set_option linter.unusedSectionVars false
set_option linter.defProp false
namespace Go.Ab
open Go
def AA:AF->Nat
|[]=>0
|(j,_)::r=>if AA r<=j then j+1 else AA r
def X9:∀(a:AF)(j:Nat),AA a<=j->AB a j=none
|[],_,_=>rfl
|(i,o)::r,j,h=>by
 simp only[AA]at h;simp only[AB];split at h
 ·rw[Aq (by omega)];exact X9 r j (by omega)
 ·rw[Aq (by omega)];exact X9 r j h
def X0(a:AF):AB a (AA a)=none:=X9 a _ (Bg _)
def TZ(c:AF)(id n:Nat):Option Ob->Option (D×AF)
|some (.BG _ a b)=>if a≠0/\n=b.length then some (.AH a b,AG c id .An) else none
|_=>none
def FX:Option (List D×AF)->Option (D×AF)
|some (l,a)=>some (.agg l,a)
|none=>none
def RP(t:Nat):Option (D×AF)->Option (D×AF)
|some (x,a)=>some (.iface t x,a)
|none=>none
def Kd(f:Nat)(a:AF):Option (List D)->Option (List D)->Option (D×AF)
|some l,some m=>some (.fn f l m,a)
|_,_=>none
def Qg(x:D):Option (List D×AF)->Option (List D×AF)
|some (l,a)=>some (x::l,a)
|none=>none
mutual
def Du(c:AF):V->Option (D×AF)
|.d x=>some (x,c)
|.sl id n=>TZ c id n (AB c id)
|.agg e=>FX (D1 c e)
|.iface t x=>RP t (Du c x)
|.fn f a b=>Kd f c (CA a) (CA b)
|_=>none
def D1(b:AF):List V->Option (List D×AF)
|[]=>some ([],b)
|x::r=>match Du b x with
 |some (y,a)=>Qg y (D1 a r)
 |none=>none
end
section
variable {w:World}
def xi{n:A9}{f:Nat}{a b:List V}{k c:AF}{d:D}{j:List Value}(h:(V.fn f a b).Al w n j)(e:Kd f k (CA a) (CA b)=some (d,c)):c=k/\d.Ax w (CH n) j/\d.isAgg=false:=by
 cases g:CA a with
 |none=>simp[g,Kd]at e
 |some l=>
  cases i:CA b with
  |none=>simp[g,i,Kd]at e
  |some m=>
   simp only[g,i,Kd,CJ,GH]at e;obtain⟨rfl,rfl⟩:=e;have r:=V.CI g;have s:=V.CI i;subst r;subst s;simp only[V.Al]at h;obtain⟨p,q,o,t,u⟩:=h;exact⟨rfl,by simp only[D.Ax];exact⟨p,q,o,QY.1 t,QY.1 u⟩,rfl⟩
mutual
def Rp:∀(v:V)(j:AF)(i:A9)(z:List Value)(d:D)(g:AF),OM w i j->v.Al w i z->Du j v=some (d,g)->
 ∃c,Tr w i w c/\OM w c g/\d.Ax w (CH c) z/\d.isAgg=v.isAgg
|.d x,j,i,z,J,g,k,h,e=>by
 simp only[Du,CJ,GH]at e;obtain⟨rfl,rfl⟩:=e;exact⟨i,Tr.refl _ _,k,by simpa only[V.Al]using h,by cases x<;>rfl⟩
|.sl id n,j,i,z,J,g,k,h,e=>by
 simp only[Du]at e;unfold TZ at e;split at e
 ·rename_i E Y O U;split at e
  next W=>simp only[CJ,GH]at e;obtain⟨rfl,rfl⟩:=e;obtain⟨N,rfl⟩:=W;obtain⟨H,X,_⟩:=Sj k ⟨_,U⟩;have T:=h;simp only[V.Al]at T;obtain⟨o,u,F,rfl,K⟩:=T;have:=SN k U N (u:=u) (by rw[Y3];exact⟨o,F,K⟩);refine⟨_,H,X,?_,rfl⟩;rw[W6 (by simp[V.isAgg]) (by simp)]at this;simpa only[V.Al]using this
  ·cases e
 ·cases e
|.agg O,j,i,z,J,g,k,h,e=>by
 simp only[Du]at e;cases m:D1 j O with
 |none=>simp[m,FX]at e
 |some r=>
  obtain⟨l,s⟩:=r;simp only[m,FX,CJ,GH]at e;obtain⟨rfl,rfl⟩:=e;simp only[V.Al]at h;obtain⟨c,t,o,G⟩:=r4 O j i z l s k h m;exact⟨c,t,o,by simpa only[D.Ax]using G,rfl⟩
|.iface t x,j,i,z,J,g,k,h,e=>by
 simp only[Du]at e;cases m:Du j x with
 |none=>simp[m,RP]at e
 |some r=>
  obtain⟨y,s⟩:=r;simp only[m,RP,CJ,GH]at e;obtain⟨rfl,rfl⟩:=e;simp only[V.Al]at h;obtain⟨u,Q,F⟩:=h;rcases F with F|⟨p,P,q,r⟩|⟨p,r⟩
  ·subst F;simp[Du]at m
  ·obtain⟨c,H,o,G,L⟩:=Rp x j i P y s k r m;exact⟨c,H,o,by simp only[D.Ax];exact⟨u,Q,.inl ⟨by rw[L];exact p,P,q,G⟩⟩,rfl⟩
  ·obtain⟨c,H,o,G,L⟩:=Rp x j i [u] y s k r m;exact⟨c,H,o,by simp only[D.Ax];exact⟨u,Q,.inr ⟨by rw[L];exact p,G⟩⟩,rfl⟩
|.fn f a b,j,i,z,J,g,k,h,e=>by
 simp only[Du]at e;obtain⟨rfl,F,K⟩:=xi h e;exact⟨i,Tr.refl _ _,k,F,by rw[K];rfl⟩
|.ptr _ _,_,_,_,_,_,_,_,e|.sd _ _,_,_,_,_,_,_,_,e|.mp _,_,_,_,_,_,_,_,e|.hd _ _,_,_,_,_,_,_,_,e|.ep _ _ _ _ _ _,_,_,_,_,_,_,_,e|.bs _ _ _ _,_,_,_,_,_,_,_,e|.BT _,_,_,_,_,_,_,_,e|.undef,_,_,_,_,_,_,_,e|.any,_,_,_,_,_,_,_,e=>by simp[Du]at e
def r4:∀(v:List V)(g:AF)(d:A9)(i:List Value)(l:List D)(a:AF),OM w d g->Bz w d v i->D1 g v=some (l,a)->
 ∃f,Tr w d w f/\OM w f a/\Bq w (CH f) l i
|[],g,d,i,l,a,j,h,e=>by
 simp only[D1,CJ,GH]at e;obtain⟨rfl,rfl⟩:=e;exact⟨d,Tr.refl _ _,j,by simpa only[Bz,Bq]using h⟩
|x::r,g,d,i,l,a,j,h,e=>by
 simp only[D1]at e;simp only[Bz]at h;obtain⟨p,s,rfl,z,F⟩:=h;split at e
 ·rename_i y c G;obtain⟨n,t,K,H,_⟩:=Rp x g d p y c j z G;cases b:D1 c r with
  |none=>simp[b,Qg]at e
  |some q=>
   obtain⟨J,m⟩:=q;simp only[b,Qg,CJ,GH]at e;obtain⟨rfl,rfl⟩:=e;obtain⟨o,u,L,k⟩:=r4 r c n s J m K (HJ t _ _ F) b;exact⟨o,t.trans u,L,by simp only[Bq];exact⟨p,s,rfl,Ho u.mono _ _ H,k⟩⟩
 ·cases e
end
def VP{c:A9}{f b:AF}{v:V}{d:D}{u:Value}(l:OM w c f)(h:v.Ax w c u)(e:Du f v=some (d,b)):∃a,Tr w c w a/\OM w a b/\(V.d d).Ax w a u:=by
 rcases h with h|⟨p,k,q,r⟩|⟨p,r⟩
 ·subst h;simp[Du]at e
 ·obtain⟨a,j,o,i,g⟩:=Rp v f c k d b l r e;exact⟨a,j,o,Ii.2 (.inl ⟨by rw[g];exact p,k,q,i⟩)⟩
 ·obtain⟨a,j,o,i,g⟩:=Rp v f c [u] d b l r e;exact⟨a,j,o,Ii.2 (.inr ⟨by rw[g];exact p,i⟩)⟩
end
def E8(g:AF->V->Option (D×AF)):AF->List V->Option (List D×AF)
|a,[]=>some ([],a)
|a,x::r=>match g a x with
 |some (y,b)=>Qg y (E8 g b r)
 |none=>none
def pR(id b:Nat)(l:List D)(a:AF):Option Ob->Option (D×AF)
|some (.Ay _ _ _)=>some (.AH b l,AG a id .An)
|_=>none
def YF(id b:Nat):Option (List D×AF)->Option (D×AF)
|some (l,a)=>pR id b l a (AB a id)
|none=>none
def RN(g:AF->V->Option (D×AF))(c:AF)(id n:Nat):Option Ob->Option (D×AF)
|some (.BG _ a b)=>if a≠0/\n=b.length then some (.AH a b,AG c id .An) else none
|some (.Ay _ a b)=>if a≠0/\n=b.length then YF id a (E8 g c b) else none
|_=>none
def DC:Nat->AF->V->Option (D×AF)
|0,_,_=>none
|k+1,c,v=>match v with
 |.d x=>some (x,c)
 |.sl id n=>RN (DC k) c id n (AB c id)
 |.agg e=>FX (E8 (DC k) c e)
 |.iface t x=>RP t (DC k c x)
 |.fn f a b=>Kd f c (CA a) (CA b)
 |_=>none
section
variable {w:World}
def Zfv(g:AF->V->Option (D×AF))(w:World):Prop:=∀(v:V)(c:AF)(e:A9)(f:List Value)(d:D)(a:AF),OM w e c->v.Al w e f->g c v=some (d,a)->
 (∃b,Tr w e w b/\OM w b a/\d.Ax w (CH b) f/\d.isAgg=v.isAgg)/\∀j,AB a j=AB c j\/AB a j=some .An
def yV{a:AF}{id j:Nat}{x:Ob}(b:AB a id=some x):AB (AG a id .An) j=AB a j\/AB (AG a id .An) j=some .An:=by
 rw[Xb a id j ⟨_,b⟩];split
 ·exact .inr rfl
 ·exact .inl rfl
def dH{g:AF->V->Option (D×AF)}(G:Zfv g w):∀(t:List V)(i:AF)(d:A9)(m:List Value)(l:List D)(a:AF),OM w d i->Bz w d t m->E8 g i t=some (l,a)->
 (∃f,Tr w d w f/\OM w f a/\Bq w (CH f) l m/\l.map D.sz=t.map V.size)/\∀j,AB a j=AB i j\/AB a j=some .An
|[],i,d,m,l,a,n,h,e=>by
 simp only[E8,CJ,GH]at e;obtain⟨rfl,rfl⟩:=e;exact⟨⟨d,Tr.refl _ _,n,by simpa only[Bz,Bq]using h,rfl⟩,λ_=>.inl rfl⟩
|x::r,i,d,m,l,a,n,h,e=>by
 simp only[E8]at e;simp only[Bz]at h;obtain⟨y,z,rfl,F,N⟩:=h;split at e
 ·rename_i L c O;obtain⟨⟨u,J,T,H,_⟩,P⟩:=G x i d y L c n F O;cases b:E8 g c r with
  |none=>simp[b,Qg]at e
  |some q=>
   obtain⟨Q,s⟩:=q;simp only[b,Qg,CJ,GH]at e;obtain⟨rfl,rfl⟩:=e;obtain⟨⟨v,K,U,o,p⟩,k⟩:=dH G r c u z Q s T (HJ J _ _ N) b;refine⟨⟨v,J.trans K,U,by simp only[Bq];exact⟨y,z,rfl,Ho K.mono _ _ H,o⟩,?_⟩,λj=>?_⟩
   ·simp only[Cw,p,HN,Gg];rw[<-HI _ _ H,FQ _ _ F];rfl
   ·rcases k j with k|k
    ·rw[k];exact P j
    ·exact .inr k
 ·cases e
def sD{b:A9}{id n:Nat}{a:List Value}(h:(V.sl id n).Al w b a):∃o u,b.m id=some o/\a=[u]/\o.slice n u:=by
 simpa only[V.Al]using h
def dG:∀(k:Nat),Zfv (DC k) w
|0=>λv L N cs d ae _ _ e=>by simp[DC]at e
|k+1=>λv L N cs dd ae J h e=>by
 have ih:=dG k;cases v with
 |d x=>
  simp only[DC,CJ,GH]at e;obtain⟨rfl,rfl⟩:=e;exact⟨⟨N,Tr.refl _ _,J,by simpa only[V.Al]using h,by cases x<;>rfl⟩,λ_=>.inl rfl⟩
 |agg H=>
  simp only[DC]at e;cases s:E8 (DC k) L H with
  |none=>simp[s,FX]at e
  |some r=>
   obtain⟨l,c⟩:=r;simp only[s,FX,CJ,GH]at e;obtain⟨rfl,rfl⟩:=e;simp only[V.Al]at h;obtain⟨⟨g,t,o,T,_⟩,K⟩:=dH ih H L N cs l c J h s;exact⟨⟨g,t,o,by simpa only[D.Ax]using T,rfl⟩,K⟩
 |iface t x=>
  simp only[DC]at e;cases s:DC k L x with
  |none=>simp[s,RP]at e
  |some r=>
   obtain⟨y,c⟩:=r;simp only[s,RP,CJ,GH]at e;obtain⟨rfl,rfl⟩:=e;simp only[V.Al]at h;obtain⟨u,e1,O⟩:=h;rcases O with O|⟨p,ds,q,r⟩|⟨p,r⟩
   ·subst O;cases k<;>simp[DC]at s
   ·obtain⟨⟨g,G,o,T,ha⟩,K⟩:=ih x L N ds y c J r s;exact⟨⟨g,G,o,by simp only[D.Ax];exact⟨u,e1,.inl ⟨by rw[ha];exact p,ds,q,T⟩⟩,rfl⟩,K⟩
   ·obtain⟨⟨g,G,o,T,ha⟩,K⟩:=ih x L N [u] y c J r s;exact⟨⟨g,G,o,by simp only[D.Ax];exact⟨u,e1,.inr ⟨by rw[ha];exact p,T⟩⟩,rfl⟩,K⟩
 |fn f a b=>
  simp only[DC]at e;obtain⟨rfl,O,h2⟩:=xi h e;exact⟨⟨N,Tr.refl _ _,J,O,by rw[h2];rfl⟩,λ_=>.inl rfl⟩
 |sl id n=>
  simp only[DC]at e;unfold RN at e;split at e
  ·rename_i E X H Y;split at e
   next hc=>simp only[CJ,GH]at e;obtain⟨rfl,rfl⟩:=e;obtain⟨U,rfl⟩:=hc;obtain⟨G,W,_⟩:=Sj J ⟨_,Y⟩;obtain⟨o,u,O,rfl,h2⟩:=sD h;have:=SN J Y U (u:=u) (by rw[Y3];exact⟨o,O,h2⟩);refine⟨⟨_,G,W,?_,rfl⟩,λj=>yV Y⟩;rw[W6 (by simp[V.isAgg]) (by simp)]at this;simpa only[V.Al]using this
   ·cases e
  ·rename_i E X H Y;split at e
   ·rename_i hc;obtain⟨U,rfl⟩:=hc;cases s:E8 (DC k) L H with
    |none=>simp[s,YF]at e
    |some r=>
     obtain⟨l,c⟩:=r;simp only[s,YF]at e;unfold pR at e;split at e
     ·rename_i E' af ag z;simp only[CJ,GH]at e;obtain⟨rfl,rfl⟩:=e;obtain⟨o,u,O,rfl,h2⟩:=sD h;have Cq:∀(i:A9),Tr w N w i->OM w i c->Je w i id (.BG E X l)->l.length=H.length->(∀j,AB c j=AB L j\/AB c j=some .An)->
       (∃g,Tr w N w g/\OM w g (AG c id .An)/\(D.AH X l).Ax w (CH g) [u]/\(D.AH X l).isAgg=(V.sl id H.length).isAgg)/\∀j,AB (AG c id .An) j=AB L j\/AB (AG c id .An) j=some .An:=by
       intro i G W hm F K;have o2:=W.swap z hm;have aa:AB (AG c id (.BG E X l)) id=some (.BG E X l):=by rw[Xb c id id ⟨_,z⟩];simp
       obtain⟨t3,o3,_⟩:=Sj o2 ⟨_,aa⟩;rw[Yh]at o3;have hv:(V.sl id l.length).Ax w i u:=Gw G (by rw[F,Y3];exact⟨o,O,h2⟩);have h4:=SN o2 aa U hv;refine⟨⟨_,G.trans t3,o3,?_,rfl⟩,λj=>?_⟩
       ·rw[W6 (by simp[V.isAgg]) (by simp)]at h4;simpa only[V.Al]using h4
       ·rcases yV (j:=j) z with P|P
        ·rw[P];exact K j
        ·exact .inr P
      rcases J.BW id _ Y with⟨ac,rfl⟩|⟨b,Z,cs,sp,g1,g2,g3,g4,g5⟩
      ·simp only[E8,CJ,GH]at s;obtain⟨rfl,rfl⟩:=s;exact Cq N (Tr.refl _ _) J (.inl ⟨ac,rfl⟩) rfl (λ_=>.inl rfl)
      ·obtain⟨⟨i,G,W,T,hs⟩,K⟩:=dH ih H L N cs l c J g3 s;have F:l.length=H.length:=by simpa using Cc List.length hs
       have ad:(Ob.Ay E' af ag)=.Ay E X H:=by
        rcases K id with P|P
        ·rw[z,Y]at P;exact GI P
        ·rw[z]at P;cases P
       cases ad;obtain⟨o',p1,p2⟩:=G.same id _ g1;have ab:i.m id=some (.BG b H.length Z):=by
        cases p2 with
        |refl=>exact p1
        |An=>rcases W.BW id _ z with⟨Q,_⟩|⟨_,_,_,_,Q,_⟩<;>(rw[p1]at Q;cases Q)
        |grow ah hh=>
         rcases hh with⟨hq,_⟩|⟨b2,c2,hq⟩
         ·cases hq
         ·simp only[RO.BG.injEq]at hq;rcases W.BW id _ z with⟨Q,_⟩|⟨_,_,_,_,Q,_⟩
          ·rw[p1]at Q;cases Q
          ·rw[p1]at Q;simp only[CJ,RO.BG.injEq]at Q;omega
       refine Cq i G W (.inr ⟨b,Z,cs,sp,by rw[F];exact ab,g2,T,λx hx=>?_,g5⟩) F K;have h6:x.sz∈l.map D.sz:=List.mem_map_of_mem hx;rw[hs]at h6;obtain⟨y,hy,h7⟩:=DY.1 h6;rw[<-h7];exact g4 y hy
     ·cases e
   ·cases e
  ·cases e
 |_=>simp[DC]at e
end
inductive BN where
|ret (v:V)
|panic (v:V)
def Vz(w:World)(a:A9):Ending->BN->Prop
|.returned u,.ret v=>v.Ax w a u
|.panicked b,.panic v=>∃u,b=[{v:=u,recovered:=false}]/\v.Ax w a u
|_,_=>False
structure BA where
 p:Program
 g:Gl
structure AX(P:BA)(f:Nat)(vs:List V)(ob:AF)(K:BN->AF->Prop):Prop where
 run:∀w ρ args,OM w ρ ob->ρ.gl=P.g->V.A8 w ρ vs args->Calls P.p f args.toArray w (λe w'=>∃Ck ob' ρ',K Ck ob'/\Vz w' ρ' e Ck/\OM w' ρ' ob'/\Tr w ρ w' ρ')
def AX.mono{P:BA}{f:Nat}{j:List V}{i:AF}{K g:BN->AF->Prop}(h:AX P f j i K)(m:∀o b,K o b->g o b):AX P f j i g:=
 ⟨λw q a n l p=>(h.run w q a n l p).mono λ_ _ ⟨d,c,e,k,r⟩=>⟨d,c,e,m _ _ k,r⟩⟩
structure AW(P:BA)(f:Nat)(vs:List V)(ob:AF)(K:V->Prop):Prop where
 run:∀w ρ args,OM w ρ ob->ρ.gl=P.g->V.A8 w ρ vs args->Calls P.p f args.toArray w (λe w'=>∃v u,K v/\e=.returned u/\v.Ax w' ρ u/\B5 w w')
structure Cm(P:BA)(f:Nat)(vs:List V)(ob:AF)(K:V->AF->Prop):Prop where
 run:∀w ρ args,OM w ρ ob->ρ.gl=P.g->V.A8 w ρ vs args->Calls P.p f args.toArray w (λe w'=>∃v ob' ρ' u,K v ob'/\e=.returned u/\v.Ax w' ρ' u/\OM w' ρ' ob'/\Tr w ρ w' ρ'/\B5 w w')
def Cm.mono{P:BA}{f:Nat}{g:List V}{e:AF}{K d:V->AF->Prop}(h:Cm P f g e K)(j:∀v b,K v b->d v b):Cm P f g e d:=
 ⟨λw n a l i m=>(h.run w n a l i m).mono λ_ _ ⟨v,b,c,u,k,r⟩=>⟨v,b,c,u,j v b k,r⟩⟩
def AW.mono{P:BA}{f:Nat}{d:List V}{c:AF}{K b:V->Prop}(h:AW P f d c K)(g:∀v,K v->b v):AW P f d c b:=
 ⟨λw l a i e j=>(h.run w l a i e j).mono λ_ _ ⟨v,u,k,r⟩=>⟨v,u,g v k,r⟩⟩
def AW.CS{P:BA}{f:Nat}{d:List V}{b:AF}{K:BN->AF->Prop}(h:AW P f d b λv=>K (.ret v) b):AX P f d b K:=
 ⟨λw g a c j l=>(h.run w g a c j l).mono λe m ⟨v,u,k,i,r,x⟩=>by subst i;exact⟨.ret v,b,g,k,r,c.ext x,x.tr⟩⟩
structure Cz(P:BA)(id:Nat)(vs:List V)(ob:AF)(K:BN->AF->Prop):Prop where
 run:∀w ρ args b,OM w ρ ob->ρ.gl=P.g->V.A8 w ρ vs args->ρ.m id=some (.map b)->
  ∃fn tmps assign body,(Instr.yield b args.toArray).run P.p w=.ok (.round b fn tmps assign body) w/\
   RoundIn Fence.wide 0 P.p b fn tmps assign body w (λe w'=>∃Ck ob' ρ',K Ck ob'/\Vz w' ρ' e Ck/\OM w' ρ' ob'/\Tr w ρ w' ρ')
def Cz.mono{P:BA}{id:Nat}{i:List V}{g:AF}{K f:BN->AF->Prop}(h:Cz P id i g K)(t:∀o b,K o b->f o b):Cz P id i g f:=
 ⟨λw y a b u s v q=>let ⟨m,x,j,l,n,p⟩:=h.run w y a b u s v q;⟨m,x,j,l,n,p.mono λ_ _ ⟨d,c,e,k,r⟩=>⟨d,c,e,t _ _ k,r⟩⟩⟩
def S7:Option Ob->Prop
|some (.lp _ _ _)=>True
|_=>False
def Xd(P:Program)(f:Nat):Bool:=match P.funcs[f]? with
|some a=>a.name != "runtime.NumGoroutine" &&a.body.isSome
|none=>false
def Fs(K b:V->AF->Prop):BN->AF->Prop
|.ret v,a=>K v a
|.panic v,a=>b v a
def I0(E:Nat)(a:AF)(K:V->AF->Prop)(v:V):Prop:=v.Gs=true/\K (.ptr (AA a) []) ((AA a,.box E v)::a)
def MY(c:AF)(id:Nat)(p:List Nat)(n E:Nat)(v t:V)(K:V->AF->Prop):Option V->Prop
|some a=>v.shape=a.shape/\a.size=n/\v.Gs=true/\∃b,t.set p v=some b/\K .undef (AG c id (.box E b))
|none=>False
def MV(a:AF)(id:Nat)(p:List Nat)(n:Nat)(v:V)(K:V->AF->Prop):Option Ob->Prop
|some (.box E t)=>MY a id p n E v t K (t.at p)
|_=>False
def Oz(c:AF)(id i n:Nat)(o:Ob)(v d:V)(p:List Nat)(K:V->AF->Prop):Option V->Prop
|some a=>v.shape=a.shape/\a.size=n/\v.Gs=true/\∃b,d.set p v=some b/\K .undef (AG c id (KM o i b))
|none=>False
def RY(b:AF)(id i n:Nat)(o:Ob)(v:V)(z f:Nat)(p:List Nat)(K:V->AF->Prop):Option V->Prop
|some a=>(z=a.size/\f=a.shape.off p)/\Oz b id i n o v a p K (a.at p)
|none=>False
def Oy(a:AF)(id m z i f:Nat)(p:List Nat)(n:Nat)(v:V)(K:V->AF->Prop):Option Ob->Prop
|some o=>RY a id i n o v z f p K (Uw m i (some o))
|none=>False
def Hk(a:AF)(n:Nat)(v:V)(K:V->AF->Prop):V->Prop
|.ptr id p=>MV a id p n v K (AB a id)
|.ep id m z i f p=>Oy a id m z i f p n v K (AB a id)
|_=>False
def dK(K:List D->Prop):Option (List D)->Prop
|some l=>K l
|none=>False
def V2(P:BA)(a:List V)(b:AF)(K c:V->AF->Prop):V->Prop
|.fn f g e=>Xd P.p f=true/\AX P f (g++a++e) b (Fs K c)
|.d (.fn f g e)=>Xd P.p f=true/\AX P f (g.map .d++a++e.map .d) b (Fs K c)
|.hd true id=>S7 (AB b id)/\Cz P id a b (Fs K c)
|_=>False
def L2(b:AF)(a:V->AF->Prop):V->Prop
|.iface t v=>a (.iface t v) b
|.d (.iface t v)=>a (.d (.iface t v)) b
|_=>False
def KN(a:Nat)(K:List D->Prop):V->Prop
|.d (.AH z b)=>z=a/\K b
|.d .Ad=>K []
|_=>False
def NQ(id E d B n:Nat)(f:AF)(c:List D)(K:V->AF->Prop):Option Ob->Prop
|some (.BG e b a)=>e=E/\b=d/\n=a.length/\(2*(a.length+c.length)+192)*B<=281474976710656/\K (.sl id (a.length+c.length)) (AG f id (.BG E d (a++c)))
|_=>False
def GQ(E c B:Nat)(a:AF)(b:List D)(K:V->AF->Prop):V->Prop
|.sl id n=>NQ id E c B n a b K (AB a id)
|.d .Ad=>(2*b.length+192)*B<=281474976710656/\K (.sl (AA a) b.length) ((AA a,.BG E c b)::a)
|_=>False
def BD:List UInt8->List D
|[]=>[]
|b::r=>.int .u8 b.toNat::BD r
inductive I where
|c (x:C)
|box (E:Nat) (x:A)
|alloc (E:Nat) (z:D)
|GW (sz:Nat) (z:List D) (Xs:List (Nat×A))
|HZ (E sz:Nat) (z:List D) (Xs:List (Nat×A))
|st (n:Nat) (x v:A)
|Im (E sz B:Nat) (x y:A)
|FZ (E B:Nat) (x y:A)
|call (f:Nat) (args:List A)
|Bn (f:Nat) (args:List A)
|Cp (x:A) (args:List A)
|panic (x:A)
|Iq (x:A)
|Fg (E sz:Nat) (x:A)
 |Lj (x:A)
 |JO (n:Nat) (ag:Bool) (x:A)
 |JQ (E sz:Nat) (y x:A) (p:List Nat)
 |JR (y x:A) (l:List (Nat×Nat×List Nat))
 |JL (x:A)
 |Fl (E:Nat) (x y:A)
 |II (r:Option A)
 |Kj (kd z:D) (ok:Bool) (m k:A)
 |C4 (kd:D) (m k v:A)
 |Lg (g n:Nat) (ag:Bool) (x:D)
 |Kp (n z:Nat) (x:A)
 |IC (E sz:Nat) (z:List D) (Xs:List (Nat×A))
 |HE (E sz B:Nat) (x y:A)
 |gv (x:A)
 |Kh (n:Nat) (ag:Bool) (x:A)
 |Is (n z:Nat) (x:A) (lo hi:Option A)
 |Lf (z:Nat) (x y:A)
|KZ (z0:D) (z:Nat) (x:A)
 |JN (g n z:Nat) (x:D) (i:A)
 |Km (x:A)
|Lk (x:A)
|Kb (x:A)
 |FG (x:A)
 |Ip (e m:Bool) (x:A)
 |Kf (nm:String) (t f:Nat) (fl:Option (Nat×Nat×Nat×Bool)) (x:A) (args:List A)
 |Li (E sz B:Nat) (z:D) (l:A)
 |Ln (z:Nat) (x:A) (h:A)
 |CQ (f:Nat) (args:List A)
def MG(E b:Nat)(a:AF)(K:V->AF->Prop):V->Prop
|.d .Ad=>K (.sl (AA a) 0) ((AA a,.BG E b [])::a)
|_=>False
def HA(K:V->AF->Prop):Option (D×AF)->Prop
|some (d,a)=>K (.d d) a
|none=>False
def MB(n:Nat)(a:Bool)(b:AF)(K:V->AF->Prop):Option V->Prop
|some v=>v.size=n/\v.isAgg=a/\HA K (Du b v)
|none=>False
def LW(n:Nat)(b:Bool)(a:AF)(K:V->AF->Prop):V->Prop
|.ptr id p=>MB n b a K (DL a id p)
|_=>False
def XU(b:AF)(id:Nat)(p:List Nat)(x:D)(K:V->AF->Prop):Option Ob->Prop
|some (.box E t)=>∃a,t.set p (.d x)=some a/\K (.d x) (AG b id (.box E a))
|_=>False
def SI(v:V)(id:Nat)(p:List Nat)(K:V->AF->Prop):Option (D×AF)->Prop
|some (x,a)=>x.shape=v.shape/\XU a id p x K (AB a id)
|none=>False
def SJ(n:Nat)(a:Bool)(b:AF)(id:Nat)(p:List Nat)(K:V->AF->Prop):Option V->Prop
|some v=>v.size=n/\v.isAgg=a/\SI v id p K (DC 40000 b v)
|none=>False
def Om(n:Nat)(b:Bool)(a:AF)(K:V->AF->Prop):V->Prop
|.ptr id p=>SJ n b a id p K (DL a id p)
|_=>False
def Od(a:AF)(id b E c:Nat)(y:V)(K:V->AF->Prop):Option V->Prop
|some t=>K y ((AA a,.BG E c [])::AG a id (.box b t))
|none=>False
def ME(a:AF)(id:Nat)(p:List Nat)(E c:Nat)(y:V)(K:V->AF->Prop):Option Ob->Prop
|some (.box b t)=>(t.at p=some (.d .Ad)/\Od a id b E c y K (t.set p (.sl (AA a) 0)))\/((∃i n,t.at p=some (.sl i n))/\K y a)
|_=>False
def HW(a:AF)(E b:Nat)(p:List Nat)(y:V)(K:V->AF->Prop):V->Prop
|.ptr id q=>ME a id (q++p) E b y K (AB a id)
|_=>False
def I3(y:V)(K:V->AF->Prop)(x:V):List (Nat×Nat×List Nat)->AF->Prop
|[],a=>K y a
|e::l,a=>HW a e.1 e.2.1 e.2.2 y (λ_ b=>I3 y K x l b) x
def NV(id n:Nat)(c:AF)(K:V->AF->Prop):Option Ob->Prop
|some (.BG _ b a)=>b≠0/\n=a.length/\a≠[]/\K (.d (.AH b a)) (AG c id .An)
|_=>False
def LP(a:AF)(K:V->AF->Prop):V->Prop
|.sl id n=>NV id n a K (AB a id)
|_=>False
def NK(id n:Nat)(m:Int)(E:Nat)(c:AF)(K:V->AF->Prop):Option Ob->Prop
|some (.BG b e a)=>b=E/\e=1/\n=a.length/\m=n/\n<=9223372036854775807/\a≠[]/\∃s,a=BD s/\K (.d (.AU s)) (AG c id .An)
|_=>False
def JD(E:Nat)(a:AF)(K:V->AF->Prop):V->V->Prop
|.sd id n,.d (.int .i64 m)=>NK id n m E a K (AB a id)
|.d .CL,.d (.int .i64 m)=>m=0/\K (.d (.AU [])) a
|_,_=>False
def MJ(K:List D->Prop):V->Prop
|.d (.AU s)=>K (BD s)
|_=>False
def MU(K:V->Prop):V->Prop
|.d (.AU s)=>K (.d (.AH 1 (BD s)))
|_=>False
def Lr:D->D->Bool
|.int k _,.int a _=>decide (k=a)
|.bool _,.bool _=>true
|.AU _,.AU _=>true
|_,_=>false
def Vm:List D->List D->Bool
|[],[]=>true
|x::r,y::s=>Lr x y&&Vm r s
|_,_=>false
def EI:D->D->Bool
|.int k _,.int a _=>decide (k=a)
|.bool _,.bool _=>true
|.AU _,.AU _=>true
|.agg b,.agg c=>Vm b c
|_,_=>false
def DW:D->D->Bool
|.int _ a,.int _ b=>a==b
|.bool a,.bool b=>a==b
|.AU a,.AU b=>a==b
|.agg c,.agg d=>E1 c d
|_,_=>false
def Y4(k:D):List (D×V)->Option V
|[]=>none
|(j,v)::r=>if DW k j then some v else Y4 k r
def EW(k:D)(x:V):List (D×V)->List (D×V)
|[]=>[(k,x)]
|(j,v)::r=>if DW k j then (k,x)::r else (j,v)::EW k x r
def V8(b k:D)(a:List (D×V)):Prop:=EI b k=true/\∀e∈a,EI k e.1=true
def GL(z:D):Bool->Option V->V
|true,some v=>.BT [v,.d (.bool true)]
|true,none=>.BT [.d z,.d (.bool false)]
|false,some v=>v
|false,none=>.d z
def NW(b z:D)(c:Bool)(k:D)(K:V->Prop):Option Ob->Prop
|some (.map a)=>V8 b k a/\K (GL z c (Y4 k a))
|_=>False
def LX(c:AF)(a z:D)(b:Bool)(K:V->Prop):V->V->Prop
|.mp id,.d k=>NW a z b k K (AB c id)
|.d .CV,.d k=>EI a k=true/\K (GL z b none)
|_,_=>False
def NH(c:AF)(id:Nat)(b k:D)(v:V)(K:V->AF->Prop):Option Ob->Prop
|some (.map a)=>V8 b k a/\v.Gs=true/\K .undef (AG c id (.map (EW k v a)))
|_=>False
def LG(a:AF)(b:D)(v:V)(K:V->AF->Prop):V->V->Prop
|.mp id,.d k=>NH a id b k v K (AB a id)
|_,_=>False
def Sv:V->Prop
|.d (.int _ _)=>True
|_=>False
def MX(a:Xe):Option A->Prop
|none=>True
|some x=>Sv (x.ev a)
def Nb(n z:Nat)(K:D->Prop):Option V->Prop
|some (.d (.agg a))=>a.length=n/\(∀x∈a,x.sz=z)/\K (.AH z a)
|_=>False
def Ld(a:AF)(n z:Nat)(K:V->AF->Prop):V->Prop
|.ptr id p=>Nb n z (λx=>K (.d x) (AG a id .An)) (DL a id p)
|_=>False
def Na(id:Nat)(p:List Nat)(n z:Nat)(c b:Option V)(K:V->Prop):Option (List V)->Prop
|some a=>a.length=n/\(∀k∈a,k.size=z)/\EL n (λl h=>K (.bs id p l (h-l))) c b
|none=>False
def Np(a:AF)(n z:Nat)(c b:Option V)(K:V->AF->Prop):V->Prop
|.ptr id p=>Na id p n z c b (λv=>K v a) (Vf (DL a id p))
|_=>False
def JK(a:Nat)(b c:List D):List D:=b.take a++(c++b.drop (a+c.length))
def RG(f:AF)(id E:Nat)(t:V)(p:List Nat)(b n z:Nat)(e:List D)(r:V)(K:V->AF->Prop):Option V->Prop
|some (.d (.agg a))=>b+n<=a.length/\(∀x∈a,x.sz=z)/\(D.agg (JK b a e)).shape=(D.agg a).shape/\∃c,t.set p (.d (.agg (JK b a e)))=some c/\K r (AG f id (.box E c))
|_=>False
def I1(b:AF)(id:Nat)(p:List Nat)(a n z:Nat)(c:List D)(r:V)(K:V->AF->Prop):Option Ob->Prop
|some (.box E t)=>RG b id E t p a n z c r K (t.at p)
|_=>False
def Oj(z:Nat)(a:AF)(K:V->AF->Prop):V->V->Prop
|.bs id p c n,.d (.AH e b)=>e=z/\I1 a id p c n z (b.take n) (.d (.int .i64 (min b.length n:Nat))) K (AB a id)
|_,_=>False
def Ok(b:D)(z:Nat)(a:AF)(K:V->AF->Prop):V->Prop
|.bs id p c n=>(n=0->(∃E t,AB a id=some (.box E t))/\K (.BT []) a)/\(n≠0->(b.sz=z/\z=1)/\I1 a id p c n z (List.replicate n b) (.BT []) K (AB a id))
|_=>False
def Nf(n z:Nat)(K:V->Prop):D->V->Prop
|.agg a,.d (.int _ m)=>(0<=m/\m<n)/\a.length=n/\(∀x∈a,x.sz=z)/\K (.d (.Bv (a.getD m.toNat default)))
|_,_=>False
def Y5(b:Nat)(K:List V->Prop)(c:AF):V->Prop
|.d (.AH z a)=>z=b/\K (a.map .d)
|.d .Ad=>K []
|.sl id n=>(∃E a,AB c id=some (.Ay E b a)/\n=a.length/\Hp a=true/\K a)\/∃E a,AB c id=some (.BG E b a)/\n=a.length/\K (a.map .d)
|_=>False
def Pe(id E e B n:Nat)(g:AF)(c:List V)(K:V->AF->Prop):Option Ob->Prop
|some (.Ay f b a)=>f=E/\b=e/\n=a.length/\(2*(a.length+c.length)+192)*B<=281474976710656/\K (.sl id (a.length+c.length)) (AG g id (.Ay E e (a++c)))
|some (.BG f b a)=>f=E/\b=e/\n=a.length/\(2*(a.length+c.length)+192)*B<=281474976710656/\K (.sl id (a.length+c.length)) (AG g id (.Ay E e (a.map .d++c)))
|_=>False
def KD(E c B:Nat)(a:AF)(b:List V)(K:V->AF->Prop):V->Prop
|.sl id n=>Pe id E c B n a b K (AB a id)
|.d .Ad=>(2*b.length+192)*B<=281474976710656/\K (.sl (AA a) b.length) ((AA a,.Ay E c b)::a)
|_=>False
def Bx(P:BA)(g:Nat)(x:D):Prop:=∃a T f,P.g g=some (.cells (List.toArray a) T f)/\ET x a=true
def MS(a:AF)(K:V->AF->Prop):V->Option Ob->Prop
|.mp id,some (.map b)=>K (.hd false (AA a)) ((AA a,.it (some id) b.length [])::a)
|.d .CV,_=>K (.hd false (AA a)) ((AA a,.it none 0 [])::a)
|_,_=>False
def RT:V->Nat
|.mp id=>id
|_=>0
def Pz(b:AF)(id j n:Nat)(seen:List Nat)(K:V->AF->Prop):Option Ob->Prop
|some (.map a)=>a.length=n/\((List.range n).all (λi=>seen.contains i)=true->K (.BT [.d (.bool false)]) b)/\
 ∀i,i<n->seen.contains i=false->K (.BT [.d (.bool true),.d (a.getD i default).1,(a.getD i default).2]) (AG b id (.it (some j) n (seen++[i])))
|_=>False
def MH(a:AF)(id:Nat)(K:V->AF->Prop):Option Ob->Prop
|some (.it none _ _)=>K (.BT [.d (.bool false)]) a
|some (.it (some j) n seen)=>Pz a id j n seen K (AB a j)
|_=>False
def No(a:AF)(K:V->AF->Prop):V->Prop
|.hd false id=>MH a id K (AB a id)
|_=>False
def Pt(i n:Nat)(K:V->Prop):Option Ob->Prop
|some (.map a)=>i<n/\a.length=n/\K (.BT [.d (a.getD i default).1,(a.getD i default).2])
|_=>False
def Pu(a:AF)(K:V->Prop):Option Ob->Prop
|some (.it (some j) n seen)=>seen≠[]/\Pt (seen.getLastD 0) n K (AB a j)
|_=>False
def Nd(a:AF)(K:V->Prop):V->Prop
|.hd false id=>Pu a K (AB a id)
|_=>False
def Px(K:V->Prop):Option Ob->Prop
|some (.map a)=>K (.d (.int .i64 a.length))
|_=>False
def LD(a:AF)(K:V->Prop):V->Prop
|.mp id=>Px K (AB a id)
|.d .CV=>K (.d (.int .i64 0))
|_=>False
def lQ(e:Bool)(n:Nat)(K:V->Prop):Option Ob->Prop
|some (.BG _ _ a)=>n=a.length/\a≠[]/\K (.d (.bool !e))
|some (.Ay _ _ a)=>n=a.length/\a≠[]/\K (.d (.bool !e))
|_=>False
def RR(e:Bool)(K:V->Prop):Option Ob->Prop
|some (.map _)=>K (.d (.bool !e))
|_=>False
def IX(a:AF)(e:Bool)(K:V->Prop):Bool->V->Prop
|true,.mp id=>RR e K (AB a id)
|true,.d .CV=>K (.d (.bool e))
|false,.d .Ad=>K (.d (.bool e))
|false,.d (.AH _ b)=>K (.d (.bool !e))/\(b=[]->K (.d (.bool e)))
|false,.sl id n=>lQ e n K (AB a id)
|_,_=>False
def NZ(a:AF)(K:V->Prop)(v:V):Option (Nat×Nat×Nat×Bool)->Prop
|none=>K v
|some (c,d,n,b)=>Ux a c d (λu=>En a n b K u) v
def Oo(P:BA)(t f:Nat)(d:Option (Nat×Nat×Nat×Bool))(a:List V)(b:AF)(K c:V->AF->Prop):V->Prop
|.iface e (.ptr id p)=>e=t/\Xd P.p f=true/\NZ b (λr=>AX P f (r::a) b (Fs K c)) (.ptr id p) d
|_=>False
def Ou(E b B:Nat)(z:D)(a:AF)(K:V->AF->Prop):V->Prop
|.d (.int .i64 n)=>0<=n/\n*B<=281474976710656/\K (.sl (AA a) n.toNat) ((AA a,.BG E b (List.replicate n.toNat z))::a)
|_=>False
def XH(id n z:Nat)(h:Int)(a:AF)(K:V->AF->Prop):Option Ob->Prop
|some (.BG E c b)=>c=z/\n=b.length/\b≠[]/\(0<=h/\h<=n)/\K (.sl (AA a) h.toNat) ((AA a,.BG E c (b.take h.toNat))::AG a id .An)
|_=>False
def O0(z:Nat)(a:AF)(K:V->AF->Prop):V->V->Prop
|.sl id n,.d (.int .i64 h)=>XH id n z h a K (AB a id)
|_,_=>False
def I.wp(P:BA)(a:Xe)(b:AF)(K w:V->AF->Prop):I->Prop
|.c x=>x.wp a b (λv=>K v b)
|.box E x=>I0 E b K (x.ev a)
|.alloc E z=>I0 E b K (.d z)
|.GW o z Xs=>EU (z.map .d) (Xs.map λ(i,x)=>(i,x.ev a)) λq=>dK (λl=>K (.d (.AH o l)) b) (CA q)
|.HZ E o z Xs=>EU (z.map .d) (Xs.map λ(i,x)=>(i,x.ev a)) λq=>dK (λl=>K (.sl (AA b) l.length) ((AA b,.BG E o l)::b)) (CA q)
|.st n x v=>Hk b n (v.ev a) K (x.ev a)
|.Im E o B x y=>KN o (λu=>GQ E o B b u K (x.ev a)) (y.ev a)
|.FZ E B x y=>MJ (λu=>GQ E 1 B b u K (x.ev a)) (y.ev a)
|.call f j=>AX P f (j.map (A.ev a)) b (Fs K w)
|.Bn f j=>AW P f (j.map (A.ev a)) b λv=>K v b
|.Cp x j=>V2 P (j.map (A.ev a)) b K w (x.ev a)
|.panic x=>L2 b w (x.ev a)
|.Iq x=>MU (λv=>K v b) (x.ev a)
|.Fg E o x=>MG E o b K (x.ev a)
|.Lj x=>HA K (Du b (x.ev a))
|.JO n s x=>LW n s b K (x.ev a)
|.JQ E o y x p=>HW b E o p (y.ev a) K (x.ev a)
|.JR y x l=>I3 (y.ev a) K (x.ev a) l b
|.JL x=>LP b K (x.ev a)
|.Fl E x y=>JD E b K (x.ev a) (y.ev a)
|.II r=>MX a r/\K (.mp (AA b)) ((AA b,.map [])::b)
|.Kj F z L m k=>LX b F z L (λv=>K v b) (m.ev a) (k.ev a)
|.C4 F m k v=>LG b F (v.ev a) K (m.ev a) (k.ev a)
|.Lg g n s x=>Bx P g x/\x.sz=n/\(V.d x).isAgg=s/\K (.d x) b
|.Kp n z x=>Ld b n z K (x.ev a)
|.IC E o z Xs=>EU (z.map .d) (Xs.map λ(i,x)=>(i,x.ev a)) λq=>K (.sl (AA b) q.length) ((AA b,.Ay E o q)::b)
|.HE E o B x y=>Y5 o (λu=>KD E o B b u K (x.ev a)) b (y.ev a)
|.gv x=>HA K (DC 40000 b (x.ev a))
|.Kh n s x=>Om n s b K (x.ev a)
|.Is n z x J H=>Np b n z (J.map (A.ev a)) (H.map (A.ev a)) K (x.ev a)
|.Lf z x y=>Oj z b K (x.ev a) (y.ev a)
|.KZ N z x=>Ok N z b K (x.ev a)
|.JN g n z x i=>Bx P g x/\Nf n z (λv=>K v b) x (i.ev a)
|.Km x=>MS b K (x.ev a) (AB b (RT (x.ev a)))
|.Lk x=>No b K (x.ev a)
|.Kb x=>Nd b (λv=>K v b) (x.ev a)
|.FG x=>LD b (λv=>K v b) (x.ev a)
|.Ip e m x=>IX b e (λv=>K v b) m (x.ev a)
|.Kf _ t f G x j=>Oo P t f G (j.map (A.ev a)) b K w (x.ev a)
|.Li E o B z l=>Ou E o B z b K (l.ev a)
|.Ln z x h=>O0 z b K (x.ev a) (h.ev a)
|.CQ f j=>Cm P f (j.map (A.ev a)) b K
def Sl(P:Program)(e:TypeId)(b a:Nat):Option (List Value):=
 if b*a=0 then some [] else (U3 P e).map λz=>((Array.range (b*a)).map (z.toArray[· % z.toArray.size]!)).toList
def QN(P:Program)(d:Op)(E? : Option Nat)(b:Nat)(z:List D)(Xs:List (Nat×A)):Bool:=match d with
|.buildSlice t a f=>Vs f.toList Xs&&(match P.underlying t with
 |some (.slice e)=>(match E? with|some E=>e==E|none=>true)&&Yl P e==some b&&z.length==a&&decide (a*b<=2 ^ 24)&&z.all (λx=>x.sz==b)&&(match Sl P e a b with|some c=>HK z c|none=>false)
 |_=>false)
|_=>false
def Jv:TypeDesc->D->Bool
|.int _,.int _ _=>true
|.string,.AU _=>true
|.bool,.bool _=>true
|_,_=>false
def IZ:D->KT
|.int k _=>.int k
|.bool _=>.bool
|_=>.AU
def Uz(P:Program)(t:TypeId):D->Bool
|.agg b=>(KT.st (b.map IZ)).Ak P t
|a=>match P.underlying t with
 |some d=>Jv d a
 |none=>false
def Yw6(P:Program)(t:TypeId)(nm:String)(f:Nat)(e:Option (Nat×Nat×Nat×Bool)):Bool:=match (P.info? t).bind (λi=>i.methods.find? (·.name==nm)) with
|some m=>(match e,m.func with
 |none,some (g,true)=>g==f&&m.path.isEmpty&&(P.underlying t matches some (.pointer _))
 |some (c,h,n,d),some (g,false)=>g==f&&(match m.path.toList with
  |[s]=>s.deref&&s.index==c&&(match P.underlying s.struct with
   |some (.struct a)=>(match a[c]? with
    |some b=>b.offset==h&&Yl P b.type==some n&&n != 0&&GV P b.type==d&&!(P.underlying b.type matches some (.pointer _))&&(P.underlying b.type).isSome
    |none=>false)
   |_=>false)
  |_=>false)
 |_,_=>false)
|none=>false
def Y0b:Bool->Option TypeDesc->Operand->Bool
|false,some (.slice _),.const (.slice none n m)=>n==0&&m==0
|true,some (.map _ _),.const (.map none)=>true
|_,_,_=>false
def np:BinOp->Bool->Bool
|.eql,e=>e
|.neq,e=>!e
|_,_=>false
def I.Ak(P:Program)(a:Op):I->Bool
|.c x=>x.Ak P a
|.box E y=>match a with
 |.box e x=>e==E&&A.Ak x y
 |_=>false
|.alloc E z=>match a with
 |.alloc e=>e==E&&match U3 P e with
  |some q=>ET z q
  |none=>false
 |_=>false
|.GW b z Xs=>QN P a none b z Xs
|.HZ E b z Xs=>QN P a (some E) b z Xs
|.IC E b z Xs=>QN P a (some E) b z Xs
|.st n x v=>match a with
 |.store t y u=>Yl P t==some n&&A.Ak y x&&A.Ak u v
 |_=>false
|.Im E b B x y=>match a with
 |.call {callee:=.builtin .append,args:=args,argTypes:=p}=>match args.toList,p.toList with
  |[u,v],[t,G]=>(match P.underlying t with|some (.slice e)=>e==E|_=>false)&&(match P.info? E with|some i=>i.size==b&&i.bytes==B&&i.bytes != 0&&i.size != 0&&i.zero.isSome&&(i.zero.map (·.cells.size))==some b|none=>false)&&
   (P.underlying G matches some (.slice _))&&A.Ak u x&&A.Ak v y
  |_,_=>false
 |_=>false
|.HE E b B x y=>match a with
 |.call {callee:=.builtin .append,args:=args,argTypes:=p}=>match args.toList,p.toList with
  |[u,v],[t,G]=>(match P.underlying t with|some (.slice e)=>e==E|_=>false)&&(match P.info? E with|some i=>i.size==b&&i.bytes==B&&i.bytes != 0&&i.size != 0&&i.zero.isSome&&(i.zero.map (·.cells.size))==some b|none=>false)&&
   (P.underlying G matches some (.slice _))&&A.Ak u x&&A.Ak v y
  |_,_=>false
 |_=>false
|.FZ E B x y=>match a with
 |.call {callee:=.builtin .append,args:=args,argTypes:=p}=>match args.toList,p.toList with
  |[u,v],[t,G]=>(match P.underlying t with|some (.slice e)=>e==E|_=>false)&&(match P.info? E with|some i=>i.size==1&&i.bytes==B&&i.bytes != 0&&i.zero.isSome&&(i.zero.map (·.cells.size))==some 1|none=>false)&&
   (P.underlying G matches some .string)&&A.Ak u x&&A.Ak v y
  |_,_=>false
 |_=>false
|.call f args=>match a with
 |.call {callee:=.value (.func g),args:=as,.. }=>f==g&&Xd P f&&JG as.toList args
 |_=>false
|.CQ f args=>match a with
 |.call {callee:=.value (.func g),args:=as,.. }=>f==g&&Xd P f&&JG as.toList args
 |_=>false
|.Bn f args=>match a with
 |.call {callee:=.value (.func g),args:=as,.. }=>f==g&&Xd P f&&JG as.toList args
 |_=>false
|.Cp y args=>match a with
 |.call {callee:=.value x,args:=as,.. }=>A.Ak x y&&JG as.toList args
 |_=>false
|.panic y=>match a with
 |.panic x=>A.Ak x y
 |_=>false
|.Iq y=>match a with
 |.convert s t x=>(P.underlying s matches some .string)&&(match P.underlying t with|some (.slice e)=>(P.underlying e matches some (.int .u8))|_=>false)&&A.Ak x y
 |_=>false
|.Fg _ _ y=>match a with
 |.move x|.assign x=>A.Ak x y
 |_=>false
|.Lj y=>match a with
 |.move x|.assign x=>A.Ak x y
 |_=>false
|.gv y=>false
|.JO n w y=>match a with
 |.load t x=>Yl P t==some n&&(P.underlying t).isSome&&GV P t==w&&A.Ak x y
 |_=>false
|.Kh n w y=>match a with
 |.load t x=>Yl P t==some n&&(P.underlying t).isSome&&GV P t==w&&A.Ak x y
 |_=>false
|.JQ _ _ y _ _=>match a with
 |.move x|.assign x=>A.Ak x y
 |_=>false
|.JR y _ _=>match a with
 |.move x|.assign x=>A.Ak x y
 |_=>false
|.JL y=>match a with
 |.convert s t x=>s==t&&(match P.underlying s with|some (.slice e)=>(P.underlying e matches some (.int .u8))|_=>false)&&A.Ak x y
 |_=>false
|.Fl E y z=>match a with
 |.call {callee:=.builtin .unsafeString,args:=args,argTypes:=p}=>match args.toList,p.toList with
  |[x,n],[t,_]=>(match P.underlying t with|some (.pointer e)=>e==E&&P.cellsOf e==1|_=>false)&&A.Ak x y&&A.Ak n z
  |_,_=>false
 |_=>false
|.II r=>match a with
 |.makeMap t h=>(P.underlying t matches some (.map _ _))&&Fq h r
 |_=>false
|.Kj H z T m k=>match a with
 |.lookup t x i o=>o==T&&(match P.underlying t with
  |some (.map F K)=>Uz P F H&&(match U3 P K with|some q=>ET z q&&(((P.info? K).bind (·.zero)).map λv=>match v with|.agg _=>true|_=>false)==some (V.d z).isAgg|none=>false)
  |_=>false)&&A.Ak x m&&A.Ak i k
 |_=>false
|.C4 H m k v=>match a with
 |.mapUpdate t x i y=>(match P.underlying t with|some (.map F _)=>Uz P F H|_=>false)&&A.Ak x m&&A.Ak i k&&A.Ak y v
 |.insert t x i y=>(match P.underlying t with|some (.map F _)=>Uz P F H|_=>false)&&A.Ak x m&&A.Ak i k&&A.Ak y v
 |_=>false
|.Lg g n w _=>match a with
 |.load t (.global h)=>h==g&&Yl P t==some n&&(P.underlying t).isSome&&GV P t==w
 |_=>false
|.Kp n z y=>match a with
 |.slice t x none none none=>(match P.underlying t with|some (.array m e)=>m==n&&Yl P e==some z|_=>false)&&A.Ak x y
 |_=>false
|.Is n z y Q O=>match a with
 |.slice t x l h none=>(match P.underlying t with|some (.array m e)=>m==n&&Yl P e==some z|_=>false)&&A.Ak x y&&Fq l Q&&Fq h O
 |_=>false
|.Lf z y s=>match a with
 |.call {callee:=.builtin .copy,args:=args,argTypes:=p}=>match args.toList,p.toList with
  |[u,v],[t,_]=>(match P.underlying t with|some (.slice e)=>Yl P e==some z&&z != 0|_=>false)&&A.Ak u y&&A.Ak v s
  |_,_=>false
 |_=>false
|.KZ U z y=>match a with
 |.call {callee:=.builtin .clear,args:=args,argTypes:=p}=>match args.toList,p.toList with
  |[u],[t]=>(match P.underlying t with|some (.slice e)=>Yl P e==some z&&z != 0&&(match U3 P e with|some q=>ET U q|none=>false)|_=>false)&&A.Ak u y
  |_,_=>false
 |_=>false
|.JN g n z _ j=>match a with
 |.indexAddr t (.global h) i=>h==g&&(match P.underlying t with|some (.array m e)=>n==m&&Yl P e==some z|_=>false)&&A.Ak i j
 |_=>false
|.Km y=>match a with
 |.range t x=>(P.underlying t matches some (.map _ _))&&A.Ak x y
 |_=>false
|.Lk y=>match a with
 |.next x false=>A.Ak x y
 |_=>false
|.Kb y=>match a with
 |.entry x=>A.Ak x y
 |_=>false
|.FG y=>match a with
 |.call {callee:=.builtin .len,args:=args,argTypes:=p}=>match args.toList,p.toList with
  |[u],[t]=>(P.underlying t matches some (.map _ _))&&A.Ak u y
  |_,_=>false
 |_=>false
|.Ip e m y=>match a with
 |.binOp o t x J _=>np o e&&A.Ak x y&&Y0b m (P.underlying t) J
 |_=>false
|.Kf nm t f L y args=>match a with
 |.call {callee:=.invoke x m,args:=as,.. }=>m==nm&&A.Ak x y&&JG as.toList args&&Yw6 P t nm f L
 |_=>false
|.Li E b B z l=>match a with
 |.makeSlice t x J=>A.Ak x l&&A.Ak J l&&(match P.underlying t with|some (.slice e)=>e==E|_=>false)&&(match P.info? E with|some i=>i.size==b&&i.bytes==B|none=>false)&&b != 0&&B != 0&&(match U3 P E with|some q=>ET z q&&q.length==b|none=>false)&&z.sz==b
 |_=>false
|.Ln z y h=>match a with
 |.slice t x none (some N) none=>(match P.underlying t with|some (.slice e)=>Yl P e==some z&&z != 0|_=>false)&&A.Ak x y&&A.Ak N h
 |_=>false
def Ja(P:Program)(a:Act)(w:World)(e:A9)(g:Op)(K f:V->AF->Prop):Prop:=
 ∀(o:Oper),o.op=g->∀(next:Act->World->Prop)(Q:Exit->Act->World->Prop),
  (∀v x c d b,K x c->x.Ax d b v->OM d b c->Tr w e d b->next (a.put o.dst v) d)->
  (∀u x c d b,f x c->x.Ax d b u->OM d b c->Tr w e d b->Q (.panic [{v:=u,recovered:=false}]) a d)->
  EH P o a w next Q
def IU(P:Program)(a:Act)(w:World)(e:A9)(d:Op)(c:AF)(K:V->AF->Prop):Prop:=
 ∃v x b,K x c/\x.Ax b e v/\B5 w b/\∀(o:Oper),o.op=d->(execOp a.eval o).run P w=.ok (.value v) b
section
variable {P:Program} {a:Act} {w:World} {ρ:A9} {sl:Xe} {ob:AF} {K Pn:V->AF->Prop}
def Xw{c:Op}{v:Value}{x:V}{b:AF}{w':World}{ρ':A9}(j:∀o:Oper,o.op=c->(execOp a.eval o).run P w=.ok (.value v) w')
 (g:K x b) (d:x.Ax w' ρ' v) (e:OM w' ρ' b) (f:Tr w ρ w' ρ'):Ja P a w ρ c K Pn:=by
 intro o i next Q h _
 unfold EH;rw[j o i];exact h v x b w' ρ' g d e f
def IU.EE{c:Op}(h:IU P a w ρ c ob K)(g:OM w ρ ob):Ja P a w ρ c K Pn:=by
 obtain⟨v,x,i,f,d,b,e⟩:=h;exact Xw e f d (g.ext b) b.tr
def R7(P:Program)(a:Act)(w:World)(ρ:A9)(c:Op)(ob:AF)(K:V->AF->Prop):Prop:=
 ∀(o:Oper),o.op=c->∀(next:Act->World->Prop)(Q:Exit->Act->World->Prop),
  (∀v x b,K x ob->x.Ax b ρ v->B5 w b->next (a.put o.dst v) b)->EH P o a w next Q
def IU.Ft{b:Op}(h:IU P a w ρ b ob K):R7 P a w ρ b ob K:=by
 obtain⟨v,x,j,f,c,d,e⟩:=h;intro o i next Q g
 unfold EH;rw[e o i];exact g v x j f c d
def R7.EE{c:Op}(h:R7 P a w ρ c ob K)(f:OM w ρ ob):Ja P a w ρ c K Pn:=λo i next Q g _=>
 h o i next Q λv x j e d b=>g v x ob j ρ e d (f.ext b) b.tr
def K5(P:Program)(a:Act)(w:World)(ρ:A9)(e:Op)(K:V->AF->Prop):Prop:=
 ∀(o:Oper),o.op=e->∀(next:Act->World->Prop)(Q:Exit->Act->World->Prop),
  (∀v x c d b,K x c->x.Ax d b v->OM d b c->Tr w ρ d b->B5 w d->next (a.put o.dst v) d)->EH P o a w next Q
def K5.EE{d:Op}(h:K5 P a w ρ d K):Ja P a w ρ d K Pn:=λo k next Q j _=>
 h o k next Q λv x b l c e f g i _=>j v x b l c e f g i
def Wu{e:Op}{v:Value}{x:V}{c:AF}{d:World}{b:A9}(m:∀o:Oper,o.op=e->(execOp a.eval o).run P w=.ok (.value v) d)
 (j:K x c) (f:x.Ax d b v) (g:OM d b c) (h:Tr w ρ d b) (i:B5 w d):K5 P a w ρ e K:=by
 intro o l next Q k
 unfold EH;rw[m o l];exact k v x c d b j f g h i
def UX{e:Op}{b:AF}{d:World}{c:A9}(k:∀o:Oper,o.op=e->(execOp a.eval o).run P w=.ok .skip d)
 (h:K .undef b) (f:OM d c b) (g:Tr w ρ d c):Ja P a w ρ e K Pn:=by
 intro o j next Q i _
 unfold EH;rw[k o j];exact i undef .undef b d c h (Wq.2 rfl) f g
def Ywh(j:SM w ρ sl a)(b:OM w ρ ob){c:Op}{x:C}(g:x.Ak P c=true)(h:x.wp sl ob (λv=>K v ob)):Ja P a w ρ c K Pn:=by
 obtain⟨v,y,f,d,e⟩:=C.Az j b g h;exact Xw (λo i=>e o i w (λ_=>B5.refl w)) f d b (Tr.refl _ _)
def x9(l:SM w ρ sl a)(j:OM w ρ ob){d:Op}{E:Nat}{x:A}(b:I.Ak P d (.box E x)=true)(h:I0 E ob K (x.ev sl)):K5 P a w ρ d K:=by
 cases d<;>simp[I.Ak]at b;rename_i e y;obtain⟨rfl,b⟩:=b;obtain⟨g,i⟩:=h;have f:=X0 ob;have p:=A.Az l b;have c:=Um (YU g) p;obtain⟨q,m,n⟩:=uq j f c e;refine Wu (λo k=>?_) i n m q (Wa w _);simp only[execOp,k,Instr.box,newVar,newRow,Sem.run_bind,run_newObj,Result.andThen_ok,Sem.run_pure,Array.toArray_toList];rfl
def wK(n:OM w ρ ob){g:Op}{i:Nat}{z:D}(b:I.Ak P g (.alloc i z)=true)(h:I0 i ob K (.d z)):K5 P a w ρ g K:=by
 cases g<;>simp only[I.Ak,BO]at b;rename_i E;simp only[BB,C9]at b;obtain⟨rfl,b⟩:=b;obtain⟨t,m⟩:=h;have l:=X0 ob;cases e:U3 P E with
 |none=>simp[e]at b
 |some j=>
  simp only[e]at b;obtain⟨v,k,_,f⟩:=Qz e;have c:(V.d z).Al w ρ j:=by simp only[V.Al];exact Mz z j b
  obtain⟨s,q,r⟩:=uq n l c E;refine Wu (λo p=>?_) m r q s (Wa w _);simp only[execOp,p,Instr.alloc,newVar,newRow,Sem.run_bind,f,run_newObj,Result.andThen_ok,Sem.run_pure];rw[<-k,Array.toArray_toList];rfl
def Yp3(hs:SM w ρ sl a)(hO:OM w ρ ob){op:Op}{n:Nat}{x v:A}(hc:I.Ak P op (.st n x v)=true)(h:Hk ob n (v.ev sl) K (x.ev sl)):Ja P a w ρ op K Pn:=by
 cases op<;>simp[I.Ak]at hc;rename_i t y u;obtain⟨⟨hn,h1⟩,h2⟩:=hc;have F:=A.Az hs h1;have r2:=A.Az hs h2;unfold Hk at h;split at h
 ·rename_i id p e1;rw[e1]at F;unfold MV at h;split at h
  ·rename_i E t0 U;obtain⟨b,sh,X,F⟩:=Bp hO U F;cases c:t0.at p with
   |none=>simp[c,MY]at h
   |some r=>
    simp only[c,MY]at h;obtain⟨g,N,q,t',l,hK⟩:=h;obtain⟨b',cs,T,Z,g3⟩:=hO.BW id _ U;rw[X]at T;simp only[CJ,RO.box.injEq]at T;obtain⟨rfl,rfl⟩:=T;have e:=Um (YU q) r2;obtain⟨ad,J,e3,h4⟩:=PR p t0 r _ cs _ g3 c e g;rw[l]at J;simp only[CJ]at J;subst J;obtain⟨t1,o1⟩:=Dy hO U X Z e3 h4;obtain⟨s,H,O,Y,q2,q3⟩:=JV p t0 r cs g3 c;have d:=FQ _ _ e;have L:=FQ _ _ q3;refine UX (λo ho=>?_) hK o1 t1;have j:(a.eval u).cells.size=n:=by
     rw[<-N];unfold V.size;rw[<-g,<-d];simp
    have k:=run_storeCells_at (P:=P) b (t0.shape.off p) E (a.eval u).cells.toList 0 cs.toArray w Z (by
     rw[d,g,<-L,<-q2,Y];simp) (V.BW _ _ q e)
    simp only[execOp,ho,Instr.storeAt,Instr.sureAddr,storeVar,F,Sem.run_bind,Sem.run_pure,Result.andThen_ok,X2 hn,j,ne_eq,not_true,Bs];rw[k];simp
  ·cases h
 ·rename_i id m z i f p e1;rw[e1]at F;unfold Oy at h;split at h
  ·rename_i ox U;unfold RY at h;split at h
   ·rename_i G aa;obtain⟨⟨ab,ac⟩,h⟩:=h;cases c:G.at p with
    |none=>simp[c,Oz]at h
    |some r=>
     simp only[c,Oz]at h;obtain⟨g,N,q,t',l,hK⟩:=h;obtain⟨b,ae,E,s,H,O,T,Z,g3,g4,g5⟩:=X27 hO U aa;rw[S3]at F;obtain⟨o,Y,q2⟩:=F;rw[T]at Y;simp only[CJ]at Y;subst Y;have F:=q2.2.2 rfl;have e:=Um (YU q) r2;obtain⟨ad,J,e3,h4⟩:=PR p G r _ H _ g4 c e g;rw[l]at J;simp only[CJ]at J;subst J;obtain⟨t1,o1⟩:=g5 t' _ e3 h4;obtain⟨d1,d2,d3,z1,z2,z3⟩:=JV p G r H g4 c;have d:=FQ _ _ e;have L:=FQ _ _ z3;refine UX (λo ho=>?_) hK o1 t1;have j:(a.eval u).cells.size=n:=by
      rw[<-N];unfold V.size;rw[<-g,<-d];simp
     have Q:i*z+f=s.length+G.shape.off p:=by rw[ab,ac,g3]
     have W:(a.eval u).cells.toList.length=d2.length:=by rw[d,g,<-L]
     have k:=run_storeCells_at (P:=P) b (s.length+G.shape.off p) E (a.eval u).cells.toList 0 (s++(H++O)).toArray w Z (by
      rw[W,<-z2,z1];simp;omega) (V.BW _ _ q e)
     simp only[execOp,ho,Instr.storeAt,Instr.sureAddr,storeVar,F,Sem.run_bind,Sem.run_pure,Result.andThen_ok,X2 hn,j,ne_eq,not_true,Bs,Q];rw[k];have e7:(s++(H++O)).take (s.length+G.shape.off p)=s++H.take (G.shape.off p):=by
      rw[Rt,List.take_append_of_le_length (by rw[z1,<-z2];simp)]
     have e8:(s++(H++O)).drop (s.length+G.shape.off p+(a.eval u).cells.toList.length)=H.drop (G.shape.off p+(a.eval u).cells.toList.length)++O:=by
      rw[Ku,Ru,List.drop_append_of_le_length (by rw[z1,<-z2,W];simp)]
     simp only[Sem.run_pure,Result.andThen_ok];congr 2;simp only[Nat.add_zero,List.toList_toArray]at e7 e8⊢;rw[e7,e8];simp only[JX]
   ·cases h
  ·cases h
 ·cases h
def X1r(l:SM w ρ sl a)(j:OM w ρ ob){i:Op}{x:A}(k:I.Ak P i (.panic x)=true)(h:L2 ob Pn (x.ev sl)):Ja P a w ρ i K Pn:=by
 cases i<;>simp[I.Ak]at k;have d:=A.Az l k;unfold L2 at h;split at h
 ·rename_i t v e;rw[e]at d;have b:=d;rw[W6 (by simp[V.isAgg]) (by simp)]at b;simp only[V.Al,HN,Gg]at b;obtain⟨c,b,_⟩:=b;intro o f next Q _ g
  unfold EH;have:(execOp a.eval o).run P w=.halt (.panic (.iface t c)) w:=by simp[execOp,f,Instr.panic,b]
  rw[this];rw[b]at d;exact g _ _ _ _ _ h d j (Tr.refl _ _)
 ·rename_i t v e;rw[e]at d;have b:=d;rw[SV]at b;obtain⟨c,b,_⟩:=b;intro o f next Q _ g
  unfold EH;have:(execOp a.eval o).run P w=.halt (.panic (.iface t c)) w:=by simp[execOp,f,Instr.panic,b]
  rw[this];rw[b]at d;exact g _ _ _ _ _ h d j (Tr.refl _ _)
 ·cases h
def CC{w:World}{ρ:A9}:∀{h e:List V}{d c:List Value},V.A8 w ρ h d->V.A8 w ρ e c->V.A8 w ρ (h++e) (d++c)
|[],e,d,c,b,f=>by simp only[V.A8]at b;subst b;simpa using f
|x::r,e,d,c,b,f=>by
 simp only[V.A8]at b;obtain⟨u,g,rfl,i,j⟩:=b;simp only[List.cons_append,V.A8];exact⟨u,g++c,rfl,i,CC j f⟩
def UL{P:BA}(t:ρ.gl=P.g){j:Op}{f:Nat}{m:List V}{args:List Value}(F:∀o:Oper,o.op=j->(execOp a.eval o).run P.p w=.ok (.enter f args.toArray) w)
 (h:AX P f m ob (Fs K Pn)) (s:OM w ρ ob) (q:V.A8 w ρ m args):Ja P.p a w ρ j K Pn:=by
 intro o y next Q x z
 unfold EH;rw[F o y];simp only[JC];refine(h.run w ρ args s t q).mono λe n ⟨b,c,d,k,r,i,l⟩=>?_;cases e with
 |returned u=>
  cases b with
  |ret v=>exact x u v c n d k r i l
  |panic v=>cases r
 |panicked G=>
  cases b with
  |ret v=>cases r
  |panic v=>obtain⟨u,rfl,r⟩:=r;exact z u v c n d k r i l
 |outgrown=>cases b<;>cases r
def Y8{f:Nat}(h:Xd P f=true)(c:Array Value)(w:World):(callFunc f c).run P w=.ok (.enter f c) w:=by
 unfold Xd at h;split at h
 next g e=>simp only[BB,bne_iff_ne,ne_eq]at h;obtain⟨b,d⟩:=Kt.1 h.2;simp[callFunc,e,h.1,d]
 ·simp at h
def X6h{P:BA}(m:ρ.gl=P.g)(q:SM w ρ sl a)(l:OM w ρ ob){e:Op}{f:Nat}{b:List A}(d:I.Ak P.p e (.call f b)=true)(h:AX P f (b.map (A.ev sl)) ob (Fs K Pn)):Ja P.p a w ρ e K Pn:=by
 cases e<;>simp only[I.Ak,BO]at d;rename_i c;obtain⟨i,as,r⟩:=c;cases i<;>(try simp only[BO]at d);rename_i g;cases g<;>(try simp only[BO]at d);simp only[BB,C9]at d;obtain⟨⟨rfl,j⟩,k⟩:=d;refine UL m (args:=as.toList.map a.eval) (λo n=>?_) h l (Z1 q k);have:a.eval (.func f)=.func (.func f) #[] #[]:=rfl;simp only[execOp,n,resolve,this,Deferred.ofValue,Sem.run_bind,Sem.run_pure,Result.andThen_ok,invoke,Y8 j,Zz];simp
def wJ{P:BA}(t:ρ.gl=P.g)(F:SM w ρ sl a)(q:OM w ρ ob){j:Op}{f:Nat}{b:List A}(d:I.Ak P.p j (.Bn f b)=true)(h:AW P f (b.map (A.ev sl)) ob λv=>K v ob):R7 P.p a w ρ j ob K:=by
 cases j<;>simp only[I.Ak,BO]at d;rename_i c;obtain⟨l,as,H⟩:=c;cases l<;>(try simp only[BO]at d);rename_i g;cases g<;>(try simp only[BO]at d);simp only[BB,C9]at d;obtain⟨⟨rfl,m⟩,n⟩:=d;intro o z next Q y
 have i:(execOp a.eval o).run P.p w=.ok (.enter f (as.toList.map a.eval).toArray) w:=by
  have:a.eval (.func f)=.func (.func f) #[] #[]:=rfl;simp only[execOp,z,resolve,this,Deferred.ofValue,Sem.run_bind,Sem.run_pure,Result.andThen_ok,invoke,Y8 m,Zz];simp
 unfold EH;rw[i];simp only[JC];refine(h.run w ρ _ q t (Z1 F n)).mono λe G ⟨v,u,k,s,r,x⟩=>?_;subst s;exact y u v G k r x
def wL{P:BA}(F:ρ.gl=P.g)(J:SM w ρ sl a)(y:OM w ρ ob){l:Op}{f:Nat}{d:List A}(i:I.Ak P.p l (.CQ f d)=true)(h:Cm P f (d.map (A.ev sl)) ob K):K5 P.p a w ρ l K:=by
 cases l<;>simp only[I.Ak,BO]at i;rename_i c;obtain⟨n,as,N⟩:=c;cases n<;>(try simp only[BO]at i);rename_i g;cases g<;>(try simp only[BO]at i);simp only[BB,C9]at i;obtain⟨⟨rfl,q⟩,s⟩:=i;intro o H next Q G
 have j:(execOp a.eval o).run P.p w=.ok (.enter f (as.toList.map a.eval).toArray) w:=by
  have:a.eval (.func f)=.func (.func f) #[] #[]:=rfl;simp only[execOp,H,resolve,this,Deferred.ofValue,Sem.run_bind,Sem.run_pure,Result.andThen_ok,invoke,Y8 q,Zz];simp
 unfold EH;rw[j];simp only[JC];refine(h.run w ρ _ y F (Z1 J s)).mono λe L ⟨v,b,m,u,k,z,r,o,t,x⟩=>?_;subst z;exact G u v b L m k r o t x
def X1q{P:BA}(N:ρ.gl=P.g)(F:SM w ρ sl a)(y:OM w ρ ob){X:Op}{x:A}{d:List A}(z:I.Ak P.p X (.Cp x d)=true)(h:V2 P (d.map (A.ev sl)) ob K Pn (x.ev sl)):Ja P.p a w ρ X K Pn:=by
 cases X<;>simp only[I.Ak,BO]at z;rename_i c;obtain⟨l,as,ts⟩:=c;cases l<;>(try simp only[BO]at z);rename_i g;simp only[BB]at z;obtain⟨h1,J⟩:=z;have i:=A.Az F h1;unfold V2 at h;split at h
 next f fi l m=>rw[m,NJ]at i;obtain⟨G,H,i,Y,Z⟩:=i;refine UL N (args:=G++as.toList.map a.eval++H) (λo n=>?_) h.2 y (CC (CC Y (Z1 F J)) Z);simp only[execOp,n,resolve,i,Deferred.ofValue,Sem.run_bind,Sem.run_pure,Result.andThen_ok,invoke,Y8 h.1,Zz];simp
 next f fi l m=>rw[m,Sn]at i;obtain⟨G,H,i,Y,Z⟩:=i;refine UL N (args:=G++as.toList.map a.eval++H) (λo n=>?_) h.2 y (CC (CC Y (Z1 F J)) Z);simp only[execOp,n,resolve,i,Deferred.ofValue,Sem.run_bind,Sem.run_pure,Result.andThen_ok,invoke,Y8 h.1,Zz];simp
 ·rename_i id m;rw[m,L4]at i;obtain⟨O,hy⟩:=h;rcases i with⟨b,L,i⟩|⟨L,_⟩
  ·simp only[Ke]at i;obtain⟨fn,tm,l,cb,W,U⟩:=hy.run w ρ _ b y N (Z1 F J) L;intro o n next Q hn hq
   have q:(execOp a.eval o).run P.p w=.ok (.round b fn tm l cb) w:=by
    simp only[execOp,n,resolve,i,Deferred.ofValue,Sem.run_bind,Sem.run_pure,Result.andThen_ok,invoke];simpa[Zz]using W
   unfold EH;rw[q];simp only[JC];refine U.mono λe w' ⟨j,s,t,k,r,o1,t1⟩=>?_;cases e with
   |returned u=>
    cases j with
    |ret v=>exact hn u v s w' t k r o1 t1
    |panic v=>cases r
   |panicked ch=>
    cases j with
    |ret v=>cases r
    |panic v=>obtain⟨u,rfl,r⟩:=r;exact hq u v s w' t k r o1 t1
   |outgrown=>cases j<;>cases r
  ·exfalso;unfold S7 at O;split at O
   next T=>obtain⟨b,_,_,_,_,_,_,h5,_⟩:=y.BW id _ T;rw[L]at h5;cases h5
   ·exact O
 ·cases h
def Ygl(i:SM w ρ sl a)(f:OM w ρ ob){c:Op}{x:A}(e:I.Ak P c (.Lj x)=true)(h:HA K (Du ob (x.ev sl))):Ja P a w ρ c K Pn:=by
 cases b:Du ob (x.ev sl) with
 |none=>simp[b,HA]at h
 |some q=>
  obtain⟨d,k⟩:=q;simp only[b,HA]at h;cases c<;>simp[I.Ak]at e
  all_goals
   have l:=A.Az i e;obtain⟨p,n,j,m⟩:=VP f l b;exact Xw (λo g=>by simp[execOp,g]) h m j n
def Ygg(z:SM w ρ sl a)(j:OM w ρ ob){i:Op}{n:Nat}{e:Bool}{x:A}(r:I.Ak P i (.JO n e x)=true)(h:LW n e ob K (x.ev sl)):Ja P a w ρ i K Pn:=by
 have f:C.Ak P i (.ld n e x)=true:=r;unfold LW at h;split at h
 ·rename_i id p k;cases b:DL ob id p with
  |none=>simp[b,MB]at h
  |some v=>
   simp only[b,MB]at h;obtain⟨l,m,h⟩:=h;cases g:Du ob v with
   |none=>simp[g,HA]at h
   |some q=>
    obtain⟨d,H⟩:=q;simp only[g,HA]at h;obtain⟨u,y,F,t,c⟩:=SZ (K:=λy=>y=v) z j f (by rw[k];simp only[En,b,GU];exact⟨l,m,trivial⟩);subst F;obtain⟨N,L,G,J⟩:=VP j t g;exact Xw (λo s=>c o s w (λ_=>B5.refl w)) h J G L
 ·cases h
def Ygh(hs:SM w ρ sl a)(U:OM w ρ ob){op:Op}{n:Nat}{J:Bool}{x:A}(hc:I.Ak P op (.Kh n J x)=true)(h:Om n J ob K (x.ev sl)):Ja P a w ρ op K Pn:=by
 cases op<;>simp[I.Ak]at hc;rename_i t y;obtain⟨⟨⟨hn,hu⟩,k⟩,h1⟩:=hc;have H:=A.Az hs h1;unfold Om at h;split at h
 ·rename_i id p e1;rw[e1]at H;cases e:DL ob id p with
  |none=>simp[e,SJ]at h
  |some v=>
   simp only[e,SJ]at h;obtain⟨h2,Q,h⟩:=h;cases X:DC 40000 ob v with
   |none=>simp[X,SI]at h
   |some q=>
    obtain⟨d,F⟩:=q;simp only[X,SI]at h;obtain⟨Y,h⟩:=h;obtain⟨g,b',cs,E,g1,g2,N,g4,g5⟩:=M9 U e;obtain⟨b,sh,u,H⟩:=Bp U g1 H;rw[u]at N;simp only[CJ,RO.box.injEq]at N;obtain⟨rfl,rfl⟩:=N;obtain⟨c1,c,c3,e2,e3,j⟩:=JV p g v cs g5 g2;obtain⟨⟨G,t1,o1,hx,Z⟩,hk⟩:=dG 40000 v ob ρ c d F U j X;have f:AB F id=some (.box E g):=by
     rcases hk id with T|T
     ·rw[T,g1]
     ·rw[T]at h;cases h
    rw[f]at h;simp only[XU]at h;obtain⟨t',s,hK⟩:=h;have z:G.m id=some (.box b g.shape):=by
     obtain⟨o',p1,p2⟩:=t1.same id _ u;obtain⟨b2,aa,q1,_⟩:=o1.BW id _ f;rw[p1]at q1;cases p2 with
     |refl=>exact p1
     |An=>cases q1
     |grow _ hh=>rcases hh with⟨hq,_⟩|⟨_,_,hq⟩<;>cases hq
    have O:=IN t1 _ _ g5;obtain⟨ab,L,e5,h6⟩:=PR p g v (.d d) cs c O g2 (by simpa only[V.Al]using hx) (by simpa only[V.shape]using Y);rw[s]at L;simp only[CJ]at L;subst L;have e7:cs.take (g.shape.off p)++(c++cs.drop (g.shape.off p+c.length))=cs:=by
     rw[<-e3,e2];simp
    rw[e7]at h6;have o2:=o1.swap f (x':=.box E t') ⟨b,cs,by rw[e5];exact z,g4,h6⟩;have hl:c.length=n:=by rw[FQ _ _ j,<-h2];rfl
    have r:=Xzl (P:=P) (t:=t) (n:=n) hn hu (b:=b) (off:=g.shape.off p) (cs:=c) hl (w':=w) (λi hi=>by
     rw[<-e3];simp[World.cell?,g4,e2,JY,hi]) (λj=>by rw[k]at j;rw[j]at Q;rw[<-h2];exact Uv Q)
    have l:=J1 (w:=w) (ρ:=G) (v:=.d d) (cs:=c) (by simpa only[V.Al]using hx);have W:(V.d d).isAgg=J:=by
     rw[<-Q,<-Z];cases d<;>rfl
    rw[W]at l;refine Xw (λo ho=>?_) hK l o2 t1;simp only[execOp,ho,H,Sem.run_bind,r,Result.andThen_ok,Sem.run_pure,k]
 ·cases h
def Xzv(r:OM w ρ ob){E z:Nat}{y x:V}{p:List Nat}(h:HW ob E z p y K x):∃n m,Tr w ρ w n/\OM w n m/\K y m:=by
 unfold HW at h;split at h
 ·rename_i id q;unfold ME at h;split at h
  ·rename_i F t s;rcases h with⟨k,h⟩|⟨_,h⟩
   case inr=>exact⟨ρ,ob,Tr.refl w ρ,r,h⟩
   obtain⟨b,c,X,G,Y⟩:=r.BW id _ s;have g:id≠AA ob:=by intro e;subst e;rw[X0]at s;cases s
   have l:∀b,RO.CG.blk? = some b->w.heap.size<=b:=λb L=>by simp[RO.blk?]at L
   have N:=Uo w (B5.refl w) (o:=.CG) (r.free (X0 ob)) l;have o1:OM w (ρ.Be (AA ob) .CG) ((AA ob,.BG E z [])::ob):=r.Be (B5.refl w) (X0 ob) l (.inl ⟨by simp[A9.Be],rfl⟩);have i:=IN N _ _ Y;obtain⟨c1,c2,c3,O,Q,H⟩:=JV (q++p) t (.d .Ad) c i k;simp only[V.Al,D.Ax]at H;subst H;obtain⟨t',T,U,J⟩:=PR (q++p) t (.d .Ad) (.sl (AA ob) 0) c [.slice none 0 0] i k (by simp only[V.Al];exact⟨.CG,_,by simp[A9.Be],rfl,rfl,rfl⟩) (by simp[V.shape,D.shape]);rw[T]at h;simp only[Od]at h;have W:c.take (t.shape.off (q++p))++([Value.slice none 0 0]++c.drop (t.shape.off (q++p) + [Value.slice none 0 0].length))=c:=by
    rw[<-Q,O];simp
   rw[W]at J;have u:AB ((AA ob,Ob.BG E z [])::ob) id=some (.box F t):=by simp[AB,g.symm,s]
   obtain⟨t2,v⟩:=Dy o1 (t':=t') u (by simp[A9.Be,g,X]) G U J;have hw:w.setRow b c.toArray=w:=by
    have:w.heap[b]? = some (.cells c.toArray F (0,0)):=G;obtain⟨L,Z⟩:=Array.getElem?_eq_some_iff.1 this;unfold World.setRow;have hh:(w.heap.modify b λo=>match o with|.cells _ e f=>.cells c.toArray e f|o=>o)=w.heap:=by
     apply Array.ext_getElem?;intro j;rw[OE];split
     next e=>subst e;rw[this];simp
     ·rfl
    cases w;simp only[World.mk.injEq,Gg,true_and];exact hh
   rw[hw]at t2 v;simp only[AG,g.symm,Bs]at v;exact⟨_,_,N,v,h⟩
  ·cases h
 ·cases h
def Xzw{y x:V}:∀{l:List (Nat×Nat×List Nat)} {ρ ob},OM w ρ ob->I3 y K x l ob->∃c b,Tr w ρ w c/\OM w c b/\K y b
|[],ρ,ob,d,h=>⟨ρ,ob,Tr.refl w ρ,d,h⟩
|e::l,ρ,ob,d,h=>by
 obtain⟨q,n,o,k,i⟩:=Xzv d h;obtain⟨g,f,p,m,j⟩:=Xzw k i;exact⟨g,f,o.trans p,m,j⟩
def Ygm(j:SM w ρ sl a)(g:OM w ρ ob){b:Op}{E d:Nat}{y x:A}{p:List Nat}(c:I.Ak P b (.JQ E d y x p)=true)(h:HW ob E d p (y.ev sl) K (x.ev sl)):Ja P a w ρ b K Pn:=by
 obtain⟨n,l,e,k,f⟩:=Xzv g h;cases b<;>simp[I.Ak]at c
 all_goals
  have m:=A.Az j c;exact Xw (λo i=>by simp[execOp,i]) f (Gw e m) k e
def Ygn(i:SM w ρ sl a)(f:OM w ρ ob){b:Op}{y x:A}{l:List (Nat×Nat×List Nat)}(c:I.Ak P b (.JR y x l)=true)(h:I3 (y.ev sl) K (x.ev sl) l ob):Ja P a w ρ b K Pn:=by
 obtain⟨n,k,d,j,e⟩:=Xzw f h;cases b<;>simp[I.Ak]at c
 all_goals
  have m:=A.Az i c;exact Xw (λo g=>by simp[execOp,g]) e (Gw d m) j d
def lE(hs:SM w ρ sl a){z:List D}{Xs:List (Nat×A)}{t e:TypeId}{c f:Nat}{l:Array (Nat×Operand)}{K:List V->Prop}(O:P.underlying t=some (.slice e))(he:Yl P e=some f)
 (hp:Vs l.toList Xs=true) (hl:z.length=c) (aa:c*f<=2 ^ 24) (hu:∀x∈z,x.sz=f) (T:(match Sl P e c f with|some k=>HK z k|none=>false)=true)
 (h:EU (z.map .d) (Xs.map λ(i,x)=>(i,x.ev sl)) K):
 ∃g k,K g/\Bz w ρ g k/\g.map V.shape=(z.map V.d).map V.shape/\∀o:Oper,o.op=.buildSlice t c l->(execOp a.eval o).run P w=.ok (.value (.slice (some ⟨w.heap.size,0,none⟩) c c)) (Ee w (.cells k.toArray e)):=by
 cases b:Sl P e c f with
 |none=>simp[b]at T
 |some k=>
  simp only[b]at T;have H:Bz w ρ (z.map .d) k:=(JU z k).2 (T5 z k T);have n:∀i,i<((z.map V.d).map V.shape).length->(λi=>some (i*f,f)) i=some (Sh.BX (((z.map V.d).map V.shape).take i),(((z.map V.d).map V.shape).getD i .AR).size):=by
   intro i hi;have G:i<z.length:=by simpa using hi
   have Q:z[i].shape.size=f:=by rw[Cb];exact hu _ (Ci G)
   rw[<-sG,Er (sz:=f) _ (λx Q=>hu x (F1 Q)),Fm,Gx (by omega)];simp[G,V.shape,Q]
  have s:∀(g:List V) (l:List (Nat×V)) (K:List V->Prop),EU g l K->EU g l (λq=>K q/\q.map V.shape=g.map V.shape):=by
   intro g l;induction l generalizing g with
   |nil=>intro K h;exact⟨h,rfl⟩
   |cons p r ih=>
    obtain⟨i,v⟩:=p;intro K h;simp only[EU]at h⊢;obtain⟨W,X,h3,h4⟩:=h;refine⟨W,X,h3,?_⟩;have Y:=ih (g.set i v) K h4;have e:(g.set i v).map V.shape=g.map V.shape:=by
     rw[GG,X];apply Rv;intro j;by_cases hj:i=j
     ·subst hj;rw[Kw];simp[W]
     ·rw[Kw];simp[hj]
    rw[e]at Y;exact Y
  obtain⟨q,J,⟨hK,N⟩,hR,Z⟩:=dn (sl:=sl) hs (λi=>some (i*f,f)) ((z.map V.d).map V.shape) n l.toList Xs (z.map .d) k _ hp H rfl (s _ _ _ h);refine⟨q,J,hK,hR,N,λo ho=>?_⟩;have m:∀F:Operand->Value,(l.map λ(i,x)=>(i,F x)).toList=l.toList.map λ(i,x)=>(i,F x):=λF=>by simp
  simp only[execOp,ho,Instr.buildSlice,Sem.run_bind,Xa O,X2 he,Result.andThen_ok,m];rw[Aq (by omega)];unfold Sl at b;by_cases L:c*f=0
  ·simp only[L,Bu,CJ]at b;subst b;simp only[L,Bu,Sem.run_pure];have:(Array.map (λx=>(#[]:Array Value)[x % (#[]:Array Value).size]!) (Array.range 0))=([]:List Value).toArray:=by simp
   simp only[this,Z,newRow,Sem.run_bind,run_newObj,Result.andThen_ok,Sem.run_pure];rfl
  ·simp only[L,Bs]at b⊢;cases y:U3 P e with
   |none=>simp[y]at b
   |some zc=>
    simp only[y,Option.map_some,CJ]at b;obtain⟨U,e1,_,u⟩:=Qz y;have e2:U.cells=zc.toArray:=by rw[<-e1]
    have e3:Array.map (λx=>U.cells[x % U.cells.size]!) (Array.range (c*f))=k.toArray:=by
     rw[e2,<-b,Array.toArray_toList]
    simp only[Sem.run_bind,u,Result.andThen_ok,Sem.run_pure,e3,Z,newRow,run_newObj];rfl
def wH{l z:List D}{f:Nat}(h:(l.map V.d).map V.shape=(z.map V.d).map V.shape)(g:∀x∈z,x.sz=f):l.length=z.length/\∀x∈l,x.sz=f:=by
 have b:l.length=z.length:=by simpa using Cc List.length h
 refine⟨b,λx j=>?_⟩;obtain⟨i,e,rfl⟩:=List.getElem_of_mem j;have c:=Cc (λs:List Sh=>(s.getD i .AR).size) h;simp only[Gy,List.getElem?_map,DN e,DN (b▸e),Option.map_some,Option.getD_some,V.shape,Cb]at c;rw[c];exact g _ (Ci _)
def gd{z:List D}{Xs:List (Nat×A)}{op:Op}{sz:Nat}{E? : Option Nat}
 (c:QN P op E? sz z Xs=true):
 ∃t b d e,op=.buildSlice t b d/\P.underlying t=some (.slice e)/\(∀E,E? = some E->e=E)/\Yl P e=some sz/\Vs d.toList Xs=true/\z.length=b/\b*sz<=2 ^ 24/\(∀x∈z,x.sz=sz)/\(match Sl P e b sz with|some g=>HK z g|none=>false)=true:=by
 cases op<;>simp only[QN,BO]at c;rename_i t b d;simp only[BB]at c;obtain⟨o,c⟩:=c;split at c
 next e f=>simp only[BB,C9,DK,Es]at c;obtain⟨⟨⟨⟨⟨h,i⟩,j⟩,k⟩,l⟩,m⟩:=c;refine⟨t,b,d,e,rfl,f,λE n=>?_,i,o,j,k,l,m⟩;subst n;simpa using h
 ·simp at c
def Xyp(T:SM w ρ sl a)(s:OM w ρ ob){op:Op}{sz:Nat}{z:List D}{Xs:List (Nat×A)}(L:I.Ak P op (.GW sz z Xs)=true)
 (h:EU (z.map .d) (Xs.map λ(i,x)=>(i,x.ev sl)) λq=>dK (λl=>K (.d (.AH sz l)) ob) (CA q)):IU P a w ρ op ob K:=by
 obtain⟨t,r,W,e,rfl,p,_,N,Q,v,j,y,U⟩:=gd (P:=P) (op:=op) (z:=z) (Xs:=Xs) (sz:=sz) (E?:=none) L;obtain⟨q,f,k,u,n,c⟩:=lE T p N Q v j y U h;cases m:CA q with
 |none=>simp[m,dK]at k
 |some l=>
  simp only[m,dK]at k;have F:=V.CI m;subst F;rw[JU]at u;obtain⟨G,H⟩:=wH n y;have b:=Wa w (.cells f.toArray e);refine⟨_,_,_,k,Za.2 (.inr ⟨_,r,f,by rw[G,v],by omega,?_,GF (b.tr (ρ:=ρ)).mono _ _ u,H⟩),b,c⟩;refine⟨λ_=>⟨rfl,?_,?_⟩,λi O=>?_⟩
  ·rintro (⟨id,o,g,J⟩|g)
   ·have:=Qa s g J;simp at this
   ·have:=s.E9 _ g;simp at this
  ·have:=Wi w (.cells f.toArray e);exact Xl this
  ·simp[World.cell?,Wi,O]
def x7(W:SM w ρ sl a)(y:OM w ρ ob){op:Op}{E sz:Nat}{z:List D}{Xs:List (Nat×A)}(Q:I.Ak P op (.HZ E sz z Xs)=true)
 (h:EU (z.map .d) (Xs.map λ(i,x)=>(i,x.ev sl)) λu=>dK (λl=>K (.sl (AA ob) l.length) ((AA ob,.BG E sz l)::ob)) (CA u)):K5 P a w ρ op K:=by
 have c:=X0 ob;obtain⟨t,Y,Z,e,rfl,s,N,T,U,F,m,G,X⟩:=gd (P:=P) (op:=op) (z:=z) (Xs:=Xs) (sz:=sz) (E?:=some E) Q;obtain rfl:=N E rfl;obtain⟨u,k,n,p,r,j⟩:=lE W s T U F m G X h;cases q:CA u with
 |none=>simp[q,dK]at n
 |some l=>
  simp only[q,dK]at n;have J:=V.CI q;subst J;rw[JU]at p;obtain⟨L,v⟩:=wH r G;have f:=Wa w (.cells k.toArray e);have g:∀b,(RO.BG w.heap.size l.length l.length).blk? = some b->w.heap.size<=b:=λb O=>by simp[RO.blk?]at O;omega
  have H:=Uo _ f (o:=.BG w.heap.size l.length l.length) (y.free c) g;refine Wu j n (Y3.2 ⟨_,by simp[A9.Be];rfl,?_⟩) (y.Be f c g ?_) H f
  ·simp only[RO.slice];exact⟨Bg _,⟨_,_,_,rfl⟩,λ_=>by rw[L,F]⟩
  ·refine .inr ⟨w.heap.size,l.length,k,[],by simp[A9.Be],by simpa using Wi w (.cells k.toArray e),GF H.mono _ _ p,v,?_⟩;rw[GJ,Gv _ _ p,Er _ v]
def Xik{l:List V}{z:List D}{f:Nat}(h:l.map V.shape=(z.map V.d).map V.shape)(g:∀x∈z,x.sz=f):l.length=z.length/\∀x∈l,x.size=f:=by
 have b:l.length=z.length:=by simpa using Cc List.length h
 refine⟨b,λx j=>?_⟩;obtain⟨i,e,rfl⟩:=List.getElem_of_mem j;have c:=Cc (λs:List Sh=>(s.getD i .AR).size) h;simp only[Gy,List.getElem?_map,DN e,DN (b▸e),Option.map_some,Option.getD_some,V.shape,Cb]at c;unfold V.size;rw[c];exact g _ (Ci _)
def x8(Q:SM w ρ sl a)(r:OM w ρ ob){op:Op}{E sz:Nat}{z:List D}{Xs:List (Nat×A)}(L:I.Ak P op (.IC E sz z Xs)=true)
 (h:EU (z.map .d) (Xs.map λ(i,x)=>(i,x.ev sl)) λf=>K (.sl (AA ob) f.length) ((AA ob,.Ay E sz f)::ob)):K5 P a w ρ op K:=by
 have c:=X0 ob;obtain⟨t,U,W,e,rfl,p,G,N,O,u,m,v,T⟩:=gd (P:=P) (op:=op) (z:=z) (Xs:=Xs) (sz:=sz) (E?:=some E) L;obtain rfl:=G E rfl;obtain⟨f,l,H,s,n,k⟩:=lE Q p N O u m v T h;obtain⟨F,q⟩:=Xik n v;have g:=Wa w (.cells l.toArray e);have j:∀b,(RO.BG w.heap.size f.length f.length).blk? = some b->w.heap.size<=b:=λb J=>by simp[RO.blk?]at J;omega
 have y:=Uo _ g (o:=.BG w.heap.size f.length f.length) (r.free c) j;refine Wu k H (Y3.2 ⟨_,by simp[A9.Be];rfl,?_⟩) (r.Be g c j ?_) y g
 ·simp only[RO.slice];exact⟨Bg _,⟨_,_,_,rfl⟩,λ_=>by rw[F,u]⟩
 ·refine .inr ⟨w.heap.size,f.length,l,[],by simp[A9.Be],by simpa using Wi w (.cells l.toArray e),HJ y _ _ s,q,?_⟩;rw[GJ,Mw _ _ s,V.Bj,Yg (z:=sz) _ q]
def VU(d:OM w ρ ob){id:Nat}{x G:Ob}{o:RO}{u:World}(F:AB ob id=some x)(t:Tr w ρ u (ρ.Be id o))(L:Je u (ρ.Be id o) id G)
 (n:∀b,o.blk? = some b->w.heap.size<=b\/∃p,ρ.m id=some p/\p.blk? = some b) (J:∀j p b,j≠id->ρ.m j=some p->p.blk? = some b->u.heap[b]? = w.heap[b]?):OM u (ρ.Be id o) (AG ob id G):=by
 refine⟨λj y s=>?_,λj p H=>?_,λi j p q b f c g k=>?_,λb n=>OD (d.E9 b n) t.size,Ly t d.EF,λb f c=>?_,d.Cn.set⟩
 ·rw[Xb ob id j ⟨_,F⟩]at s;split at s
  next e=>subst e;simp at s;subst s;exact L
  next e=>exact Je.tr t (d.BW j y s) (by simp[A9.Be,e]) (λb p f c=>J j p b e f c)
 ·rw[Xb ob id j ⟨_,F⟩];split
  ·exact⟨_,rfl⟩
  next e=>exact d.EY j p (by simpa[A9.Be,e]using H)
 ·simp only[A9.Be]at f c;split at f
  ·rename_i z;split at c
   next v=>exact z.trans v.symm
   ·simp at f;subst f;rcases n b g with h|⟨r,h,l⟩
    ·have:=Qa d c k;omega
    ·subst z;exact d.inj _ _ _ _ _ h c l k
  ·split at c
   ·rename_i v;simp at c;subst c;rcases n b k with h|⟨r,h,l⟩
    ·have:=Qa d f g;omega
    ·subst v;exact d.inj _ _ _ _ _ f h g l
   ·exact d.inj i j p q b f c g k
 ·obtain⟨i,p,g,k⟩:=f;simp only[A9.Be]at g c;split at g
  ·simp at g;subst g;rcases n b k with h|⟨r,h,l⟩
   ·have:=d.E9 b c;omega
   ·exact d.Dm b ⟨_,r,h,l⟩ c
  ·exact d.Dm b ⟨i,p,g,k⟩ c
def Yj.len:∀{b:List (D×V)} {l:List MapEntry},Yj w ρ b l->l.length=b.length
|[],l,h=>by simp only[Yj]at h;subst h;rfl
|(k,v)::r,l,h=>by obtain⟨e,d,rfl,_,_,c⟩:=h;simp[Yj.len c]
def Yj.Nz:∀{c:List (D×V)} {l:List MapEntry},Yj w ρ c l->∀(i:Nat)(e:MapEntry),l[i]? = some e->(c.getD i default).1.key=some e.key/\(c.getD i default).2.Ax w ρ e.val
|[],l,h,i,e,b=>by simp only[Yj]at h;subst h;simp at b
|(k,v)::r,l,h,0,e,b=>by obtain⟨j,m,rfl,d,f,g⟩:=h;simp at b;subst b;exact⟨d,f⟩
|(k,v)::r,l,h,i+1,e,b=>by obtain⟨j,m,rfl,d,f,g⟩:=h;simpa using Yj.Nz g i e (by simpa using b)
def FW.Nz:∀{l:List MapEntry}{n:Nat},FW n l->∀(i:Nat)(e:MapEntry),l[i]? = some e->e.born=n+i
|[],n,h,i,e,b=>by simp at b
|x::r,n,h,0,e,b=>by simp at b;subst b;simpa using h.1
|x::r,n,h,i+1,e,b=>by have:=FW.Nz h.2 i e (by simpa using b);omega
def FW.mem{l:List MapEntry}(h:FW 0 l){e:MapEntry}(c:e∈l):e.born<l.length/\l[e.born]? = some e:=by
 obtain⟨i,b,rfl⟩:=List.mem_iff_getElem.1 c;have:=FW.Nz h i _ (DN b);rw[Kx]at this;exact⟨by omega,by rw[this];exact DN b⟩
def FW.find{l:List MapEntry}(h:FW 0 l){i:Nat}{e:MapEntry}(c:l[i]? = some e):l.find? (·.born==i)=some e:=by
 cases d:l.find? (·.born==i) with
 |none=>
  have:=List.find?_eq_none.1 d e (List.mem_of_getElem? c);have b:=FW.Nz h i e c;rw[Kx]at b;simp[b]at this
 |some x=>
  have f:=List.find?_some d;have b:=(FW.mem h (List.mem_of_find?_eq_some d)).2;have g:x.born=i:=by simpa using f
  rw[g,c]at b;exact b.symm▸rfl
def Ju{g:Nat->Prop}:∀{e:List D}{b:List Value},Ui e=some b->Bq w g e b
|[],b,h=>by simp only[Ui,CJ]at h;subst h;rfl
|x::r,b,h=>by
 simp only[Ui]at h;split at h
 next u c d f=>cases h;simp only[Bq];refine⟨[u],c,rfl,?_,Ju f⟩;cases x<;>simp only[D.F8,CJ,reduceCtorEq]at d<;>subst d<;>simp[D.Ax]
 ·cases h
def Zx{o:Option (List Value)}{u:Value}(h:XJ o=some u):∃b,o=some b/\u=.agg b.toArray:=by
 cases o with
 |none=>cases h
 |some b=>cases h;exact⟨b,rfl,rfl⟩
def uk{d:D}{u:Value}(h:d.key=some u):(V.d d).Ax w ρ u:=by
 cases d<;>simp only[D.key,CJ,reduceCtorEq]at h
 ·subst h;exact Yf.2 rfl
 ·subst h;exact BR.2 rfl
 ·subst h;exact CO.2 rfl
 ·obtain⟨c,b,rfl⟩:=Zx h;exact .inr (.inl ⟨rfl,c,rfl,by simp only[V.Al,D.Ax];exact Ju b⟩)
def ZY(h:OM w ρ ob)(o:Obj)(x:Ob)(f:Je (Ee w o) (ρ.Be (AA ob) (.map w.heap.size)) (AA ob) x):
 Tr w ρ (Ee w o) (ρ.Be (AA ob) (.map w.heap.size))/\OM (Ee w o) (ρ.Be (AA ob) (.map w.heap.size)) ((AA ob,x)::ob)/\B5 w (Ee w o):=by
 have d:=Wa w o;have e:=X0 ob;exact⟨Uo _ d (o:=.map w.heap.size) (h.free e) (λb c=>by simp[RO.blk?]at c;omega),h.Be d e (λb c=>by simp[RO.blk?]at c;omega) f,d⟩
def yA(N:SM w ρ sl a)(m:OM w ρ ob){r:Op}{x:A}(z:I.Ak P r (.Km x)=true)(h:MS ob K (x.ev sl) (AB ob (RT (x.ev sl)))):K5 P a w ρ r K:=by
 cases r<;>simp only[I.Ak,BO,BB]at z;rename_i t y;obtain⟨i,O⟩:=z;obtain⟨F,u,i⟩:∃F u,P.underlying t=some (.map F u):=by revert i;split<;>simp_all
 have c:=A.Az N O;generalize x.ev sl=v at h c;unfold MS at h;split at h
 ·rename_i id H g;simp only[RT]at g;obtain⟨b,l,G,k,J,L,rfl,T⟩:=m.BW id _ g;rw[QX]at c;rcases c with⟨Q,d,c⟩|⟨d,_⟩
  ·rw[k]at d;cases d;have n:id≠AA ob:=λe=>by rw[e,X0]at g;cases g
   obtain⟨s,q,j⟩:=ZY m (.mapIter (some b) l.length #[] l.length) (.it (some id) H.length []) ⟨w.heap.size,b,by simp[A9.Be],.inl (by simp[A9.Be,n,k]),by rw[Wi,L.len]⟩;refine Wu (λo p=>?_) h (L4.2 (.inl ⟨w.heap.size,by simp[A9.Be],rfl⟩)) q s j;have f:(getObj b).run P w=.ok (.map l.toArray l.length) w:=by simp[getObj,Sem.run,J]
   simp only[execOp,p,Instr.range,c,Sem.run_bind,Xa i,Result.andThen_ok,f,run_newObj,Sem.run_pure];rfl
  ·rw[k]at d;cases d
 ·rw[SW]at c;obtain⟨s,q,j⟩:=ZY m (.mapIter none 0 #[] 0) (.it none 0 []) ⟨w.heap.size,by simp[A9.Be],by rw[Wi]⟩;refine Wu (λo p=>?_) h (L4.2 (.inl ⟨w.heap.size,by simp[A9.Be],rfl⟩)) q s j;simp only[execOp,p,Instr.range,c,Sem.run_bind,Xa i,Result.andThen_ok,run_newObj,Sem.run_pure];rfl
 ·cases h
def sN(h:OM w ρ ob){id b:Nat}{y x:Ob}{o:Obj}(k:AB ob id=some y)(l:ρ.m id=some (.map b))(s:b<w.heap.size)(r:Je (EV w b o) ρ id x):
 Tr w ρ (EV w b o) ρ/\OM (EV w b o) ρ (AG ob id x):=by
 have g:Tr w ρ (EV w b o) ρ:=by
  refine⟨by rw[Ud];exact Bg _,λj f _=>Wf w _ (λe=>f ?_),λ_ h=>.inl h,rfl,rfl,λ_ o h=>⟨o,h,.refl o⟩,rfl,rfl,rfl,Bg _⟩;subst e;exact⟨id,_,l,rfl⟩
 refine⟨g,λj z c=>?_,λj o f=>?_,h.inj,λi d=>by rw[Ud];exact h.E9 i d,Ly g h.EF,h.Dm,h.Cn.set⟩
 ·rw[Xb ob id j ⟨_,k⟩]at c;split at c
  next e=>subst e;simp at c;subst c;exact r
  next e=>refine Je.tr g (h.BW j z c) rfl (λi o p q=>Wf w _ (λn=>e ?_));subst n;exact h.inj j id _ _ _ p l q rfl
 ·rw[Xb ob id j ⟨_,k⟩];split
  ·exact⟨_,rfl⟩
  ·exact h.EY j o f
def UR{b:Nat}{o y:Obj}(w:World)(c:w.heap[b]? = some y)(d:y.isCells=false):(setObj b o).run P w=.ok () (EV w b o):=by
 cases y<;>simp_all[setObj,Sem.run,EV,Obj.isCells]
def Yh3(P:Program)(w:World){n:Nat}(c:0<n):∃k b,(choose (.mapNext n)).run P w=.ok k b/\k<n/\B5 w b/\b.heap=w.heap:=by
 rw[run_choose_drew];split
 ·exact⟨0,w,rfl,c,B5.refl w,rfl⟩
 ·exact⟨_,_,rfl,Nat.mod_lt _ c,PT w _,rfl⟩
def Ygo(hs:SM w ρ sl a)(T:OM w ρ ob){op:Op}{x:A}(Y:I.Ak P op (.Lk x)=true)(h:No ob K (x.ev sl)):Ja P a w ρ op K Pn:=by
 cases op<;>simp only[I.Ak,BO]at Y;rename_i y st;cases st<;>simp only[BO]at Y;have q:=A.Az hs Y;generalize x.ev sl=v at h q;unfold No at h;split at h
 ·rename_i id;have H:(V.BT [.d (.bool false)]).Ax w ρ (.tuple #[.bool false]):=by
   rw[CP];exact⟨[.bool false],rfl,by simp only[V.A8];exact⟨_,_,rfl,BR.2 rfl,rfl⟩⟩
  unfold MH at h;split at h
  ·rename_i n sn hl;obtain⟨b,L,F⟩:=T.BW id _ hl;rw[L4]at q;rcases q with⟨b',s,q⟩|⟨s,_⟩
   ·rw[L]at s;cases s;simp only[Ke]at q;have m:(getObj b).run P w=.ok (.mapIter none 0 #[] 0) w:=by simp[getObj,Sem.run,F]
    exact Xw (λo ho=>by simp[execOp,ho,Instr.next,q,m]) h H T (Tr.refl _ _)
   ·rw[L]at s;cases s
  ·rename_i j n seen hl;obtain⟨b,Q,L,F,g3⟩:=T.BW id _ hl;rw[L4]at q;rcases q with⟨b',s,q⟩|⟨s,_⟩
   ·rw[L]at s;cases s;simp only[Ke]at q;unfold Pz at h;split at h
    ·rename_i es ao;obtain⟨ad,aq,ak⟩:=h;obtain⟨ax,l,au,m1,m2,m3,rfl,m5⟩:=T.BW j _ ao;rcases F with F|F
     ·rw[m1]at F;cases F;have ae:l.length=n:=by rw[m3.len,ad]
      have m:(getObj b).run P w=.ok (.mapIter (some Q) n seen.toArray n) w:=by simp[getObj,Sem.run,g3]
      have aa:(getObj Q).run P w=.ok (.map l.toArray l.length) w:=by simp[getObj,Sem.run,m2]
      have G:(!seen.toArray.isEmpty&&!l.toArray.isEmpty&&l.toArray.all (λe=>decide (e.born≥n)))=false:=by
       cases l with
       |nil=>simp
       |cons e r=>
        have h0:=m5.1;have:decide (e.born≥n)=false:=by simp[h0];rw[<-ae];simp
        simp[this]
      let left:Array MapEntry:=l.toArray.filter λe=>!seen.toArray.contains e.born;have ah:left.filter (λe=>decide (e.born<n))=left:=by
       rw[Array.filter_eq_self];intro e he;have t:=(Array.mem_filter.1 he).1;have:=(FW.mem m5 (by simpa using t)).1;simp;omega
      have af:left.filter (λe=>decide (e.born≥n))=#[]:=by
       rw[Array.filter_eq_empty_iff];intro e he;have t:=(Array.mem_filter.1 he).1;have:=(FW.mem m5 (by simpa using t)).1;simp;omega
      have z:Array.filter (λx=>decide (x.born<n)) (Array.filter (λe=>!seen.toArray.contains e.born) l.toArray)=left:=ah;have u:Array.filter (λx=>decide (x.born≥n)) (Array.filter (λe=>!seen.toArray.contains e.born) l.toArray)=#[]:=af;let f:Array (Option MapEntry):=(if left.isEmpty then #[none] else #[])++(left++#[]).map some;have aj:0<f.size:=by
       simp only[f];cases g:left.isEmpty with
       |true=>simp;omega
       |false=>simp[Array.isEmpty_iff]at g;simp;exact Array.size_pos_iff.2 g
      obtain⟨k,J,ac,av,O,ab⟩:=Yh3 P w aj;have U:=T.ext O;cases p:f[k]? with
      |none=>simp[Array.getElem?_eq_none_iff]at p;omega
      |some c=>
       cases c with
       |none=>
        have g:left.isEmpty=true:=by
         cases g:left.isEmpty with
         |true=>rfl
         |false=>
          exfalso;simp only[f,g,BO,Bs]at p;simp at p
        have W:(List.range n).all (λi=>seen.contains i)=true:=by
         rw[Es];intro i hi;have hi:=OF.1 hi;have an:i<l.length:=by omega
         have hb:=FW.Nz m5 i _ (DN an);rw[Kx]at hb;cases Y:seen.contains i with
         |true=>rfl
         |false=>
          exfalso;have:l[i]∈left:=by
           simp only[left,Array.mem_filter];refine⟨by simp,?_⟩;rw[hb];simpa using Y
          simp[Array.isEmpty_iff]at g;rw[g]at this;simp at this
        refine Xw (w':=J) (ρ':=ρ) (λo ho=>?_) (aq W) H U O.tr;simp only[execOp,ho,Instr.next,q,Sem.run_bind,m,Result.andThen_ok,aa,G,BO,Bs];rw[z,u]
        change ((Sem.run P (choose (.mapNext f.size)) w).andThen _).andThen _=_
        rw[ac];simp only[Result.andThen_ok]
        change (Sem.run P (match f[k]? with|some (some e)=>_|some none=>_|none=>_) J).andThen _=_
        rw[p];simp
       |some e=>
        have Z:e∈left:=by
         have N:some e∈f:=UF p;simp only[f,Array.append_empty,Array.mem_append,Array.mem_map]at N;rcases N with N|⟨e',t,N⟩
         ·split at N<;>simp at N
         ·cases N;exact t
        obtain⟨al,ap⟩:=Array.mem_filter.1 Z;obtain⟨aw,g⟩:=FW.mem m5 (e:=e) (by simpa using al);have ag:seen.contains e.born=false:=by simpa using ap
        obtain⟨n1,n2⟩:=m3.Nz e.born e g;have X:b<J.heap.size:=by rw[ab];exact Xl g3
        obtain⟨t2,o2⟩:=sN (o:=.mapIter (some Q) n (seen++[e.born]).toArray n) U hl L X (x:=.it (some j) n (seen++[e.born])) ⟨b,Q,L,.inl m1,VA J _ X⟩;have t3:=O.tr.trans t2;refine Xw (ρ':=ρ) (v:=.tuple #[.bool true,e.key,e.val]) (λo ho=>?_) (ak e.born (by omega) ag) ?_ o2 t3
        ·simp only[execOp,ho,Instr.next,q,Sem.run_bind,m,Result.andThen_ok,aa,G,BO,Bs];rw[z,u]
         change ((Sem.run P (choose (.mapNext f.size)) w).andThen _).andThen _=_
         rw[ac];simp only[Result.andThen_ok]
         change (Sem.run P (match f[k]? with|some (some e)=>_|some none=>_|none=>_) J).andThen _=_
         rw[p];have ai:(setObj b (.mapIter (some Q) n (seen.toArray.push e.born) l.length)).run P J=.ok () (EV J b (.mapIter (some Q) n (seen++[e.born]).toArray n)):=by
          rw[ae];have:(seen.toArray.push e.born)=(seen++[e.born]).toArray:=by simp
          rw[this];exact UR J (y:=.mapIter (some Q) n seen.toArray n) (by rw[ab];exact g3) rfl
         simp only[Sem.run_bind,ai,Result.andThen_ok,Sem.run_pure]
        ·rw[CP];refine⟨_,rfl,?_⟩;simp only[V.A8];exact⟨_,_,rfl,BR.2 rfl,_,_,rfl,uk n1,_,_,rfl,Gw t3 n2,rfl⟩
     ·rw[m1]at F;cases F
    ·cases h
   ·rw[L]at s;cases s
  ·cases h
 ·cases h
def Xyq(hs:SM w ρ sl a)(H:OM w ρ ob){u:Op}{x:A}(J:I.Ak P u (.Kb x)=true)(h:Nd ob (λv=>K v ob) (x.ev sl)):IU P a w ρ u ob K:=by
 cases u<;>simp only[I.Ak,BO]at J;rename_i y;have e:=A.Az hs J;generalize x.ev sl=v at h e;unfold Nd at h;split at h
 ·rename_i id;unfold Pu at h;split at h
  ·rename_i j n seen Z;obtain⟨t,h⟩:=h;unfold Pt at h;split at h
   ·rename_i es q;obtain⟨Y,k,G⟩:=h;obtain⟨b,Q,F,c,X⟩:=H.BW id _ Z;obtain⟨aa,l,W,N,m2,O,rfl,m5⟩:=H.BW j _ q;rw[L4]at e;rcases e with⟨b',f,e⟩|⟨f,_⟩
    ·rw[F]at f;cases f;rcases c with c|c
     ·rw[N]at c;cases c;simp only[Ke]at e;have s:l.length=n:=by rw[O.len,k]
      have g:(getObj b).run P w=.ok (.mapIter (some Q) n seen.toArray n) w:=by simp[getObj,Sem.run,X]
      have p:(getObj Q).run P w=.ok (.map l.toArray l.length) w:=by simp[getObj,Sem.run,m2]
      have m:seen.toArray.back? = some (seen.getLastD 0):=by
       rw[List.back?_toArray];cases seen with
       |nil=>exact absurd rfl t
       |cons x r=>simp[List.getLastD,List.getLast?_eq_some_getLast]
      generalize seen.getLastD 0=i at Y G m;have d:l[i]? = some (l[i]'(by omega)):=DN (by omega);have L:=m5.find d;obtain⟨T,U⟩:=O.Nz _ _ d;generalize l[i]'(by omega)=z at d L T U;refine⟨.tuple #[z.key,z.val],_,w,G,?_,B5.refl w,λo ho=>?_⟩
      ·rw[CP];refine⟨_,rfl,?_⟩;simp only[V.A8];exact⟨_,_,rfl,uk T,_,_,rfl,U,rfl⟩
      ·simp[execOp,ho,Instr.entry,e,g,m,p,s,L]
     ·rw[N]at c;cases c
    ·rw[F]at f;cases f
   ·cases h
  ·cases h
 ·cases h
def xd(Q:SM w ρ sl a)(N:OM w ρ ob){m:Op}{x:A}(d:I.Ak P m (.FG x)=true)(h:LD ob (λv=>K v ob) (x.ev sl)):IU P a w ρ m ob K:=by
 cases m<;>simp only[I.Ak,BO]at d;rename_i c;obtain⟨r,f,T⟩:=c;cases r<;>(try simp only[BO]at d);rename_i b;cases b<;>(try simp only[BO]at d);split at d
 ·rename_i y t u z;simp only[BB]at d;obtain⟨J,L⟩:=d;obtain⟨q,j,p⟩:∃q j,P.underlying t=some (.map q j):=by revert J;split<;>simp_all
  have e:=A.Az Q L;have F:f=#[y]:=by simpa using Cc List.toArray u
  have j:T=#[t]:=by simpa using Cc List.toArray z
  subst F j;generalize x.ev sl=v at h e;unfold LD at h;split at h
  ·rename_i id;unfold Px at h;split at h
   ·rename_i W O;obtain⟨b,l,s,n,G,H,rfl,X⟩:=N.BW id _ O;rw[QX]at e;rcases e with⟨U,g,e⟩|⟨g,_⟩
    ·rw[n]at g;cases g;have i:(getObj b).run P w=.ok (.map l.toArray l.length) w:=by simp[getObj,Sem.run,G]
     refine⟨_,_,w,h,Yf.2 rfl,B5.refl w,λo k=>?_⟩;simp[execOp,k,resolve,invoke,builtin,Builtin.len_,e,Xa p,goInt,i,H.len]
    ·rw[n]at g;cases g
   ·cases h
  ·rw[SW]at e;refine⟨_,_,w,h,Yf.2 rfl,B5.refl w,λo k=>?_⟩;simp[execOp,k,resolve,invoke,builtin,Builtin.len_,e,Xa p,goInt]
  ·cases h
 ·simp at d
def Ygx{t e:TypeId}(c:P.underlying t=some (.slice e))(x:Option Addr)(n m:Nat)(b:World):(Op.equal t (.slice x n m) (.slice none 0 0)).run P b=.ok x.isNone b:=by
 have:∀d,(Op.equalIn (d+1) t (.slice x n m) (.slice none 0 0)).run P b=.ok x.isNone b:=λd=>by cases x<;>simp[Op.equalIn,Xa c]
 exact this 9999
def Ygv{t k e:TypeId}(c:P.underlying t=some (.map k e))(x:Option Nat)(b:World):(Op.equal t (.map x) (.map none)).run P b=.ok x.isNone b:=by
 have:∀d,(Op.equalIn (d+1) t (.map x) (.map none)).run P b=.ok x.isNone b:=λd=>by cases x<;>simp[Op.equalIn,Xa c]
 exact this 9999
def X1y(c:BinOp)(t:TypeId)(x y:Operand)(b:Option Addr)(n m:Nat)(v:Value)(d:World):(eqGuard c t x y (.slice b n m) v).run P d=.ok () d:=by
 cases c<;>simp[eqGuard]
def Xr1(c:BinOp)(t:TypeId)(x y:Operand)(b:Option Nat)(v:Value)(d:World):(eqGuard c t x y (.map b) v).run P d=.ok () d:=by
 cases c<;>simp[eqGuard]
def Xys(hs:SM w ρ sl a)(O:OM w ρ ob){Y:Op}{e m:Bool}{x:A}(Q:I.Ak P Y (.Ip e m x)=true)(h:IX ob e (λv=>K v ob) m (x.ev sl)):IU P a w ρ Y ob K:=by
 cases Y<;>simp only[I.Ak,BO]at Q;rename_i F t H y1 t2;simp only[BB]at Q;obtain⟨⟨L,h1⟩,s⟩:=Q;have c:=A.Az hs h1;generalize x.ev sl=v at h c;unfold Y0b at s;split at s
 ·rename_i el n m' X;simp only[BB,C9]at s;obtain⟨rfl,rfl⟩:=s;have i:∀{u:Option Addr}{n m:Nat},a.eval H=.slice u n m->K (.d (.bool (if u.isNone then e else !e))) ob->IU P a w ρ (.binOp F t H (.const (.slice none 0 0)) t2) ob K:=by
   intro u n m r g;have T:a.eval (.const (.slice none 0 0))=.slice none 0 0:=rfl;refine⟨_,_,w,g,BR.2 rfl,B5.refl w,λo W=>?_⟩;cases u<;>cases F<;>simp only[np,BO]at L<;>(try (cases e<;>simp at L))<;>simp[execOp,W,r,T,X1y,binOp,Ygx X]
  unfold IX at h;split at h
  next U=>cases U
  next U=>cases U
  ·rw[Vv]at c;exact i c h
  ·rename_i xs _;rw[Za]at c;rcases c with⟨rfl,c⟩|⟨ad,f,vs,c,_⟩
   ·exact i c (h.2 rfl)
   ·exact i c h.1
  ·rename_i id k _;rw[Y3]at c;obtain⟨o,J,g2⟩:=c;have j:∀b q f,o=.BG b q f->k=q->K (.d (.bool !e)) ob->IU P a w ρ (.binOp F t H (.const (.slice none 0 0)) t2) ob K:=by
    intro b q f r e2 g;subst r;simp only[RO.slice]at g2;exact i (g2.2.2 e2) (by simpa using g)
   unfold lQ at h;split at h
   ·rename_i E sz xs y;obtain⟨rfl,p,g⟩:=h;rcases O.BW id _ y with⟨_,Z⟩|⟨b,f,cs,sp,G,_⟩
    ·exact absurd Z p
    ·rw[J]at G;cases G;exact j _ _ _ rfl rfl g
   ·rename_i E sz xs y;obtain⟨rfl,p,g⟩:=h;rcases O.BW id _ y with⟨_,Z⟩|⟨b,f,cs,sp,G,_⟩
    ·exact absurd Z p
    ·rw[J]at G;cases G;exact j _ _ _ rfl rfl g
   ·cases h
  ·cases h
 ·rename_i k el X;have z:∀{u:Option Nat},a.eval H=.map u->K (.d (.bool (if u.isNone then e else !e))) ob->IU P a w ρ (.binOp F t H (.const (.map none)) t2) ob K:=by
   intro u r g;have T:a.eval (.const (.map none))=.map none:=rfl;refine⟨_,_,w,g,BR.2 rfl,B5.refl w,λo W=>?_⟩;cases u<;>cases F<;>simp only[np,BO]at L<;>(try (cases e<;>simp at L))<;>simp[execOp,W,r,T,Xr1,binOp,Ygv X]
  unfold IX at h;split at h
  ·rename_i id _;unfold RR at h;split at h
   ·rename_i es y;obtain⟨b,l,aa,J,_⟩:=O.BW id _ y;rw[QX]at c;rcases c with⟨b',N,c⟩|⟨N,_⟩
    ·exact z c (by simpa using h)
    ·rw[J]at N;cases N
   ·cases h
  ·rw[SW]at c;exact z c h
  all_goals first|contradiction|cases h
 ·cases s
def Yhl{t f:Nat}{nm:String}{v:Value}{b:TypeInfo}{m:Method}(d:P.info? t=some b)(g:b.methods.find? (·.name==nm)=some m)(h:m.path=#[])(c:m.func=some (f,true)){e:TypeId}(i:P.underlying t=some (.pointer e))(k:Nat):
 (method (k+1) t v nm).run P w=.ok (f,v) w:=by
 simp only[method,Sem.run_bind,run_typeInfo w d,Result.andThen_ok,g,h,follow,Sem.run_pure,c,receiverAt,Xa i,Place.get]
def Ygf{P:BA}(hg:ρ.gl=P.g)(hs:SM w ρ sl a)(hO:OM w ρ ob){op:Op}{nm:String}{t f:Nat}{fl:Option (Nat×Nat×Nat×Bool)}{x:A}{i:List A}(hc:I.Ak P.p op (.Kf nm t f fl x i)=true)
 (h:Oo P t f fl (i.map (A.ev sl)) ob K Pn (x.ev sl)):Ja P.p a w ρ op K Pn:=by
 cases op<;>simp only[I.Ak,BO]at hc;rename_i c;obtain⟨ca,as,ts⟩:=c;cases ca<;>(try simp only[BO]at hc);rename_i rc m0;simp only[BB,C9]at hc;obtain⟨⟨⟨rfl,h1⟩,h2⟩,b⟩:=hc;have X:=A.Az hs h1;generalize x.ev sl=v at h X;unfold Oo at h;split at h
 ·rename_i F id p;obtain⟨rfl,Z,hr⟩:=h;rw[W6 (by simp[V.isAgg]) (by simp)]at X;simp only[V.Al,HN,Gg]at X;obtain⟨c,X,j⟩:=X;have O:(V.ptr id p).Ax w ρ c:=by
   rcases j with j|⟨q,_⟩|⟨_,j⟩
   ·cases j
   ·simp[V.isAgg]at q
   ·exact VI.2 j
  obtain⟨u,rfl⟩:=wF O;have L:∃rv r,(method (P.p.types.size+Made.depth) F (.pointer (some u)) m0).run P.p w=.ok (f,rv) w/\r.Ax w ρ rv/\AX P f (r::i.map (A.ev sl)) ob (Fs K Pn):=by
   unfold Yw6 at b;split at b
   ·rename_i m J;obtain⟨d,hi,J⟩:∃d,P.p.info? F=some d/\d.methods.find? (·.name==m0)=some m:=by
     cases hi:P.p.info? F with
     |none=>rw[hi]at J;cases J
     |some d=>rw[hi]at J;exact⟨d,rfl,J⟩
    split at b
    ·rename_i g H;simp only[BB,C9]at b;obtain⟨⟨rfl,N⟩,a0⟩:=b;obtain⟨e,ht⟩:∃e,P.p.underlying F=some (.pointer e):=by revert a0;split<;>simp_all
     have N:m.path=#[]:=by simpa[Array.isEmpty_iff]using N
     exact⟨_,_,Yhl hi J N H ht _,O,hr⟩
    ·rename_i fi fo n ag g H;simp only[BB,C9]at b;obtain⟨rfl,b⟩:=b;split at b
     ·rename_i s av;simp only[BB,C9]at b;obtain⟨⟨al,ap⟩,b⟩:=b;split at b
      ·rename_i ah U;split at b
       ·rename_i y G;simp only[BB,C9,bne_iff_ne,ne_eq]at b;obtain⟨⟨⟨⟨⟨ho,ae⟩,au⟩,ak⟩,aa⟩,z⟩:=b;simp only[NZ]at hr;let a2:Act:=⟨#[.pointer (some u)],[]⟩
        have ay:SM w ρ [(0,.ptr id p)] a2:=by
         intro k;simp only[A7];split
         next e=>subst e;exact O
         ·exact J0
        have an:K0 P.p s.struct fi=some y:=by simp[K0,U,G]
        obtain⟨v2,y2,ai,aw,Q⟩:=xE (P:=P.p) (a:=a2) (f:=fi) (fo:=fo) (x:=.t 0) (op:=.fieldAddr s.struct (.tmp 0) fi) ay hO (by simp[C.Ak,an,ho,ae,au,A.Ak]) (by simpa[A.ev,A7]using hr)
        have Y:=Q ⟨none,.fieldAddr s.struct (.tmp 0) fi,0, "", #[],none⟩ rfl w (λ_=>B5.refl w)
        obtain⟨l,ao,rfl⟩:∃l,(fieldPlace u y).run P.p w=.ok l w/\v2=.pointer (some l):=by
         have ea:a2.eval (.tmp 0)=.pointer (some u):=rfl;simp only[execOp,ea,Instr.fieldAt,Sem.run_bind,Xa U,Result.andThen_ok,G,Instr.sureAddr,Sem.run_pure]at Y;cases hq:(fieldPlace u y).run P.p w with
         |ok l w'=>simp[hq]at Y;exact⟨l,by rw[Y.2],Y.1.symm⟩
         |halt q w'=>simp[hq]at Y
        let a3:Act:=⟨#[.pointer (some l)],[]⟩
        have az:SM w ρ [(0,y2)] a3:=by
         intro k;simp only[A7];split
         next e=>subst e;exact aw
         ·exact J0
        obtain⟨v3,y3,aj,ax,T⟩:=SZ (P:=P.p) (a:=a3) (n:=n) (ag:=ag) (x:=.t 0) (op:=.load y.type (.tmp 0)) az hO (by simp[C.Ak,ae,z,ak,A.Ak]) (by simpa[A.ev,A7]using ai)
        have W:=T ⟨none,.load y.type (.tmp 0),0, "", #[],none⟩ rfl w (λ_=>B5.refl w)
        have aq:(loadVar y.type l).run P.p w=.ok v3 w:=by
         have ea:a3.eval (.tmp 0)=.pointer (some l):=rfl;simp only[execOp,ea,Instr.loadAt,Sem.run_bind,Instr.sureAddr,Sem.run_pure,Result.andThen_ok]at W;revert W;generalize (loadVar y.type l).run P.p w=a1;intro W;cases a1 with
         |ok x w'=>simp at W;obtain⟨rfl,rfl⟩:=W;rfl
         |halt x w'=>simp at W
        refine⟨v3,y3,?_,ax,aj⟩;subst ap;have hk:P.p.types.size+Made.depth=(P.p.types.size+99)+1:=rfl;rw[hk];generalize P.p.types.size+99=kf;obtain⟨td,af⟩:=Kt.1 z;have ab:∀e,td≠.pointer e:=λe he=>by rw[af,he]at aa;simp at aa
        have ac:∀wr,(receiverAt y.type (.var l) false wr).run P.p w=.ok v3 w:=by
         intro wr;unfold receiverAt;simp only[Sem.run_bind,Xa af,Result.andThen_ok];cases td<;>first|exact absurd rfl (ab _)|(simp only[Place.get];exact aq)
        simp only[method,Sem.run_bind,run_typeInfo w hi,Result.andThen_ok,J,av,follow,Xa U,G,al,Bu,Place.get,Sem.run_pure,asAddr,ao,H,ac]
       ·cases b
      ·cases b
     ·cases b
    ·cases b
   ·cases b
  obtain⟨rv,r,q1,q2,q3⟩:=L;refine UL hg (args:=rv::as.toList.map a.eval) (λo ho=>?_) q3 hO (by simp only[V.A8];exact⟨_,_,rfl,q2,Z1 hs h2⟩);have e0:(#[Value.iface F (.pointer (some u))]++Array.map a.eval as)[0]? = some (.iface F (.pointer (some u))):=by simp[M5]
  have e1:(#[Value.iface F (.pointer (some u))]++Array.map a.eval as).extract 1 (#[Value.iface F (.pointer (some u))]++Array.map a.eval as).size=Array.map a.eval as:=by
   apply Array.ext';simp;exact M6 (by simp)
  simp only[execOp,ho,resolve,X,Sem.run_bind,Sem.run_pure,Result.andThen_ok,invoke,e0,e1,callMethod];have hp:∀w,(program).run P.p w=.ok P.p w:=λ_=>rfl;simp only[Sem.run_bind,hp,Result.andThen_ok,q1,Y8 Z];congr 2;apply Array.ext';simp
 ·cases h
def Yu{id:Nat}{o:RO}:(ρ.Be id o).m id=some o:=by simp[A9.Be]
def yP(n:Nat):∀(r c:Nat),c<=2*n+192->Builtin.growBy n r c<=2*n+192
|0,c,h=>by simpa[Builtin.growBy]using h
|r+1,c,h=>by
 simp only[Builtin.growBy];split
 ·exact h
 ·exact yP n r _ (by omega)
def X2g{b c:Nat}(h:c<b):Builtin.nextslicecap b c<=2*b+192:=by
 unfold Builtin.nextslicecap;split
 ·omega
 ·split
  ·omega
  ·exact yP b 4 c (by omega)
def Yda{m:Nat}{v:V}{x:Value}{K:List D->Prop}(k:v.Ax w ρ x)(h:KN m K v):
 ∃c d,K c/\Bq w (CH ρ) c d/\(∀y∈c,y.sz=m)/\(∀b,(Builtin.lenOf x).run P b=.ok c.length b)/\∀b,b.heap=w.heap->(Builtin.firstCells m c.length x).run P b=.ok d.toArray b:=by
 unfold KN at h;split at h
 ·rename_i z c;obtain⟨rfl,h⟩:=h;rw[Za]at k;rcases k with⟨rfl,rfl⟩|⟨p,q,d,rfl,n,f,i,o⟩
  ·exact⟨[],[],h,by simp[Bq],by simp,λb=>by simp[Builtin.lenOf],λb _=>by simp[Builtin.firstCells]⟩
  ·refine⟨c,d,h,i,o,λb=>by simp[Builtin.lenOf],λb t=>?_⟩;have s:d.length=c.length*z:=by rw[Gv _ _ i,Er _ o]
   simp only[Builtin.firstCells,<-s];exact run_loadCells_list b p d (λj u r=>by
    obtain⟨g,e⟩:=Ek.1 r;have l:d≠[]:=by intro h;simp[h]at g
    rw[Addr.By (f.1 l).1,cell?_congr (w:=w) (w':=b) (by rw[t]),<-e];exact f.2 j g)
 ·rw[Vv]at k;subst k;exact⟨[],[],h,by simp[Bq],by simp,λb=>by simp[Builtin.lenOf],λb _=>by simp[Builtin.firstCells]⟩
 ·cases h
structure FP(P:Program)(t t2 E sz B:Nat):Prop where
 u1:P.underlying t=some (.slice E)
 u2:(∃e,P.underlying t2=some (.slice e))\/P.underlying t2=some .string
 Ct:∃i z,P.info? E=some i/\i.size=sz/\i.bytes=B/\i.zero=some z/\z.cells.size=sz
 b0:B≠0
 s0:sz≠0
def Xyv{t l ty E k B:Nat}(T:FP P t l E k B){f:Option Addr}{b c n:Nat}{x:Value}{m o:List Value}
 (Z:∀e,(Builtin.lenOf x).run P e=.ok n e) (U:∀e,e.heap=w.heap->(Builtin.firstCells k n x).run P e=.ok o.toArray e)
 (X:∀e,e.heap=w.heap->(Builtin.firstCells k b (.slice f b c)).run P e=.ok m.toArray e) (h:c<b+n) (N:(2*(b+n)+192)*B<=281474976710656):
 ∃d g,b+n<=d/\g.length=(d-(b+n))*k/\
  (Builtin.append_ #[t,l] ty #[.slice f b c,x]).run P w=.ok (.slice (some ⟨w.heap.size,0,none⟩) (b+n) d) (Ee {w with drawn:=w.drawn+1} (.cells ((m++o)++g).toArray E)):=by
 obtain⟨i,z,p,G,H,J,L⟩:=T.Ct;have q:Yl P E=some k:=by simp[Yl,p,G]
 have r:∀e,(typeInfo E).run P e=.ok i e:=λe=>by simp[typeInfo,p]
 have s:∀e,(zeroValue E).run P e=.ok z e:=λe=>by simp[zeroValue,typeInfo,p,J]
 have j:=X2g h;have W:Builtin.nextslicecap (b+n) c*B<=281474976710656:=IQ (PY B j) N;have Y:(Question.appendCap (b+n) c E).forced=false:=rfl;refine⟨(Question.appendCap (b+n) c E).cut (w.tape w.drawn (.appendCap (b+n) c E)),(Builtin.zeroCells z.cells ((Question.appendCap (b+n) c E).cut (w.tape w.drawn (.appendCap (b+n) c E))-(b+n))).toList,?_,?_,?_⟩
 ·simp[Question.cut]
 ·simp[Builtin.zeroCells,L]
 ·generalize Q:(Question.appendCap (b+n) c E).cut (w.tape w.drawn (.appendCap (b+n) c E))=d;unfold Builtin.append_;have v:(#[t,l]:Array TypeId)[0]? = some t:=rfl;have y:(#[t,l]:Array TypeId)[1]? = some l:=rfl;rcases T.u2 with⟨e2,u⟩|u
  all_goals
   simp only[v,y,List.getElem?_toArray,List.getElem?_cons_zero,List.getElem?_cons_succ,Sem.run_bind,Xa T.u1,Xa u,Result.andThen_ok,X2 q,Sem.run_pure,Z,BO,Bs,Bool.not_false,Bu];rw[Aq (by omega)];have O:¬(Builtin.nextslicecap (b+n) c*B > 2 ^ 48):=by omega
   simp only[O,T.b0,or_self,and_false,Bs,Sem.run_bind,run_choose,Y,BO,Q,Result.andThen_ok,run_askRoom,r,H,X {w with drawn:=w.drawn+1} rfl,U {w with drawn:=w.drawn+1} rfl,s,newRow,run_newObj,Sem.run_pure];have F:(m.toArray++o.toArray)++Builtin.zeroCells z.cells (d-(b+n))=((m++o)++(Builtin.zeroCells z.cells (d-(b+n))).toList).toArray:=by apply Array.ext';simp
   rw[F];rfl
def Xyx{t p ty E e B:Nat}(T:FP P t p E e B){b c d n:Nat}{x:Value}{j q g:List Value}
 (Q:∀h,(Builtin.lenOf x).run P h=.ok n h) (N:∀h,h.heap=w.heap->(Builtin.firstCells e n x).run P h=.ok g.toArray h)
 (L:w.heap[b]? = some (.cells (List.toArray (j++q)) E (0,0))) (r:j.length=c*e) (u:g.length=n*e) (l:(j++q).length=d*e) (m:∀v∈g,v.oneCell'=true) (f:c+n<=d):
 (Builtin.append_ #[t,p] ty #[.slice (some ⟨b,0,none⟩) c d,x]).run P w=.ok (.slice (some ⟨b,0,none⟩) (c+n) d) (w.setRow b ((j++g)++q.drop g.length).toArray):=by
 obtain⟨i,z,O,J,W,X,Y⟩:=T.Ct;have s:Yl P E=some e:=by simp[Yl,O,J]
 unfold Builtin.append_;have G:(#[t,p]:Array TypeId)[0]? = some t:=rfl;have H:(#[t,p]:Array TypeId)[1]? = some p:=rfl;have y:c*e+n*e<=d*e:=by rw[<-Hs];exact PY e f
 have o:=run_storeCells_at (P:=P) b (c*e) E g 0 (j++q).toArray w L (by rw[u,List.size_toArray,l];omega) m;have k:(⟨b,0,none⟩:Addr).add (c*e)=⟨b,c*e,none⟩:=by rw[Addr.By rfl];simp
 rcases T.u2 with⟨U,F⟩|F
 all_goals
  simp only[G,H,List.getElem?_toArray,List.getElem?_cons_zero,List.getElem?_cons_succ,Sem.run_bind,Xa T.u1,Xa F,Result.andThen_ok,X2 s,Sem.run_pure,Q,BO,Bs,Bool.not_false,Bu];rw[BS f];simp only[Sem.run_bind,N w rfl,Result.andThen_ok,k,o,Sem.run_pure];congr 3;rw[Nat.add_zero,<-r];simp[List.drop_append]
def Xyw{t e l E d B:Nat}(T:FP P t e E d B){x:Value}
 (k:∀b,(Builtin.lenOf x).run P b=.ok 0 b) (h:∀b,b.heap=w.heap->(Builtin.firstCells d 0 x).run P b=.ok #[] b):
 (Builtin.append_ #[t,e] l #[.slice none 0 0,x]).run P w=.ok (.slice none 0 0) w:=by
 obtain⟨i,z,j,g,n,o,p⟩:=T.Ct;have c:Yl P E=some d:=by simp[Yl,j,g]
 unfold Builtin.append_;rcases T.u2 with⟨m,f⟩|f<;>simp[Xa T.u1,Xa f,X2 c,k,h w rfl]
def Xyu{t t2 ty E m B:Nat}(T:FP P t t2 E m B)(J:OM w ρ ob){id:Nat}{f ys:List D}{s x:Value}{L:List Value}(hl:AB ob id=some (.BG E m f))
 (W:(V.sl id f.length).Ax w ρ s) (Z:Bq w (CH ρ) ys L) (hu:∀y∈ys,y.sz=m)
 (hx:∀d,(Builtin.lenOf x).run P d=.ok ys.length d) (hf:∀d,d.heap=w.heap->(Builtin.firstCells m ys.length x).run P d=.ok L.toArray d)
 (hB:(2*(f.length+ys.length)+192)*B<=281474976710656):
 ∃v d z,(Builtin.append_ #[t,t2] ty #[s,x]).run P w=.ok v d/\Tr w ρ d z/\OM d z (AG ob id (.BG E m (f++ys)))/\(V.sl id (f.length+ys.length)).Ax d z v:=by
 rw[Y3]at W;obtain⟨o,g,W⟩:=W;have Y:=J.BW id _ hl;have ab:L.length=ys.length*m:=by rw[Gv _ _ Z,Er _ hu]
 -- a new row,from whatever was there
 have grow:∀(N:Option Addr)(l:Nat)(G:List Value),s=.slice N f.length l->Bq w (CH ρ) f G->(∀y∈f,y.sz=m)->
  (∀d,d.heap=w.heap->(Builtin.firstCells m f.length (.slice N f.length l)).run P d=.ok G.toArray d)->l<f.length+ys.length->
  (o=.CG/\f.length=0\/∃b c,o=.BG b f.length c)->f.length<=l->
  ∃v d z,(Builtin.append_ #[t,t2] ty #[s,x]).run P w=.ok v d/\Tr w ρ d z/\OM d z (AG ob id (.BG E m (f++ys)))/\(V.sl id (f.length+ys.length)).Ax d z v:=by
  intro N l G es ag af ad aa ho ac;subst es;obtain⟨F,X,g1,g2,g3⟩:=Xyv (ty:=ty) T hx hf ad aa hB;have he:B5 w (Ee {w with drawn:=w.drawn+1} (.cells ((G++L)++X).toArray E)):=(PT w _).trans (Wa _ _);have t1:Tr w ρ (Ee {w with drawn:=w.drawn+1} (.cells ((G++L)++X).toArray E)) (ρ.Be id (.BG w.heap.size (f.length+ys.length) F)):=by
   refine⟨he.size,λb _ h=>he.keep b h,λb h=>?_,rfl,rfl,λj p Q=>?_,he.tape,he.os,he.Ck,he.drawn⟩
   ·obtain⟨j,p,H,q2⟩:=h;simp only[A9.Be]at H;split at H
    ·simp at H;subst H;simp[RO.blk?]at q2;exact .inr (by omega)
    ·exact .inl ⟨j,p,H,q2⟩
   ·by_cases ej:j=id
    ·subst ej;refine⟨_,Yu,.grow (n:=f.length) (by omega) ?_⟩;rw[g]at Q;simp at Q;subst Q;exact ho
    ·exact⟨p,by simp[A9.Be,ej,Q],.refl p⟩
  refine⟨_,_,_,g3,t1,VU J hl t1 (.inr ⟨w.heap.size,F,G++L,X,by simp[A9.Be],Wi _ _,T1 (GF t1.mono _ _ ag) (GF t1.mono _ _ Z),?_,?_⟩) (λb hb=>?_) (λj p b hj h2 h3=>he.keep b (Qa J h2 h3)),?_⟩
  ·intro y i;rcases DT.1 i with i|i
   ·exact af y i
   ·exact hu y i
  ·have O:G.length=f.length*m:=by rw[Gv _ _ ag,Er _ af]
   rw[C7,C7,g2,O,ab,<-Hs,<-Hs];congr 1;omega
  ·simp[RO.blk?]at hb;exact .inl (by omega)
  ·rw[Y3];refine⟨_,Yu,?_⟩;exact⟨Bg _,⟨_,_,_,rfl⟩,λ_=>rfl⟩
 rcases Y with⟨Y,rfl⟩|⟨b,q,G,sp,Y,h2,h3,h4,h5⟩
 ·-- nothing yet
  rw[g]at Y;simp at Y;subst Y;simp only[RO.slice]at W;obtain⟨_,rfl⟩:=W;by_cases i:ys=[]
  ·subst i;have ai:L=[]:=by simpa using ab
   subst ai;refine⟨_,w,ρ,Xyw T hx (λd hw=>hf d hw),Tr.refl _ _,?_,?_⟩
   ·refine⟨λj y i=>?_,λj p Q=>?_,J.inj,J.E9,J.EF,J.Dm,J.Cn.set⟩
    ·rw[Xb ob id j ⟨_,hl⟩]at i;split at i
     next e=>subst e;simp at i;subst i;exact .inl ⟨g,rfl⟩
     ·exact J.BW j y i
    ·rw[Xb ob id j ⟨_,hl⟩];split
     ·exact⟨_,rfl⟩
     ·exact J.EY j p Q
   ·rw[Y3];exact⟨_,g,rfl,rfl⟩
  ·refine grow none 0 [] rfl (by simp[Bq]) (by simp) (λd _=>by simp[Builtin.firstCells]) ?_ (.inl ⟨rfl,rfl⟩) (Bg _);cases ys with
   |nil=>exact absurd rfl i
   |cons y r=>simp
 ·rw[g]at Y;simp at Y;subst Y;obtain⟨_,_,W⟩:=W;have W:=W rfl;have O:G.length=f.length*m:=by rw[Gv _ _ h3,Er _ h4]
  have ac:f.length<=q:=by
   have:f.length*m<=q*m:=by rw[<-h5,<-O];simp
   exact R1 this (OC T.s0)
  by_cases U:f.length+ys.length<=q
  ·subst W;have ae:=Xyx (ty:=ty) T hx hf h2 O ab h5 (T6 ys L Z) U;have t1:Tr w ρ (w.setRow b ((G++L)++sp.drop L.length).toArray) (ρ.Be id (.BG b (f.length+ys.length) q)):=by
    refine⟨by simp,λj hj _=>setRow_other w b j _ (λe=>hj ?_),λj h=>?_,rfl,rfl,λj p Q=>?_,rfl,rfl,rfl,Bg _⟩
    ·subst e;exact⟨id,_,g,rfl⟩
    ·obtain⟨k,p,H,q2⟩:=h;simp only[A9.Be]at H;split at H
     ·simp at H;subst H;simp[RO.blk?]at q2;subst q2;exact .inl ⟨id,_,g,rfl⟩
     ·exact .inl ⟨k,p,H,q2⟩
    ·by_cases ej:j=id
     ·subst ej;rw[g]at Q;simp at Q;subst Q;refine⟨_,Yu,?_⟩;cases ys with
      |nil=>exact .refl _
      |cons y r=>exact .grow (n:=f.length) (by simp) (.inr ⟨_,_,rfl⟩)
     ·exact⟨p,by simp[A9.Be,ej,Q],.refl p⟩
   refine⟨_,_,_,ae,t1,VU J hl t1 (.inr ⟨b,q,G++L,sp.drop L.length,by simp[A9.Be],setRow_heap w b _ _ E _ h2,T1 (GF t1.mono _ _ h3) (GF t1.mono _ _ Z),?_,?_⟩) (λb' hb=>?_) (λj p b' hj H q2=>setRow_other w b b' _ (λe=>hj ?_)),?_⟩
   ·intro y i;rcases DT.1 i with i|i
    ·exact h4 y i
    ·exact hu y i
   ·have aj:f.length*m+ys.length*m<=q*m:=by rw[<-Hs];exact PY m U
    simp only[C7,List.length_drop]at h5⊢;omega
   ·simp[RO.blk?]at hb;subst hb;exact .inr ⟨_,g,rfl⟩
   ·subst e;exact J.inj j id _ _ _ H g q2 rfl
   ·rw[Y3];refine⟨_,Yu,?_⟩;exact⟨Bg _,⟨_,_,_,rfl⟩,λ_=>rfl⟩
  ·refine grow (some ⟨b,0,none⟩) q G W h3 h4 (λd hw=>?_) (by omega) (.inr ⟨_,_,rfl⟩) ac;simp only[Builtin.firstCells,<-O];exact run_loadCells_list d _ G (λj u hj=>by
    obtain⟨ah,e⟩:=Ek.1 hj;rw[Addr.By rfl,cell?_congr (w:=w) (w':=d) (by rw[hw])];simp[World.cell?,h2,JY,ah,e])
def dO{t t2 ty E m B:Nat}(T:FP P t t2 E m B)(J:OM w ρ ob){id:Nat}{f ys:List V}{s x:Value}{L:List Value}(hl:AB ob id=some (.Ay E m f))
 (W:(V.sl id f.length).Ax w ρ s) (ai:Hp ys=true) (Z:Bz w ρ ys L) (hu:∀y∈ys,y.size=m)
 (hx:∀d,(Builtin.lenOf x).run P d=.ok ys.length d) (hf:∀d,d.heap=w.heap->(Builtin.firstCells m ys.length x).run P d=.ok L.toArray d)
 (hB:(2*(f.length+ys.length)+192)*B<=281474976710656):
 ∃v d z,(Builtin.append_ #[t,t2] ty #[s,x]).run P w=.ok v d/\Tr w ρ d z/\OM d z (AG ob id (.Ay E m (f++ys)))/\(V.sl id (f.length+ys.length)).Ax d z v:=by
 rw[Y3]at W;obtain⟨o,g,W⟩:=W;have Y:=J.BW id _ hl;have ab:L.length=ys.length*m:=by rw[Mw _ _ Z,V.Bj,Yg _ hu]
 -- a new row,from whatever was there
 have grow:∀(N:Option Addr)(l:Nat)(G:List Value),s=.slice N f.length l->Bz w ρ f G->(∀y∈f,y.size=m)->
  (∀d,d.heap=w.heap->(Builtin.firstCells m f.length (.slice N f.length l)).run P d=.ok G.toArray d)->l<f.length+ys.length->
  (o=.CG/\f.length=0\/∃b c,o=.BG b f.length c)->f.length<=l->
  ∃v d z,(Builtin.append_ #[t,t2] ty #[s,x]).run P w=.ok v d/\Tr w ρ d z/\OM d z (AG ob id (.Ay E m (f++ys)))/\(V.sl id (f.length+ys.length)).Ax d z v:=by
  intro N l G es ag af ad aa ho ac;subst es;obtain⟨F,X,g1,g2,g3⟩:=Xyv (ty:=ty) T hx hf ad aa hB;have he:B5 w (Ee {w with drawn:=w.drawn+1} (.cells ((G++L)++X).toArray E)):=(PT w _).trans (Wa _ _);have t1:Tr w ρ (Ee {w with drawn:=w.drawn+1} (.cells ((G++L)++X).toArray E)) (ρ.Be id (.BG w.heap.size (f.length+ys.length) F)):=by
   refine⟨he.size,λb _ h=>he.keep b h,λb h=>?_,rfl,rfl,λj p Q=>?_,he.tape,he.os,he.Ck,he.drawn⟩
   ·obtain⟨j,p,H,q2⟩:=h;simp only[A9.Be]at H;split at H
    ·simp at H;subst H;simp[RO.blk?]at q2;exact .inr (by omega)
    ·exact .inl ⟨j,p,H,q2⟩
   ·by_cases ej:j=id
    ·subst ej;refine⟨_,Yu,.grow (n:=f.length) (by omega) ?_⟩;rw[g]at Q;simp at Q;subst Q;exact ho
    ·exact⟨p,by simp[A9.Be,ej,Q],.refl p⟩
  refine⟨_,_,_,g3,t1,VU J hl t1 (.inr ⟨w.heap.size,F,G++L,X,by simp[A9.Be],Wi _ _,PN (HJ t1 _ _ ag) (HJ t1 _ _ Z),?_,?_⟩) (λb hb=>?_) (λj p b hj h2 h3=>he.keep b (Qa J h2 h3)),?_⟩
  ·intro y i;rcases DT.1 i with i|i
   ·exact af y i
   ·exact hu y i
  ·have O:G.length=f.length*m:=by rw[Mw _ _ ag,V.Bj,Yg _ af]
   rw[C7,C7,g2,O,ab,<-Hs,<-Hs];congr 1;omega
  ·simp[RO.blk?]at hb;exact .inl (by omega)
  ·rw[Y3];refine⟨_,Yu,?_⟩;exact⟨Bg _,⟨_,_,_,rfl⟩,λ_=>rfl⟩
 rcases Y with⟨Y,rfl⟩|⟨b,q,G,sp,Y,h2,h3,h4,h5⟩
 ·-- nothing yet
  rw[g]at Y;simp at Y;subst Y;simp only[RO.slice]at W;obtain⟨_,rfl⟩:=W;by_cases i:ys=[]
  ·subst i;have aj:L=[]:=by simpa using ab
   subst aj;refine⟨_,w,ρ,Xyw T hx (λd hw=>hf d hw),Tr.refl _ _,?_,?_⟩
   ·refine⟨λj y i=>?_,λj p Q=>?_,J.inj,J.E9,J.EF,J.Dm,J.Cn.set⟩
    ·rw[Xb ob id j ⟨_,hl⟩]at i;split at i
     next e=>subst e;simp at i;subst i;exact .inl ⟨g,rfl⟩
     ·exact J.BW j y i
    ·rw[Xb ob id j ⟨_,hl⟩];split
     ·exact⟨_,rfl⟩
     ·exact J.EY j p Q
   ·rw[Y3];exact⟨_,g,rfl,rfl⟩
  ·refine grow none 0 [] rfl (by simp[Bz]) (by simp) (λd _=>by simp[Builtin.firstCells]) ?_ (.inl ⟨rfl,rfl⟩) (Bg _);cases ys with
   |nil=>exact absurd rfl i
   |cons y r=>simp
 ·rw[g]at Y;simp at Y;subst Y;obtain⟨_,_,W⟩:=W;have W:=W rfl;have O:G.length=f.length*m:=by rw[Mw _ _ h3,V.Bj,Yg _ h4]
  have ac:f.length<=q:=by
   have:f.length*m<=q*m:=by rw[<-h5,<-O];simp
   exact R1 this (OC T.s0)
  by_cases U:f.length+ys.length<=q
  ·subst W;have ae:=Xyx (ty:=ty) T hx hf h2 O ab h5 (YT ys L ai Z) U;have t1:Tr w ρ (w.setRow b ((G++L)++sp.drop L.length).toArray) (ρ.Be id (.BG b (f.length+ys.length) q)):=by
    refine⟨by simp,λj hj _=>setRow_other w b j _ (λe=>hj ?_),λj h=>?_,rfl,rfl,λj p Q=>?_,rfl,rfl,rfl,Bg _⟩
    ·subst e;exact⟨id,_,g,rfl⟩
    ·obtain⟨k,p,H,q2⟩:=h;simp only[A9.Be]at H;split at H
     ·simp at H;subst H;simp[RO.blk?]at q2;subst q2;exact .inl ⟨id,_,g,rfl⟩
     ·exact .inl ⟨k,p,H,q2⟩
    ·by_cases ej:j=id
     ·subst ej;rw[g]at Q;simp at Q;subst Q;refine⟨_,Yu,?_⟩;cases ys with
      |nil=>exact .refl _
      |cons y r=>exact .grow (n:=f.length) (by simp) (.inr ⟨_,_,rfl⟩)
     ·exact⟨p,by simp[A9.Be,ej,Q],.refl p⟩
   refine⟨_,_,_,ae,t1,VU J hl t1 (.inr ⟨b,q,G++L,sp.drop L.length,by simp[A9.Be],setRow_heap w b _ _ E _ h2,PN (HJ t1 _ _ h3) (HJ t1 _ _ Z),?_,?_⟩) (λb' hb=>?_) (λj p b' hj H q2=>setRow_other w b b' _ (λe=>hj ?_)),?_⟩
   ·intro y i;rcases DT.1 i with i|i
    ·exact h4 y i
    ·exact hu y i
   ·have ak:f.length*m+ys.length*m<=q*m:=by rw[<-Hs];exact PY m U
    simp only[C7,List.length_drop]at h5⊢;omega
   ·simp[RO.blk?]at hb;subst hb;exact .inr ⟨_,g,rfl⟩
   ·subst e;exact J.inj j id _ _ _ H g q2 rfl
   ·rw[Y3];refine⟨_,Yu,?_⟩;exact⟨Bg _,⟨_,_,_,rfl⟩,λ_=>rfl⟩
  ·refine grow (some ⟨b,0,none⟩) q G W h3 h4 (λd hw=>?_) (by omega) (.inr ⟨_,_,rfl⟩) ac;simp only[Builtin.firstCells,<-O];exact run_loadCells_list d _ G (λj u hj=>by
    obtain⟨ah,e⟩:=Ek.1 hj;rw[Addr.By rfl,cell?_congr (w:=w) (w':=d) (by rw[hw])];simp[World.cell?,h2,JY,ah,e])
def uA{u v:Operand}{t q E k B:Nat}{U:V}{ys:List D}{O:List Value}(T:FP P t q E k B)(G:U.Ax w ρ (a.eval u))(z:OM w ρ ob)(e:GQ E k B ob ys K U)
 (j:Bq w (CH ρ) ys O) (J:∀y∈ys,y.sz=k) (L:∀d,(Builtin.lenOf (a.eval v)).run P d=.ok ys.length d)
 (H:∀d,d.heap=w.heap->(Builtin.firstCells k ys.length (a.eval v)).run P d=.ok O.toArray d):Ja P a w ρ (.call {callee:=.builtin .append,args:=#[u,v],argTypes:=#[t,q] }) K Pn:=by
 have f:∀(d:World)(c:Value)(o:Oper),o.op=.call {callee:=.builtin .append,args:=#[u,v],argTypes:=#[t,q] }->(Builtin.append_ #[t,q] o.type #[a.eval u,a.eval v]).run P w=.ok c d->(execOp a.eval o).run P w=.ok (.value c) d:=by
  intro d c o i X;simp only[execOp,i,resolve,invoke,builtin,Sem.run_bind,Sem.run_pure,Result.andThen_ok,List.map_toArray,Cw,Ht,X]
 unfold GQ at e;split at e
 ·rename_i id n;unfold NQ at e;split at e
  ·rename_i E' aa xs p;obtain⟨rfl,rfl,rfl,x,e⟩:=e;intro o i next Q F _
   obtain⟨c,d,g,r,s,l,m⟩:=Xyu (ty:=o.type) T z p G j J L H x;unfold EH;rw[f d c o i r];exact F c _ _ d g e m l s
  ·cases e
 ·obtain⟨x,e⟩:=e;have p:=X0 ob;rw[Vv]at G;have h:∀b,RO.CG.blk? = some b->w.heap.size<=b:=λb W=>by simp[RO.blk?]at W
  have N:=Uo w (B5.refl w) (o:=.CG) (z.free p) h;have Y:OM w (ρ.Be (AA ob) .CG) ((AA ob,.BG E k [])::ob):=z.Be (B5.refl w) p h (.inl ⟨Yu,rfl⟩);have Z:(V.sl (AA ob) ([]:List D).length).Ax w (ρ.Be (AA ob) .CG) (a.eval u):=by
   rw[Y3];exact⟨_,Yu,rfl,G⟩
  intro o i next Q F _
  obtain⟨c,d,g,r,s,l,m⟩:=Xyu (ty:=o.type) (ys:=ys) T Y (by simp[AB]) Z (GF N.mono _ _ j) J L H (by simpa using x);unfold EH;rw[f d c o i r];simp only[AG,Bu,List.nil_append,List.length_nil,Kx]at l m;exact F c _ _ d g e m l (N.trans s)
 ·cases e
def Yf9(p:SM w ρ sl a)(hO:OM w ρ ob){m:Op}{E f B:Nat}{x y:A}(d:I.Ak P m (.Im E f B x y)=true)
 (h:KN f (λs=>GQ E f B ob s K (x.ev sl)) (y.ev sl)):Ja P a w ρ m K Pn:=by
 cases m<;>simp only[I.Ak,BO]at d;rename_i c;obtain⟨F,e,ts⟩:=c;cases F<;>(try simp only[BO]at d);rename_i b;cases b<;>(try simp only[BO]at d);split at d
 ·rename_i u v t r G H;simp only[BB]at d;obtain⟨⟨⟨⟨U,j⟩,W⟩,X⟩,Y⟩:=d;have J:e=#[u,v]:=by simpa using Cc List.toArray G
  have L:ts=#[t,r]:=by simpa using Cc List.toArray H
  subst J L;have T:FP P t r E f B:=by
   cases k:P.info? E with
   |none=>simp[k]at j
   |some i=>
    simp only[k,BB,C9,bne_iff_ne,ne_eq]at j;obtain⟨⟨⟨⟨⟨n,o⟩,N⟩,O⟩,Q⟩,g⟩:=j;obtain⟨z,q⟩:=Kt.1 Q;rw[q]at g;simp at g;refine⟨?_,?_,⟨i,z,k,n,o,q,g⟩,by rw[<-o];exact N,by rw[<-n];exact O⟩
    ·revert U;split<;>simp_all
    ·left;revert W;split<;>simp_all
  have r1:=A.Az p X;have r2:=A.Az p Y;obtain⟨s,vs,Z,l,hu,hx,hf⟩:=Yda (P:=P) r2 h;exact uA T r1 hO Z l hu hx hf
 ·simp at d
def E5{id E f:Nat}{xs:List D}(h:Je w ρ id (.BG E f xs)):Je w ρ id (.Ay E f (xs.map .d)):=by
 rcases h with⟨e,rfl⟩|⟨b,c,g,o,e,i,j,k,l⟩
 ·exact .inl ⟨e,rfl⟩
 ·refine .inr ⟨b,c,g,o,by simpa using e,i,(JU _ _).2 j,λx m=>?_,l⟩;obtain⟨y,n,rfl⟩:=DY.1 m;simp[V.size,V.shape,Cb,k y n]
def Yh8{l:Nat}{v:V}{x:Value}{K:List V->Prop}(W:OM w ρ ob)(g:v.Ax w ρ x)(h:Y5 l K ob v):
 ∃c i,K c/\Bz w ρ c i/\Hp c=true/\(∀y∈c,y.size=l)/\(∀f,(Builtin.lenOf x).run P f=.ok c.length f)/\∀f,f.heap=w.heap->(Builtin.firstCells l c.length x).run P f=.ok i.toArray f:=by
 have H:∀{c:List D}{i:List Value},Bq w (CH ρ) c i->(∀y∈c,y.sz=l)->Bz w ρ (c.map .d) i/\Hp (c.map .d)=true/\∀y∈c.map V.d,y.size=l:=by
  intro c i k t;refine⟨(JU _ _).2 k,?_,λy hy=>?_⟩
  ·clear k t;induction c with
   |nil=>rfl
   |cons y r Q=>simp[Hp,V.Gs,Q]
  ·obtain⟨z,hz,rfl⟩:=DY.1 hy;simp[V.size,V.shape,Cb,t z hz]
 have CH:∀{id:Nat}{E:Nat}{c:List V},Je w ρ id (.Ay E l c)->(V.sl id c.length).Ax w ρ x->Hp c=true->K c->
  ∃c i,K c/\Bz w ρ c i/\Hp c=true/\(∀y∈c,y.size=l)/\(∀f,(Builtin.lenOf x).run P f=.ok c.length f)/\∀f,f.heap=w.heap->(Builtin.firstCells l c.length x).run P f=.ok i.toArray f:=by
  intro id E c F g p m;rw[Y3]at g;obtain⟨o,s,g⟩:=g;rcases F with⟨k,rfl⟩|⟨b,X,G,sp,k,t,T,U,h5⟩
  ·rw[s]at k;simp at k;subst k;obtain⟨_,rfl⟩:=g;exact⟨[],[],m,by simp[Bz],rfl,by simp,λf=>by simp[Builtin.lenOf],λf _=>by simp[Builtin.firstCells]⟩
  ·rw[s]at k;simp at k;subst k;have hx:=g.2.2 rfl;subst hx;refine⟨c,G,m,T,p,U,λf=>by simp[Builtin.lenOf],λf O=>?_⟩;have J:G.length=c.length*l:=by rw[Mw _ _ T,V.Bj,Yg _ U]
   simp only[Builtin.firstCells,<-J];exact run_loadCells_list f _ G (λj u hj=>by
    obtain⟨L,e⟩:=Ek.1 hj;rw[Addr.By rfl,cell?_congr (w:=w) (w':=f) (by rw[O])];simp[World.cell?,t,JY,L,e])
 unfold Y5 at h;split at h
 next z c=>obtain⟨aa,i,m,N,hu,q,hf⟩:=Yda (P:=P) (K:=λc=>K (c.map .d)) g (by simpa only[KN]using h);obtain⟨Y,Z,d3⟩:=H N hu;exact⟨_,i,m,Y,Z,d3,λf=>by simpa using q f,λf O=>by simpa using hf f O⟩
 ·rw[Vv]at g;subst g;exact⟨[],[],h,by simp[Bz],rfl,by simp,λf=>by simp[Builtin.lenOf],λf _=>by simp[Builtin.firstCells]⟩
 ·rename_i id n;rcases h with⟨E,c,q,rfl,p,m⟩|⟨E,c,q,rfl,m⟩
  ·exact CH (W.BW id _ q) g p m
  ·have F:Je w ρ id (.Ay E l (c.map .d)):=E5 (W.BW id _ q);refine CH F (by simpa using g) ?_ m;clear F q g m;induction c with
   |nil=>rfl
   |cons y r Q=>simp[Hp,V.Gs,Q]
 ·cases h
def Yoz{u v:Operand}{t L E H B:Nat}{vx:V}{ys:List V}{vs:List Value}(T:FP P t L E H B)(J:vx.Ax w ρ (a.eval u))(z:OM w ρ ob)(f:KD E H B ob ys K vx)
 (p:Hp ys=true) (m:Bz w ρ ys vs) (W:∀y∈ys,y.size=H) (X:∀e,(Builtin.lenOf (a.eval v)).run P e=.ok ys.length e)
 (O:∀e,e.heap=w.heap->(Builtin.firstCells H ys.length (a.eval v)).run P e=.ok vs.toArray e):Ja P a w ρ (.call {callee:=.builtin .append,args:=#[u,v],argTypes:=#[t,L] }) K Pn:=by
 have g:∀(e:World)(c:Value)(o:Oper),o.op=.call {callee:=.builtin .append,args:=#[u,v],argTypes:=#[t,L] }->(Builtin.append_ #[t,L] o.type #[a.eval u,a.eval v]).run P w=.ok c e->(execOp a.eval o).run P w=.ok (.value c) e:=by
  intro e c o l hr;simp only[execOp,l,resolve,invoke,builtin,Sem.run_bind,Sem.run_pure,Result.andThen_ok,List.map_toArray,Cw,Ht,hr]
 unfold KD at f;split at f
 ·rename_i id n;unfold Pe at f;split at f
  ·rename_i N q Y i;obtain⟨rfl,rfl,rfl,x,f⟩:=f;intro o l next Q G _
   obtain⟨c,e,h,r,s,j,k⟩:=dO (ty:=o.type) T z i J p m W X O x;unfold EH;rw[g e c o l r];exact G c _ _ e h f k j s
  ·rename_i N q Y i;obtain⟨rfl,rfl,rfl,x,f⟩:=f;have o2:=z.swap i (E5 (z.BW id _ i));have U:AB (AG ob id (.Ay N q (Y.map .d))) id=some (.Ay N q (Y.map .d)):=by rw[Xb ob id id ⟨_,i⟩];simp
   intro o l next Q G _
   obtain⟨c,e,h,r,s,j,k⟩:=dO (ty:=o.type) T o2 U (by simpa using J) p m W X O (by simpa using x);rw[Yh]at j;rw[List.length_map]at k;unfold EH;rw[g e c o l r];exact G c _ _ e h f k j s
  ·cases f
 ·obtain⟨x,f⟩:=f;have i:=X0 ob;rw[Vv]at J;have F:∀b,RO.CG.blk? = some b->w.heap.size<=b:=λb hb=>by simp[RO.blk?]at hb
  have Z:=Uo w (B5.refl w) (o:=.CG) (z.free i) F;have o1:OM w (ρ.Be (AA ob) .CG) ((AA ob,.Ay E H [])::ob):=z.Be (B5.refl w) i F (.inl ⟨Yu,rfl⟩);have q1:(V.sl (AA ob) ([]:List V).length).Ax w (ρ.Be (AA ob) .CG) (a.eval u):=by
   rw[Y3];exact⟨_,Yu,rfl,J⟩
  intro o l next Q G _
  obtain⟨c,e,h,r,s,j,k⟩:=dO (ty:=o.type) (ys:=ys) T o1 (by simp[AB]) q1 p (HJ Z _ _ m) W X O (by simpa using x);unfold EH;rw[g e c o l r];simp only[AG,Bu,List.nil_append,List.length_nil,Kx]at j k;exact G c _ _ e h f k j (Z.trans s)
 ·cases f
def Yga(r:SM w ρ sl a)(q:OM w ρ ob){n:Op}{E f B:Nat}{x y:A}(d:I.Ak P n (.HE E f B x y)=true)
 (h:Y5 f (λG=>KD E f B ob G K (x.ev sl)) ob (y.ev sl)):Ja P a w ρ n K Pn:=by
 cases n<;>simp only[I.Ak,BO]at d;rename_i c;obtain⟨H,e,ts⟩:=c;cases H<;>(try simp only[BO]at d);rename_i b;cases b<;>(try simp only[BO]at d);split at d
 ·rename_i u v t F J L;simp only[BB]at d;obtain⟨⟨⟨⟨X,j⟩,Y⟩,Z⟩,h4⟩:=d;have N:e=#[u,v]:=by simpa using Cc List.toArray J
  have O:ts=#[t,F]:=by simpa using Cc List.toArray L
  subst N O;have T:FP P t F E f B:=by
   cases k:P.info? E with
   |none=>simp[k]at j
   |some i=>
    simp only[k,BB,C9,bne_iff_ne,ne_eq]at j;obtain⟨⟨⟨⟨⟨o,p⟩,Q⟩,U⟩,W⟩,g⟩:=j;obtain⟨z,s⟩:=Kt.1 W;rw[s]at g;simp at g;refine⟨?_,?_,⟨i,z,k,o,p,s,g⟩,by rw[<-p];exact Q,by rw[<-o];exact U⟩
    ·revert X;split<;>simp_all
    ·left;revert Y;split<;>simp_all
  have r1:=A.Az r Z;have r2:=A.Az r h4;obtain⟨G,vs,hK,l,m,hu,hx,hf⟩:=Yh8 (P:=P) q r2 h;exact Yoz T r1 q hK m l hu hx hf
 ·simp at d
def xw(s:List UInt8):∀x∈BD s,x.sz=1:=by
 induction s with
 |nil=>simp[BD]
 |cons b r c=>simp only[BD,EJ];rintro x (rfl|h);exact rfl;exact c x h
def Vr(s:List UInt8):(BD s).length=s.length:=by
 induction s with
 |nil=>rfl
 |cons b r c=>simp[BD,c]
def UK{d:Nat->Prop}:∀(s:List UInt8)(c:List Value),Bq w d (BD s) c↔c=s.map λb=>.int .u8 b.toNat
|[],c=>by simp[BD,Bq]
|b::r,c=>by
 simp only[BD,Bq,D.Ax,Cw,UK r];constructor
 ·rintro⟨e,f,rfl,rfl,rfl⟩;rfl
 ·rintro rfl;exact⟨_,_,rfl,rfl,rfl⟩
def X6g(o:SM w ρ sl a)(Z:OM w ρ ob){l:Op}{E B:Nat}{x y:A}(e:I.Ak P l (.FZ E B x y)=true)
 (h:MJ (λys=>GQ E 1 B ob ys K (x.ev sl)) (y.ev sl)):Ja P a w ρ l K Pn:=by
 cases l<;>simp only[I.Ak,BO]at e;rename_i c;obtain⟨r,f,ts⟩:=c;cases r<;>(try simp only[BO]at e);rename_i b;cases b<;>(try simp only[BO]at e);split at e
 ·rename_i u v t q F G;simp only[BB]at e;obtain⟨⟨⟨⟨U,j⟩,W⟩,X⟩,Y⟩:=e;have J:f=#[u,v]:=by simpa using Cc List.toArray F
  have L:ts=#[t,q]:=by simpa using Cc List.toArray G
  subst J L;have T:FP P t q E 1 B:=by
   cases k:P.info? E with
   |none=>simp[k]at j
   |some i=>
    simp only[k,BB,C9,bne_iff_ne,ne_eq]at j;obtain⟨⟨⟨⟨N,n⟩,O⟩,Q⟩,g⟩:=j;obtain⟨z,p⟩:=Kt.1 Q;rw[p]at g;simp at g;refine⟨?_,?_,⟨i,z,k,N,n,p,g⟩,by rw[<-n];exact O,by omega⟩
    ·revert U;split<;>simp_all
    ·right;revert W;split<;>simp_all
  have r1:=A.Az o X;have m:=A.Az o Y;unfold MJ at h;split at h
  ·rename_i s H;rw[H,CO]at m;have d:(BD s).length=s.length:=Vr s;refine uA T r1 Z h ((UK s _).2 rfl) (xw s) (λw'=>?_) (λw' _=>?_)
   ·rw[m,d];simp[Builtin.lenOf,VM]
   ·rw[m,d];simp only[Builtin.firstCells,Sem.run_pure];congr 1;apply Array.ext';simp[ByteArray.data_extract]
  ·cases h
 ·simp at e
def Ygd(hs:SM w ρ sl a)(z:OM w ρ ob){T:Op}{x:A}(F:I.Ak P T (.JL x)=true)(h:LP ob K (x.ev sl)):Ja P a w ρ T K Pn:=by
 cases T<;>simp only[I.Ak,BO]at F;rename_i s t y;simp only[BB,C9]at F;obtain⟨⟨rfl,u⟩,p⟩:=F;have r:=A.Az hs p;obtain⟨e,O,he⟩:∃e,P.underlying s=some (.slice e)/\P.underlying e=some (.int .u8):=by
  cases q:P.underlying s with
  |none=>simp[q]at u
  |some d=>
   cases d<;>simp[q]at u;rename_i e;refine⟨e,rfl,?_⟩;revert u;split<;>simp_all
 unfold LP at h;split at h
 ·rename_i id n e1;unfold NV at h;split at h
  ·rename_i E U W J;obtain⟨k,rfl,L,hK⟩:=h;rw[e1]at r;have r3:=SN z J k r;rw[Y3]at r;obtain⟨o,g,hv⟩:=r;rcases z.BW id _ J with⟨m,rfl⟩|⟨b,c,f,l,m,p,X,Y,h5⟩
   ·exact absurd rfl L
   ·rw[g]at m;simp at m;subst m;have q:=hv.2.2 rfl;have hw:∃w2,w2.heap.size=w.heap.size/\(∀j,j≠b->w2.heap[j]? = w.heap[j]?)/\w2.heap[b]? = some (.cells (List.toArray (f++l)) E ((f++l).length,(f++l).length+1))/\w2.tape=w.tape/\w2.os=w.os/\w2.output=w.output/\w2.drawn=w.drawn/\(markStringish ⟨b,0,none⟩).run P w=.ok () w2:=by
     have Q:w.shape? b=some (E,(f++l).length):=by simp[World.shape?,p]
     refine⟨w.freeze ⟨b,(f++l).length,none⟩ 1,by simp[World.freeze],λj H=>?_,?_,rfl,rfl,rfl,rfl,?_⟩
     ·simp only[World.freeze];simp[OE,Ne.symm H]
     ·simp only[World.freeze];simp[OE,p]
     ·simp only[markStringish,Sem.run_bind,run_shape,Q,Result.andThen_ok,run_freeze]
    obtain⟨w2,q1,q2,Z,q4,q5,q6,q8,q7⟩:=hw;obtain⟨t1,o1,N⟩:=VQ z (w2:=w2) ⟨_,J⟩ q1 (λj H=>q2 j (λe=>H _ g (by rw[e];rfl))) q4 q5 q6 (by rw[q8];exact Bg _);refine Xw (v:=.slice (some ⟨b,0,none⟩) W.length c) (λo ho=>?_) hK ?_ o1 t1
    ·simp only[execOp,ho,q,convert,Sem.run_bind,Xa O,Result.andThen_ok,beq_self_eq_true,Xa he,q7,Sem.run_pure]
    ·rw[Za];refine .inr ⟨_,c,f,rfl,?_,⟨λ_=>⟨rfl,N b _ g rfl,Xl Z⟩,λi hi=>?_⟩,GF t1.mono _ _ X,Y⟩
     ·have G:f.length=W.length*U:=by rw[Gv _ _ X,Er _ Y]
      have:W.length*U<=c*U:=by rw[<-h5,<-G];simp
      exact R1 this (OC k)
     ·simp[World.cell?,Z,JY,hi]
  ·cases h
 ·cases h
def X6k(hs:SM w ρ sl a)(N:OM w ρ ob){X:Op}{E:Nat}{x y:A}(f:I.Ak P X (.Fl E x y)=true)(h:JD E ob K (x.ev sl) (y.ev sl)):Ja P a w ρ X K Pn:=by
 cases X<;>simp only[I.Ak,BO]at f;rename_i c;obtain⟨ca,args,ts⟩:=c;cases ca<;>(try simp only[BO]at f);rename_i b;cases b<;>(try simp only[BO]at f);split at f
 ·rename_i u v t G e1 e2;have ea:args=#[u,v]:=by simpa using Cc List.toArray e1
  have et:ts=#[t,G]:=by simpa using Cc List.toArray e2
  subst ea et;simp only[BB]at f;obtain⟨⟨k,l⟩,r⟩:=f;have z:=A.Az hs l;have F:=A.Az hs r;obtain⟨hp,O⟩:P.underlying t=some (.pointer E)/\P.cellsOf E=1:=by
   split at k
   next e he=>simp only[BB,C9]at k;obtain⟨rfl,k⟩:=k;exact⟨he,k⟩
   ·simp at k
  have d:∀(Y:World)(i:Value)(o:Oper),o.op=.call {callee:=.builtin .unsafeString,args:=#[u,v],argTypes:=#[t,G] }->(Builtin.unsafeString_ #[t,G] o.type #[a.eval u,a.eval v]).run P w=.ok i Y->(execOp a.eval o).run P w=.ok (.value i) Y:=by
   intro Y i o p hr;simp only[execOp,p,resolve,invoke,builtin,Sem.run_bind,Sem.run_pure,Result.andThen_ok,List.map_toArray,Cw,Ht,hr]
  unfold JD at h;split at h
  ·rename_i id n m H J;unfold NK at h;split at h
   ·rename_i E' sz xs hl;obtain⟨rfl,rfl,rfl,rfl,ab,g,s,rfl,L⟩:=h;rw[H,Yl6]at z;rw[J,Yf]at F;obtain⟨o,q,hv⟩:=z;have W:s≠[]:=by intro e;subst e;exact g rfl
    rcases N.BW id _ hl with⟨l,hx⟩|⟨b,aa,cs,sp,l,r,Z,h4,h5⟩
    ·exact absurd hx g
    ·rw[q]at l;simp at l;subst l;have hu:=hv.2.2 rfl (by simpa using g);rw[UK]at Z;subst Z;have U:(BD s).length=s.length:=Vr s;obtain⟨t1,o1,ac⟩:=VQ N (w2:=w.freeze ⟨b,0,none⟩ s.length) ⟨_,hl⟩ (by unfold World.freeze;split<;>simp) (λj Q=>by
      have:b≠j:=λe=>Q _ q (by rw[e];rfl);unfold World.freeze;split
      ·rfl
      ·simp[OE,this]) (by unfold World.freeze;split<;>rfl) (by unfold World.freeze;split<;>rfl) (by unfold World.freeze;split<;>rfl) (by unfold World.freeze;split<;>exact Bg _)
     refine Xw (v:=.string ⟨s.toArray⟩) (λo p=>d _ _ o p ?_) L (CO.2 rfl) o1 t1;rw[hu,F,U];exact Lib.run_unsafeString_row (P:=P) (w:=w) t G _ E' hp O b ((s.map λb=>Value.int .u8 b.toNat)++sp).length (by simp[World.shape?,r]) s W (by simp) (by omega) (λj x Q=>by
      obtain⟨T,e⟩:=Ek.1 Q;rw[Addr.By rfl];simp[World.cell?,r,JY,T,e])
   ·cases h
  next m H J=>obtain⟨rfl,L⟩:=h;rw[H,gH]at z;rw[J,Yf]at F;refine Xw (v:=.string .empty) (λo p=>d _ _ o p ?_) L (CO.2 rfl) N (Tr.refl _ _);rw[z,F];exact Lib.run_unsafeString_none _ _ _ _ _
  ·cases h
 ·simp at f
def Xyt(hs:SM w ρ sl a)(Q:OM w ρ ob){O:Op}{x:A}(U:I.Ak P O (.Iq x)=true)(h:MU (λv=>K v ob) (x.ev sl)):IU P a w ρ O ob K:=by
 cases O<;>simp[I.Ak]at U;rename_i s t y;obtain⟨⟨h0,F⟩,h2⟩:=U;have Y:=A.Az hs h2;have L:P.underlying s=some .string:=by revert h0;split<;>simp_all
 obtain⟨e,ht,he⟩:∃e,P.underlying t=some (.slice e)/\P.underlying e=some (.int .u8):=by
  cases X:P.underlying t with
  |none=>simp[X]at F
  |some d=>
   cases d<;>simp[X]at F;rename_i e;refine⟨e,rfl,?_⟩;revert F;split<;>simp_all
 unfold MU at h;split at h
 ·rename_i f Z;rw[Z,CO]at Y;have hq:(Question.appendCap f.length 0 e).forced=false:=rfl;generalize l:(Question.appendCap f.length 0 e).cut (w.tape w.drawn (.appendCap f.length 0 e))=c;have H:f.length<=c:=by rw[<-l];simp[Question.cut]
  let k:List Value:=(f.map λb=>Value.int .u8 b.toNat)++List.replicate (c-f.length) (.int .u8 0);let n:World:=Ee {w with drawn:=w.drawn+1} (.cells k.toArray e);have r:k.length=c:=by simp[k];omega
  have g:B5 w n:=(PT w _).trans (Wa _ _);have W:n.heap[w.heap.size]? = some (.cells k.toArray e (0,0)):=Wi _ _;let m:World:=n.freeze ⟨w.heap.size,c,none⟩ 1;have u:m.heap[w.heap.size]? = some (.cells k.toArray e (c,c+1)):=by
   simp only[m,World.freeze];simp[OE,W]
  have z:m.heap.size=n.heap.size:=by simp[m,World.freeze]
  have G:B5 w m:=by
   refine⟨by rw[z];exact g.size,λb T=>?_,g.tape,g.os,g.Ck,g.drawn⟩;rw[<-g.keep b T];simp only[m,World.freeze];simp[OE,Nat.ne_of_gt T]
  refine⟨.slice (some ⟨w.heap.size,0,none⟩) f.length c,_,m,h,Za.2 (.inr ⟨⟨w.heap.size,0,none⟩,c,f.map λb=>Value.int .u8 b.toNat,by rw[Vr],by rw[Vr];exact H,⟨λ_=>⟨rfl,?_,Xl u⟩,λi hi=>?_⟩,(UK f _).2 rfl,xw f⟩),G,λo ho=>?_⟩
  rotate_left 2
  ·simp only[execOp,ho,Y,convert,Sem.run_bind,Xa L,Xa ht,Result.andThen_ok,Xa he,Conv.stringToBytes,VM,run_choose,hq,BO,Bs,l,newRow,run_newObj,Sem.run_pure];have e3:Array.map (λb:UInt8=>Value.int IntKind.u8 b.toNat) (ByteArray.mk f.toArray).data++Array.replicate (c-f.length) (Value.int IntKind.u8 0)=k.toArray:=by
    apply Array.ext';simp[k]
   rw[e3];have N:n.shape? w.heap.size=some (e,c):=by simp[World.shape?,W,r]
   have hm:(markStringish ⟨w.heap.size,0,none⟩).run P n=.ok () m:=by
    simp only[markStringish,Sem.run_bind,run_shape,N,Result.andThen_ok,run_freeze];rfl
   show((Sem.run P (markStringish ⟨w.heap.size,0,none⟩) n).andThen _).andThen _=_;rw[hm];simp
  ·rintro (⟨j,p,q1,q2⟩|q)
   ·have:=Qa Q q1 q2;simp at this
   ·have:=Q.E9 _ q;simp at this
  ·have J:i<f.length:=by simpa using hi
   simp[World.cell?,u,k,JY,J]
 ·cases h
def X6j(n:SM w ρ sl a)(f:OM w ρ ob){d:Op}{E e:Nat}{x:A}(g:I.Ak P d (.Fg E e x)=true)(h:MG E e ob K (x.ev sl)):Ja P a w ρ d K Pn:=by
 unfold MG at h;split at h
 ·rename_i k;have i:=X0 ob;have c:∀b,RO.CG.blk? = some b->w.heap.size<=b:=λb l=>by simp[RO.blk?]at l
  have q:=Uo w (B5.refl w) (o:=.CG) (f.free i) c;have p:OM w (ρ.Be (AA ob) .CG) ((AA ob,.BG E e [])::ob):=f.Be (B5.refl w) i c (.inl ⟨Yu,rfl⟩);cases d<;>simp[I.Ak]at g
  all_goals
   have j:=A.Az n g;rw[k,Vv]at j;exact Xw (λo m=>by simp[execOp,m]) h (Y3.2 ⟨.CG,Yu,⟨rfl,j⟩⟩) p q
 ·cases h
def Ygj(q:SM w ρ sl a)(p:OM w ρ ob){e:Op}{r:Option A}(b:I.Ak P e (.II r)=true)(h:MX sl r/\K (.mp (AA ob)) ((AA ob,.map [])::ob)):Ja P a w ρ e K Pn:=by
 cases e<;>simp only[I.Ak,BO]at b;rename_i t c;simp only[BB]at b;obtain⟨d,m⟩:=h;obtain⟨i,f,s⟩:∃i f,P.underlying t=some (.map i f):=by
  have:=b.1;revert this;split<;>simp_all
 obtain⟨z,u,v⟩:=Yq3 p (X0 ob);refine Xw (λo g=>?_) m v u z;cases c with
 |none=>
  simp only[execOp,g,Option.map_none,Instr.makeMap,Sem.run_bind,run_newObj,Result.andThen_ok,Sem.run_pure];rfl
 |some x=>
  cases r with
  |none=>simp[Fq]at b
  |some y=>
   simp only[Fq]at b;have j:=A.Az q b.2;simp only[MX]at d;unfold Sv at d;split at d
   next k n l=>rw[l,Yf]at j;simp only[execOp,g,Option.map_some,Instr.makeMap,Sem.run_bind,Xa s,run_newObj,Result.andThen_ok,Sem.run_pure,j,asInt];rfl
   ·cases d
def X03{x y:D}(h:Lr x y=true):∃u v,x.F8=some u/\y.F8=some v:=by
 unfold Lr at h;split at h<;>first|exact⟨_,_,rfl,rfl⟩|cases h
def w7:∀{d e:List D},Vm d e=true->∃b c,Ui d=some b/\Ui e=some c
|[],[],_=>⟨[],[],rfl,rfl⟩
|x::r,y::s,h=>by
 simp only[Vm,BB]at h;obtain⟨u,v,f,g⟩:=X03 h.1;obtain⟨b,c,i,j⟩:=w7 h.2;exact⟨u::b,v::c,by simp only[Ui,f,i],by simp only[Ui,g,j]⟩
|[],_::_,h=>by cases h
|_::_,[],h=>by cases h
def dN{k j:D}(h:EI k j=true):∃u v,k.key=some u/\j.key=some v:=by
 unfold EI at h;split at h<;>first|exact⟨_,_,rfl,rfl⟩|(cases h;done)|skip
 obtain⟨d,e,b,c⟩:=w7 h;exact⟨.agg d.toArray,.agg e.toArray,by simp only[D.key,b,XJ],by simp only[D.key,c,XJ]⟩
def D.Nv:D->Bool
|.agg _=>false
|_=>true
def Xsg{b:TypeDesc}{k:D}(h:Jv b k=true):k.Nv=true:=by
 unfold Jv at h;split at h<;>first|rfl|cases h
def xN{d:TypeDesc}{c k:D}(h:Jv d c=true)(b:EI c k=true):Jv d k=true:=by
 unfold Jv at h;split at h
 ·cases k<;>simp[EI]at b<;>rfl
 ·cases k<;>simp[EI]at b<;>rfl
 ·cases k<;>simp[EI]at b<;>rfl
 ·cases h
def X2o{c:TypeDesc}{k j:D}{u v:Value}(e:Jv c k=true)(d:EI k j=true)(f:k.key=some u)(g:j.key=some v):Instr.sameNow c u v=some (DW k j):=by
 have b:=Xsg e;cases k<;>simp only[D.Nv,BO]at b<;>cases j<;>simp only[EI,BO,DK]at d<;>simp only[D.key,CJ]at f g<;>subst f<;>subst g<;>cases c<;>simp only[Jv,BO]at e
 ·subst d;simp[Instr.sameNow,DW]
 ·simp[Instr.sameNow,DW]
 next s t=>simp only[Instr.sameNow,DW,CJ];rw[beq_toListBytes,yq,yq]
def Yck:∀{b c:List D}{d e:List Value},Vm b c=true->E1 b c=true->Ui b=some d->Ui c=some e->e=d:=by
 intro b c d e _ h f g;rw[PQ _ _ h]at f;rw[f]at g;exact(GI g).symm
def gI{k j:D}{u v:Value}(d:EI k j=true)(e:DW k j=true)(b:k.key=some u)(c:j.key=some v):v=u:=by
 cases k<;>cases j<;>simp only[EI,BO,DK]at d<;>simp only[DW,C9]at e<;>simp only[D.key,CJ]at b c
 ·rw[<-b,<-c];simp_all
 ·rw[<-b,<-c];simp_all
 ·rw[<-b,<-c];simp_all
 ·obtain⟨h,f,rfl⟩:=Zx b;obtain⟨i,g,rfl⟩:=Zx c;rw[Yck d e f g]
def Yg4{x y:D}{u:Value}(c:x.F8=some u)(b:y.F8=some u)(d:Lr x y=true):Cy x y=true:=by
 cases x<;>cases y<;>simp only[Lr,BO,DK]at d<;>simp only[D.F8,CJ]at c b<;>rw[<-c]at b
 ·simp only[Value.int.injEq]at b;simp[Cy,b.1,b.2]
 ·simp only[Value.bool.injEq]at b;simp[Cy,b]
 ·simp only[Value.string.injEq,ByteArray.mk.injEq]at b;have b:=Cc Array.toList b;simp only[List.toList_toArray]at b;simp[Cy,b]
def yT:∀{f g:List D}{e:List Value},Ui f=some e->Ui g=some e->Vm f g=true->E1 f g=true
|[],[],_,_,_,_=>rfl
|x::r,y::s,e,b,c,d=>by
 simp only[Vm,BB]at d;simp only[Ui]at b c;split at b
 ·rename_i o m i j;split at c
  next p n k l=>cases b;cases c;simp only[E1,BB];exact⟨Yg4 i k d.1,yT j l d.2⟩
  ·cases c
 ·cases b
|[],_::_,_,_,_,h=>by cases h
|_::_,[],_,_,_,h=>by cases h
def gy{k j:D}{u:Value}(c:k.key=some u)(b:j.key=some u)(e:EI k j=true):DW k j=true:=by
 cases k<;>cases j<;>simp only[EI,BO,DK]at e<;>simp only[D.key,CJ]at c b
 ·rw[<-c]at b;simp only[Value.int.injEq]at b;simp[DW,b.2]
 ·rw[<-c]at b;simp only[Value.bool.injEq]at b;simp[DW,b]
 ·rw[<-c]at b;simp only[Value.string.injEq,ByteArray.mk.injEq]at b;have b:=Cc Array.toList b;simp only[List.toList_toArray]at b;simp[DW,b]
 ·obtain⟨h,f,rfl⟩:=Zx c;obtain⟨i,g,d⟩:=Zx b;have d:h=i:=by simpa using d
  subst d;exact yT f g e
def Xzb{e:MapEntry}{l:List MapEntry}{u:Value}{j:Nat}(h:∀i,i<j->∀b,l[i]? = some b->b.key≠u)(d:e.key≠u):∀i,i<j+1->∀b,(e::l)[i]? = some b->b.key≠u
|0,_,b,c=>by simp at c;subst c;exact d
|i+1,f,b,c=>h i (by omega) b (by simpa using c)
def uW{q:TypeDesc}{k:D}{u:Value}(g:Jv q k=true)(m:k.key=some u):∀(f:List (D×V)) (l:List MapEntry) (i:Nat),Yj w ρ f l->(∀e∈f,EI k e.1=true)->
 (Y4 k f=none/\Instr.findNow q u l i=some none)\/∃v j e,Y4 k f=some v/\Instr.findNow q u l i=some (some (i+j,e.val))/\l[j]? = some e/\v.Ax w ρ e.val/\e.key=u/\∀i,i<j->∀d,l[i]? = some d->d.key≠u
|[],l,i,h,_=>by
 simp only[Yj]at h;subst h;exact .inl ⟨rfl,rfl⟩
|(j,v)::r,l,i,h,s=>by
 obtain⟨e,O,rfl,p,G,H⟩:=h;have b:=s (j,v) (by simp);have J:=X2o g b m p;simp only[Instr.findNow,Y4,J];cases c:DW k j with
 |true=>
  exact .inr ⟨v,0,e,by simp,by simp,by simp,G,gI b c m p,λ_ h=>(by omega)⟩
 |false=>
  rcases uW g m r O (i+1) H (λx L=>s x (by simp[L])) with⟨n,o⟩|⟨Q,N,d,n,o,t,y,z,F⟩
  ·exact .inl ⟨by simpa using n,by simpa using o⟩
  ·exact .inr ⟨Q,N+1,d,by simpa using n,by simp only[o];congr 3;omega,by simpa using t,y,z,Xzb F λg=>by rw[gy m (by rw[p,g]) b]at c;cases c⟩
def wN{b:TypeId}{c:TypeDesc}(e:P.underlying b=some c){u:Value}{l:List MapEntry}{r:Option (Nat×Value)}(h:Instr.findNow c u l 0=some r)(d:World):(Instr.findKey b u l).run P d=.ok r d:=by
 simp[Instr.findKey,Xa e,h]
def Xoo{d:TypeId}{e:TypeDesc}(g:P.underlying d=some e){k:D}(c:Jv e k=true)(u:Value)(b:Bool)(f:World):(Instr.checkKey b 10000 d u).run P f=.ok () f:=by
 unfold Instr.checkKey;simp only[Sem.run_bind,Xa g,Result.andThen_ok];unfold Jv at c;split at c<;>first|(cases c;done)|simp
def WJ:∀{c d:List D},Vm c d=true->FJ (c.map IZ) d=true
|[],[],_=>rfl
|x::r,y::s,h=>by
 simp only[Vm,BB]at h;simp only[Cw,FJ,BB];refine⟨?_,WJ h.2⟩;have b:=h.1;unfold Lr at b;split at b
 ·simpa[IZ,KT.Bm]using b
 ·rfl
 ·rfl
 ·cases b
|[],_::_,h=>by cases h
|_::_,[],h=>by cases h
def zY:∀{kd:List D},N9 (kd.map IZ)<=1
|[]=>by simp[N9]
|x::r=>by
 simp only[Cw,N9];have:=zY (kd:=r);have b:(IZ x).depth<=1:=by cases x<;>simp[IZ,KT.depth]
 omega
def Yps{t:TypeId}{x:D}(c:(IZ x).Ak P t=true)(b:Bool)(u:Value)(n:Nat)(d:World):(Instr.checkKey b (n+1) t u).run P d=.ok () d:=by
 unfold Instr.checkKey;cases x<;>simp only[IZ,KT.Ak]at c<;>(split at c<;>first|(cases c;done)|(rename_i e;simp only[Sem.run_bind,Xa e,Result.andThen_ok];simp))
def xx(b:Bool)(n:Nat):∀(u:List D)(c:List Field)(o:Nat)(e:List D)(d k:List Value),KT.Dr P (u.map IZ) c o=true->FJ (u.map IZ) e=true->Bq w (CH ρ) e k->d.length=o->∀g,
 (forIn c PUnit.unit (λf (_:PUnit)=>(if f.name ≠ "_" then (do Instr.checkKey b (n+1) f.type (<-part f.type (d++k).toArray f.offset);pure (ForInStep.yield PUnit.unit)) else pure (ForInStep.yield PUnit.unit):Sem (ForInStep PUnit)))).run P g=.ok PUnit.unit g
|[],c,o,e,d,k,l,i,j,L,g=>by
 cases c<;>simp[KT.Dr]at l;simp
|t::r,c,o,e,d,k,l,i,j,L,g=>by
 cases c<;>simp only[Cw,KT.Dr,BO,BB,bne_iff_ne,ne_eq,C9]at l;rename_i f G;cases e<;>simp only[Cw,FJ,BO,BB]at i;rename_i x e;simp only[Bq]at j;obtain⟨z,q,rfl,y,j⟩:=j;obtain⟨⟨⟨⟨H,N⟩,p⟩,h⟩,m⟩:=l;have F:f.offset=d.length:=by omega
 have v:=SU (c1:=d) (c3:=q) h p i.1 y g;rw[<-F]at v;have J:=HI _ _ y;rw[M0 _ x i.1]at J;have s:=xx b n r G (o+(IZ t).cells) e (d++z) q m i.2 j (by simp;omega) g;simp only[JX]at s;simp only[List.forIn_cons,Sem.run_bind,H,ne_eq,not_false_eq_true,Bu,v,Yps h,Result.andThen_ok,Sem.run_pure];exact s
def cB{l:TypeId}{j k:D}{u:Value}(c:Uz P l j=true)(f:EI j k=true)(i:k.key=some u)(b:Bool)(d:World):(Instr.checkKey b 10000 l u).run P d=.ok () d:=by
 unfold Uz at c;split at c
 ·rename_i o;cases k<;>simp only[EI,BO]at f;rename_i p;simp only[D.key]at i;obtain⟨n,m,rfl⟩:=Zx i;simp only[KT.Ak]at c;split at c
  next e g=>simp only[BB]at c;unfold Instr.checkKey;simp only[Sem.run_bind,Xa g,Result.andThen_ok];rw[<-Array.forIn_toList];have:=xx (P:=P) (w:=d) (ρ:=⟨λ_=>none,λ_=>False,⟨λ_=>none,λ_ _ _ _ _=>False⟩⟩) b 9998 o e.toList 0 p [] n c.2 (WJ f) (Ju m) rfl d;simp only[List.nil_append]at this;simp only[this,Result.andThen_ok,Sem.run_pure]
  ·cases c
 ·split at c
  next q h=>exact Xoo h (xN c f) u b d
  ·cases c
def X6u{f:TypeId}{b c d:List D}{g h:List Value}(m:(KT.st (b.map IZ)).Ak P f=true)(k:Vm b c=true)(n:Vm c d=true)(l:Vm b d=true)(i:Ui c=some g)(j:Ui d=some h)(e:World):
 (Op.equal f (.agg g.toArray) (.agg h.toArray)).run P e=.ok (DW (.agg c) (.agg d)) e:=by
 have:=KT.equal (P:=P) (w:=e) (ow:=λ_=>False) (KT.st (b.map IZ)) f (.agg c) (.agg d) g h 10000 m (by simp only[KT.Bm];exact WJ k) (by simp only[KT.Bm];exact WJ l) (by simp only[D.Ax];exact Ju i) (by simp only[D.Ax];exact Ju j) (by simp only[KT.depth];have:=zY (kd:=b);omega) e;simp only[FM,D.isAgg,Bu,Cy]at this;exact this
def vw:∀{a b c:List D},Vm a b=true->Vm b c=true->Vm a c=true
|[],[],[],_,_=>rfl
|x::r,y::s,z::t,h,d=>by
 simp only[Vm,BB]at h d⊢;refine⟨?_,vw h.2 d.2⟩;have e:=h.1;have f:=d.1;cases x<;>cases y<;>simp[Lr]at e<;>cases z<;>simp[Lr]at f<;>simp_all[Lr]
|[],[],_::_,_,h=>by cases h
|[],_::_,_,h,_=>by cases h
|_::_,[],_,h,_=>by cases h
|_::_,_::_,[],_,h=>by cases h
def Yi2{s:TypeId}{k:D}{u:Value}(q:k.key=some u)(y:∀j v,EI k j=true->j.key=some v->∀b,(Op.equal s u v).run P b=.ok (DW k j) b):∀(m:List (D×V)) (l:List MapEntry) (i:Nat),Yj w ρ m l->(∀e∈m,EI k e.1=true)->
 (Y4 k m=none/\∀b,(Instr.findAsking s u l i).run P b=.ok none b)\/∃v j e,Y4 k m=some v/\(∀b,(Instr.findAsking s u l i).run P b=.ok (some (i+j,e.val)) b)/\l[j]? = some e/\v.Ax w ρ e.val/\e.key=u/\∀i,i<j->∀g,l[i]? = some g->g.key≠u
|[],l,i,h,_=>by
 simp only[Yj]at h;subst h;exact .inl ⟨rfl,λb=>by simp[Instr.findAsking]⟩
|(j,v)::r,l,i,h,t=>by
 obtain⟨e,T,rfl,p,J,L⟩:=h;have d:=t (j,v) (by simp);have f:=y j _ d p;simp only[Y4];cases c:DW k j with
 |true=>
  rw[c]at f;exact .inr ⟨v,0,e,by simp,λb=>by simp[Instr.findAsking,f],by simp,J,gI d c q p,λ_ h=>(by omega)⟩
 |false=>
  rw[c]at f;rcases Yi2 q y r T (i+1) L (λx O=>t x (by simp[O])) with⟨n,o⟩|⟨U,Q,g,n,o,z,F,G,H⟩
  ·exact .inl ⟨by simpa using n,λb=>by simp[Instr.findAsking,f,o]⟩
  ·exact .inr ⟨U,Q+1,g,by simpa using n,λb=>by simp only[Instr.findAsking,Sem.run_bind,f,Result.andThen_ok,BO,Bs,o];congr 3;omega,by simpa using z,F,G,Xzb H λN=>by rw[gy q (by rw[p,N]) d]at c;cases c⟩
def wM{d:TypeId}{b:Array Field}(c:P.underlying d=some (.struct b)){u:Value}{l:List MapEntry}(f:World):(Instr.findKey d u l).run P f=(Instr.findAsking d u l).run P f:=by
 cases l with
 |nil=>simp[Instr.findKey,Xa c,Instr.findNow,Instr.findAsking]
 |cons e r=>
  have:Instr.findNow (.struct b) u (e::r) 0=none:=by simp[Instr.findNow,Instr.sameNow]
  simp[Instr.findKey,Xa c,this]
def cZ{q:TypeId}{F k:D}{u:Value}(c:Uz P q F=true)(d:EI F k=true)(r:k.key=some u){es:List (D×V)}{l:List MapEntry}(h:Yj w ρ es l)(y:∀e∈es,EI k e.1=true):
 (Y4 k es=none/\∀b,(Instr.findKey q u l).run P b=.ok none b)\/∃v j e,Y4 k es=some v/\(∀b,(Instr.findKey q u l).run P b=.ok (some (j,e.val)) b)/\l[j]? = some e/\v.Ax w ρ e.val/\e.key=u/\∀i,i<j->∀x,l[i]? = some x->x.key≠u:=by
 have L:=c;unfold Uz at c;split at c
 ·rename_i U;cases k<;>simp only[EI,BO]at d;rename_i G;have t:=r;simp only[D.key]at r;obtain⟨O,H,rfl⟩:=Zx r;have f:∃o,P.underlying q=some (.struct o):=by
   simp only[KT.Ak]at c;split at c
   ·exact⟨_,by assumption⟩
   ·cases c
  obtain⟨o,f⟩:=f;have N:∀j v,EI (.agg G) j=true->j.key=some v->∀b,(Op.equal q (.agg O.toArray) v).run P b=.ok (DW (.agg G) j) b:=by
   intro j v n z b;cases j<;>simp only[EI,BO]at n;simp only[D.key]at z;obtain⟨T,J,rfl⟩:=Zx z;exact X6u c d n (vw d n) H J b
  rcases Yi2 (w:=w) (ρ:=ρ) t N es l 0 h y with⟨g,m⟩|⟨v,j,e,g,m,s⟩
  ·exact .inl ⟨g,λb=>(wM f b).trans (m b)⟩
  ·exact .inr ⟨v,j,e,g,λb=>(wM f b).trans (by simpa using m b),s⟩
 ·split at c
  ·rename_i Q p;rcases uW (xN c d) r es l 0 h y with⟨g,m⟩|⟨v,j,e,g,m,s⟩
   ·exact .inl ⟨g,λb=>wN p m b⟩
   ·exact .inr ⟨v,j,e,g,λb=>wN p (by simpa using m) b,s⟩
  ·cases c
def uj{w:World}{j:Nat->Prop}:∀{g:List D}{d c:List Value},Ui g=some d->Bq w j g c->c=d
|[],d,c,h,b=>by simp only[Ui,CJ]at h;simp only[Bq]at b;rw[b,h]
|x::r,d,c,h,b=>by
 simp only[Ui]at h;split at h
 next u l e i=>cases h;simp only[Bq]at b;obtain⟨m,n,rfl,f,k⟩:=b;rw[uj i k];cases x<;>simp only[D.F8,CJ,reduceCtorEq]at e<;>subst e<;>simp only[D.Ax]at f<;>rw[f]<;>rfl
 ·cases h
def ZW{d:D}{u v:Value}(c:d.key=some u)(b:(V.d d).Ax w ρ v):v=u:=by
 cases d<;>simp only[D.key,CJ,reduceCtorEq]at c
 ·rw[Yf]at b;rw[b,<-c]
 ·rw[BR]at b;rw[b,<-c]
 ·rw[CO]at b;rw[b,<-c]
 ·obtain⟨g,e,rfl⟩:=Zx c;rw[Ii]at b;rcases b with⟨_,f,rfl,b⟩|⟨b,_⟩
  ·simp only[D.Ax]at b;rw[uj e b]
  ·cases b
def Yiq{i:TypeId}{z:D}(h:(match U3 P i with|some e=>ET z e&&(((P.info? i).bind (·.zero)).map λv=>match v with|.agg _=>true|_=>false)==some (V.d z).isAgg|none=>false)=true):
 ∃f,(V.d z).Ax w ρ f/\∀m,(zeroValue i).run P m=.ok f m:=by
 cases c:U3 P i with
 |none=>simp[c]at h
 |some e=>
  simp only[c,BB,C9]at h;obtain⟨k,b⟩:=h;obtain⟨f,g,o,l⟩:=Qz c;refine⟨f,?_,l⟩;have j:(V.d z).Al w ρ e:=by simp only[V.Al];exact Mz z e k
  rw[o]at b;simp only[Option.map_some,CJ]at b;cases f with
  |agg n=>
   simp only at b;refine .inr (.inl ⟨b.symm,e,?_,j⟩);simp only[Value.cells]at g;rw[<-g]
  |_=>
   simp only at b;refine .inr (.inr ⟨b.symm,?_⟩);simp only[Value.cells]at g;rw[<-g]at j;simpa using j
def Ygi(hs:SM w ρ sl a)(N:OM w ρ ob){op:Op}{kd z:D}{ok:Bool}{m k:A}(hc:I.Ak P op (.Kj kd z ok m k)=true)(h:LX ob kd z ok (λv=>K v ob) (m.ev sl) (k.ev sl)):Ja P a w ρ op K Pn:=by
 cases op<;>simp only[I.Ak,BO]at hc;rename_i t x i o;simp only[BB,C9]at hc;obtain⟨⟨⟨rfl,aa⟩,hx⟩,hi⟩:=hc;obtain⟨U,Q,T,F,hz⟩:∃U Q,P.underlying t=some (.map U Q)/\Uz P U kd=true/\(match U3 P Q with|some cs=>ET z cs&&(((P.info? Q).bind (·.zero)).map λv=>match v with|.agg _=>true|_=>false)==some (V.d z).isAgg|none=>false)=true:=by
  revert aa;split
  next U Q h=>intro h1;simp only[BB]at h1;exact⟨U,Q,h,h1.1,h1.2⟩
  ·intro h;cases h
 obtain⟨zv,H,G⟩:=Yiq (w:=w) (ρ:=ρ) hz;have s:=A.Az hs hx;have Y:=A.Az hs hi;have O:∀{v:V}{u:Value}(b:Bool),v.Ax w ρ u->(V.BT [v,.d (.bool b)]).Ax w ρ (.tuple #[u,.bool b]):=λb hv=>by
  rw[CP];refine⟨[_,.bool b],rfl,?_⟩;simp only[V.A8];exact⟨_,_,rfl,hv,_,_,rfl,BR.2 rfl,rfl⟩
 unfold LX at h;split at h
 ·rename_i id kk e1 e2;rw[e1]at s;rw[e2]at Y;unfold NW at h;split at h
  ·rename_i es hl;obtain⟨⟨c,X⟩,y⟩:=h;obtain⟨b,l,Z,g1,g2,g3,_⟩:=N.BW id _ hl;rw[QX]at s;rcases s with⟨b',W,s⟩|⟨W,_⟩
   ·rw[g1]at W;cases W;obtain⟨_,ku,_,n⟩:=dN c;have p:=ZW n Y;have g:=λb L=>cB F c n b L;have q:(getObj b).run P w=.ok (.map l.toArray Z) w:=by simp[getObj,Sem.run,g2]
    rcases cZ F c n g3 X with⟨f1,J⟩|⟨v,j,e,f1,J,f3,f4,f5,_⟩
    ·rw[f1]at y;cases o
     ·exact Xw (λo r=>by simp[execOp,r,Instr.lookup,s,p,Xa T,q,g,J,G]) y H N (Tr.refl _ _)
     ·exact Xw (λo r=>by simp[execOp,r,Instr.lookup,s,p,Xa T,q,g,J,G]) y (O false H) N (Tr.refl _ _)
    ·rw[f1]at y;cases o
     ·exact Xw (λo r=>by simp[execOp,r,Instr.lookup,s,p,Xa T,q,g,J]) y f4 N (Tr.refl _ _)
     ·exact Xw (λo r=>by simp[execOp,r,Instr.lookup,s,p,Xa T,q,g,J]) y (O true f4) N (Tr.refl _ _)
   ·rw[g1]at W;cases W
  ·cases h
 ·rename_i kk e1 e2;rw[e1,SW]at s;rw[e2]at Y;obtain⟨c,y⟩:=h;obtain⟨_,ku,_,n⟩:=dN c;have p:=ZW n Y;have g:=λb L=>cB F c n b L;have J:∀L,(Instr.findKey U ku ([]:List MapEntry)).run P L=.ok none L:=λL=>by
   rcases cZ (w:=w) (ρ:=ρ) (es:=[]) (l:=[]) F c n rfl (by simp) with⟨_,f⟩|⟨_,_,_,f,_⟩
   ·exact f L
   ·cases f
  cases o
  ·exact Xw (λo r=>by simp[execOp,r,Instr.lookup,s,p,Xa T,g,J,G]) y H N (Tr.refl _ _)
  ·exact Xw (λo r=>by simp[execOp,r,Instr.lookup,s,p,Xa T,g,J,G]) y (O false H) N (Tr.refl _ _)
 ·cases h
def Yme{k:D}{u:Value}{x:V}{i:Value}(f:k.key=some u)(g:x.Ax w ρ i)(b:Nat):∀(d:List (D×V)) (l:List MapEntry),Yj w ρ d l->Y4 k d=none->Yj w ρ (EW k x d) (l++[{key:=u,val:=i,born:=b}])
|[],l,h,_=>by simp only[Yj]at h;subst h;exact⟨_,[],rfl,f,g,rfl⟩
|(j,v)::r,l,h,c=>by
 obtain⟨e,q,rfl,m,n,o⟩:=h;simp only[Y4]at c;split at c
 ·cases c
 next p=>simp only[EW,p];exact⟨e,_,rfl,m,n,Yme f g b r q o c⟩
def Ydk{k:D}{u:Value}{x:V}{H:Value}(m:k.key=some u)(n:x.Ax w ρ H):∀(o:List (D×V)) (l:List MapEntry) (v:V) (j:Nat) (e:MapEntry),Yj w ρ o l->(∀e∈o,EI k e.1=true)->(∀i,i<j->∀b,l[i]? = some b->b.key≠u)->l[j]? = some e->e.key=u->
 Yj w ρ (EW k x o) (l.modify j λe=>{e with key:=u,val:=H})
|[],l,v,j,e,h,_,_,c,_=>by simp only[Yj]at h;subst h;simp at c
|(q,y)::r,l,v,0,e,h,g,_,c,s=>by
 obtain⟨b,z,rfl,f,F,p⟩:=h;simp only[List.getElem?_cons_zero,CJ]at c;subst c;have d:=gy m (by rw[f,s]) (g (q,y) (by simp));simp only[EW,d,Bu];exact⟨_,z,rfl,m,n,p⟩
|(q,y)::r,l,v,j+1,e,h,g,G,c,s=>by
 obtain⟨b,z,rfl,f,F,p⟩:=h;have t:=G 0 (by omega) b (by simp);have d:DW k q=false:=by
  cases d:DW k q with
  |false=>rfl
  |true=>exact absurd (gI (g (q,y) (by simp)) d m f) t
 simp only[EW,d,BO,Bs];exact⟨b,_,rfl,f,F,Ydk m n r z v j e p (λx n=>g x (by simp[n])) (λi N J L=>G (i+1) (by omega) J (by simpa using L)) (by simpa using c) s⟩
def vv{n:Nat}:∀{f:List D}{b:List Value},Ui f=some b->(b.zip b).all (λ(x,y)=>Instr.sameBits n x y)=true
|[],b,h=>by simp only[Ui,CJ]at h;subst h;rfl
|x::r,b,h=>by
 simp only[Ui]at h;split at h
 next u e c d=>cases h;simp only[List.zip_cons_cons,List.all_cons,BB];refine⟨?_,vv d⟩;cases x<;>simp only[D.F8,CJ,reduceCtorEq]at c<;>subst c<;>cases n<;>simp[Instr.sameBits,beq_toListBytes]
 ·cases h
def Xqh{k:D}{u:Value}(h:k.key=some u):Instr.sameBits 10000 u u=true:=by
 cases k<;>simp only[D.key,CJ,reduceCtorEq]at h
 ·subst h;show(_==_&&_==_)=true;simp
 ·subst h;show(_==_)=true;simp
 ·subst h;show(_==_)=true;rw[beq_toListBytes];simp
 ·obtain⟨c,b,rfl⟩:=Zx h;have:=vv (n:=9999) b;show(_==_&&_)=true;simpa using this
def rh:∀{l:List MapEntry}{n:Nat}{e:MapEntry},FW n l->e.born=n+l.length->FW n (l++[e])
|[],n,e,_,h=>⟨by simpa using h,trivial⟩
|x::r,n,e,h,b=>⟨h.1,rh h.2 (by simp at b;omega)⟩
def ri:∀{l:List MapEntry}{n:Nat},FW n l->∀(j:Nat)(u v:Value),FW n (l.modify j λe=>{e with key:=u,val:=v})
|[],n,h,j,u,v=>by simpa using h
|x::r,n,h,0,u,v=>⟨h.1,h.2⟩
|x::r,n,h,j+1,u,v=>⟨h.1,ri h.2 j u v⟩
def X6i(hs:SM w ρ sl a)(Z:OM w ρ ob){L:Op}{U:D}{m k v:A}(g:I.Ak P L (.C4 U m k v)=true)(h:LG ob U (v.ev sl) K (m.ev sl) (k.ev sl)):Ja P a w ρ L K Pn:=by
 obtain⟨t,x,i,y,J,ab,hx,hi,hy⟩:∃t x i y,(L=.mapUpdate t x i y\/L=.insert t x i y)/\(match P.underlying t with|some (.map s _)=>Uz P s U|_=>false)=true/\A.Ak x m=true/\A.Ak i k=true/\A.Ak y v=true:=by
  cases L<;>simp only[I.Ak,BO,BB]at g
  next t x i y=>exact⟨t,x,i,y,.inr rfl,g.1.1.1,g.1.1.2,g.1.2,g.2⟩
  next t x i y=>exact⟨t,x,i,y,.inl rfl,g.1.1.1,g.1.1.2,g.1.2,g.2⟩
 obtain⟨s,O,ht,H⟩:∃s O,P.underlying t=some (.map s O)/\Uz P s U=true:=by
  revert ab;split
  next s O h=>intro h1;exact⟨s,O,h,h1⟩
  ·intro h;cases h
 have u:=A.Az hs hx;have r2:=A.Az hs hi;have r3:=A.Az hs hy;unfold LG at h;split at h
 ·rename_i id kk e1 e2;rw[e1]at u;rw[e2]at r2;unfold NH at h;split at h
  ·rename_i es hl;obtain⟨⟨r,n⟩,ac,hK⟩:=h;obtain⟨b,l,c,T,z,X,Y,g6⟩:=Z.BW id _ hl;rw[QX]at u;rcases u with⟨b',F,u⟩|⟨F,_⟩
   ·rw[T]at F;cases F;obtain⟨_,q,_,d⟩:=dN r;have N:=ZW d r2;have G:=λb w'=>cB H r d b w';have p:(getObj b).run P w=.ok (.map l.toArray c) w:=by simp[getObj,Sem.run,z]
    rcases cZ H r d X n with⟨f0,W⟩|⟨v',j,e,f0,W,Q,_,f3,f6⟩
    ·have Q:=Yme d r3 c es l X f0;obtain⟨t1,o1⟩:=yt (clk':=c+1) Z hl T z Q ⟨by simp[Y],rh g6 (by simp[Y])⟩;refine UX (λo ho=>?_) hK o1 t1;have f:(setObj b (.map ((l++[(⟨q,a.eval y,c⟩:MapEntry)]).toArray) (c+1))).run P w=.ok () (EV w b (.map ((l++[(⟨q,a.eval y,c⟩:MapEntry)]).toArray) (c+1))):=by simp[setObj,Sem.run,z,EV]
     rcases J with rfl|rfl<;>simp[execOp,ho,Instr.mapUpdate,u,N,Xa ht,p,G,W]<;>(rw[f];simp)
    ·have f4:=Ydk d r3 es l v' j e X n f6 Q f3;obtain⟨t1,o1⟩:=yt (clk':=c) Z hl T z f4 ⟨by simp[Y],ri g6 j _ _⟩;refine UX (λo ho=>?_) hK o1 t1;have aa:(Instr.keyThatStays e.key q).run P w=.ok q w:=by simp[Instr.keyThatStays,f3,Xqh d]
     have hm:(l.toArray.modify j λe=>{e with key:=q,val:=a.eval y})=(l.modify j λe=>{e with key:=q,val:=a.eval y}).toArray:=by simp
     have f:(setObj b (.map (l.modify j λe=>{e with key:=q,val:=a.eval y}).toArray c)).run P w=.ok () (EV w b (.map (l.modify j λe=>{e with key:=q,val:=a.eval y}).toArray c)):=by simp[setObj,Sem.run,z,EV]
     rcases J with rfl|rfl<;>simp[execOp,ho,Instr.mapUpdate,u,N,Xa ht,p,G,W,Q,aa]<;>(rw[f];simp)
   ·rw[T]at F;cases F
  ·cases h
 ·cases h
def Yge{P:BA}(W:ρ.gl=P.g)(z:OM w ρ ob){op:Op}{g n:Nat}{ag:Bool}{x:D}(b:I.Ak P.p op (.Lg g n ag x)=true)(h:Bx P g x/\x.sz=n/\(V.d x).isAgg=ag/\K (.d x) ob):Ja P.p a w ρ op K Pn:=by
 obtain⟨t,L,q,r,s⟩:∃t,op=.load t (.global g)/\Yl P.p t=some n/\(P.p.underlying t).isSome=true/\GV P.p t=ag:=by
  simp only[I.Ak]at b;split at b
  next t H=>simp only[BB,C9]at b;obtain⟨⟨⟨rfl,q⟩,r⟩,s⟩:=b;exact⟨t,rfl,q,r,s⟩
  ·cases b
 obtain⟨⟨m,T,f,G,hx⟩,Q,F,U⟩:=h;obtain⟨H,J⟩:=z.EF g _ (by rw[W];exact G);have c:x.Ax w (CH ρ) m:=Mz x m hx;have Z:(V.d (.Bv x)).Ax w ρ (.pointer (some ⟨g,0,none⟩)):=L3.2 ⟨⟨g,0,none⟩,m,rfl,rfl,⟨λ_=>⟨rfl,J,Xl H⟩,λi X=>by simp[World.cell?,H,X]⟩,c⟩;let l:Act:=⟨#[.pointer (some ⟨g,0,none⟩)],[]⟩
 have O:SM w ρ [(0,.d (.Bv x))] l:=by
  intro k;simp only[A7];split
  next e=>subst e;exact Z
  ·exact J0
 obtain⟨v,y,u,N,j⟩:=SZ (P:=P.p) (K:=λv=>v=V.d x) (a:=l) (n:=n) (ag:=ag) (x:=.t 0) (op:=.load t (.tmp 0)) O z (by simp[C.Ak,q,r,s,A.Ak]) (by simp[A.ev,A7,En,Q,F]);subst u;refine Xw (λo Y=>?_) U N z (Tr.refl _ _)
 have:=j ⟨none,.load t (.tmp 0),0, "", #[],none⟩ rfl w (λ_=>B5.refl w)
 simp only[execOp,Act.eval,l]at this;simp only[execOp,Y,L,Act.eval];simpa using this
def Ygq(hs:SM w ρ sl a)(l:OM w ρ ob){u:Op}{n z:Nat}{x:A}(d:I.Ak P u (.Kp n z x)=true)(h:Ld ob n z K (x.ev sl)):Ja P a w ρ u K Pn:=by
 obtain⟨t,g,e,s,ht,X,hx⟩:∃t g e,u=.slice t g none none none/\P.underlying t=some (.array n e)/\Yl P e=some z/\A.Ak g x=true:=by
  simp only[I.Ak]at d;split at d
  ·rename_i t g;simp only[BB]at d;obtain⟨c,U⟩:=d;split at c
   next m e hu=>simp only[BB,C9]at c;obtain⟨rfl,c⟩:=c;exact⟨t,g,e,rfl,hu,c,U⟩
   ·cases c
  ·cases d
 have j:=A.Az hs hx;unfold Ld at h;split at h
 ·rename_i id p O;rw[O]at j;unfold Nb at h;split at h
  ·rename_i xs q;obtain⟨Z,hz,W⟩:=h;obtain⟨y,b',N,E,F,Q,k,G,T⟩:=M9 l q;obtain⟨b,sh,f,j⟩:=Bp l F j;rw[f]at k;simp only[CJ,RO.box.injEq]at k;obtain⟨rfl,rfl⟩:=k;obtain⟨J,o1,r⟩:=Sj l (id:=id) ⟨_,F⟩;obtain⟨c1,L,c3,q1,q2,H⟩:=JV p y _ N T Q;simp only[V.Al,D.Ax]at H;refine Xw (v:=.slice (some ⟨b,y.shape.off p,none⟩) n n) (λo ho=>?_) W ?_ o1 J
   ·simp only[execOp,ho,s,j,Option.map_none,Instr.sliceAt,Sem.run_bind,Xa ht,Result.andThen_ok,Instr.sureAddr,Sem.run_pure,Instr.sliceBounds,X2 X];simp only[Nat.zero_mul,Nat.sub_zero];rw[Addr.By rfl];simp
   ·rw[Za];refine .inr ⟨⟨b,y.shape.off p,none⟩,n,L,by rw[Z],by omega,⟨λ_=>⟨rfl,r b _ f rfl,Xl G⟩,λi Y=>?_⟩,GF J.mono _ _ H,hz⟩;rw[<-q2];simp[World.cell?,G,q1,JY,Y]
  ·cases h
 ·cases h
def Ygp(J:SM w ρ sl a)(q:OM w ρ ob){F:Op}{n z:Nat}{x:A}{L G:Option A}(g:I.Ak P F (.Is n z x L G)=true)(h:Np ob n z (L.map (A.ev sl)) (G.map (A.ev sl)) K (x.ev sl)):Ja P a w ρ F K Pn:=by
 cases F<;>simp only[I.Ak,BO]at g;rename_i t x1 l1 h1 m1;cases m1<;>simp only[BO]at g;simp only[BB]at g;obtain⟨⟨⟨k,y⟩,u⟩,r⟩:=g;obtain⟨e,ht,W⟩:∃e,P.underlying t=some (.array n e)/\Yl P e=some z:=by
  revert k;split
  next m e hu=>simp only[BB,C9];rintro⟨rfl,k⟩;exact⟨e,hu,k⟩
  ·simp
 have i:=A.Az J y;unfold Np at h;split at h
 ·rename_i id p N;rw[N]at i;cases c:DL ob id p with
  |none=>simp[c,Vf,Na]at h
  |some v=>
   cases s:v.Bc with
   |none=>simp[c,Vf,s,Na]at h
   |some ks=>
    simp only[c,Vf,s,Na]at h;obtain⟨H,hz,h⟩:=h;obtain⟨d,b',cs,E,O,Q,j,g4,g5⟩:=M9 q c;obtain⟨b,sh,f,i⟩:=Bp q O i;rw[f]at j;simp only[CJ,RO.box.injEq]at j;obtain⟨rfl,rfl⟩:=j;obtain⟨l,T,U,q1,q2,Z⟩:=UJ (P:=P) (cap:=n) (isS:=false) J (Bg _) u r h;refine Xw (v:=.slice (some (if n=l then⟨b,d.shape.off p,none⟩ else (⟨b,d.shape.off p,none⟩:Addr).add (l*z))) (T-l) (n-l)) (λo Y=>?_) U ?_ q (Tr.refl _ _)
    ·simp only[execOp,Y,i,Instr.sliceAt,Sem.run_bind,Xa ht,Result.andThen_ok,Instr.sureAddr,Sem.run_pure,Option.map_none,Z,X2 W]
    ·rw[S1];refine .inl ⟨b,d.shape,n-l,if n=l then d.shape.off p else d.shape.off p+l*z,f,⟨by omega,λX=>?_⟩,?_⟩
     ·rw[Aq (by omega),PU _ p d v l rfl Q,Sm s,Yg (z:=z) _ (λx y=>hz x (F1 y)),Fm,Gx (by omega)]
     ·split
      ·rfl
      ·rw[Addr.By rfl]
 ·cases h
def uB(hO:OM w ρ ob){id c n z:Nat}{p:List Nat}{g:List D}{j:List Value}{r:V}{u:Value}(hu:(V.bs id p c n).Ax w ρ u)(s:Bq w (CH ρ) g j)(hz:∀y∈g,y.sz=z)(hn:g.length<=n)
 (h:I1 ob id p c n z g r K (AB ob id)):∃b f k w' O,u=.slice (some ⟨b,f,none⟩) n k/\(storeCells ⟨b,f,none⟩ j).run P w=.ok () w'/\Tr w ρ w' ρ/\OM w' ρ O/\K r O:=by
 unfold I1 at h;split at h
 ·rename_i E t hl;unfold RG at h;split at h
  ·rename_i l o;obtain⟨ai,q,af,t',L,hK⟩:=h;obtain⟨b,m,v,g2,g3⟩:=hO.BW id _ hl;rw[S1]at hu;rcases hu with⟨b',sh,k,f,Q,⟨q2,q3⟩,q4⟩|⟨Q,_⟩
   case inr=>rw[Q]at v;cases v
   rw[v]at Q;simp only[CJ,RO.box.injEq]at Q;obtain⟨rfl,rfl⟩:=Q;obtain⟨X,e,Y,T,Z,U⟩:=JV p t _ m g3 o;simp only[V.Al,D.Ax]at U;have N:j.length=g.length*z:=by rw[Gv _ _ s,Er _ hz]
   have aa:e.length=l.length*z:=by rw[Gv _ _ U,Er _ q]
   have tk:∀i,i<=l.length->C8 (l.take i)=i*z:=λi hi=>by
    rw[Er (sz:=z) _ (λy s=>q y (F1 s)),Fm,Gx hi]
   have s1:=(Mx l c e U).1;have s2:=(Mx l (c+g.length) e U).2;rw[tk c (by omega)]at s1;rw[tk (c+g.length) (by omega)]at s2;have G:Bq w (CH ρ) (JK c l g) (e.take (c*z)++(j++e.drop ((c+g.length)*z))):=T1 s1 (T1 s s2);have ad:(c+g.length)*z<=e.length:=by rw[aa];exact PY z (by omega)
   have F:c*z+j.length=(c+g.length)*z:=by rw[N,Hs]
   obtain⟨aj,e4,e5,W⟩:=PR p t _ (.d (.agg (JK c l g))) m _ g3 o (by simp only[V.Al,D.Ax];exact G) (by simpa only[V.shape]using af);rw[L]at e4;simp only[CJ]at e4;subst e4;have e7:m.take (t.shape.off p)++(e.take (c*z)++(j++e.drop ((c+g.length)*z))++m.drop (t.shape.off p+(e.take (c*z)++(j++e.drop ((c+g.length)*z))).length))=X++((e.take (c*z)++(j++e.drop ((c+g.length)*z)))++Y):=by
    have ac:(e.take (c*z)++(j++e.drop ((c+g.length)*z))).length=e.length:=by
     simp only[C7,Fm,List.length_drop];omega
    rw[ac,<-Z,T,List.take_left,<-JX X e Y,<-C7,List.drop_left]
   rw[e7]at W;by_cases ae:n=0
   ·have ah:g=[]:=UD (by omega);subst ah;have ag:j=[]:=UD (by simpa using N);subst ag;have e8:X++((e.take (c*z)++([]++e.drop ((c+([]:List D).length)*z)))++Y)=m:=by rw[T];simp
    rw[e8]at W;exact⟨b,f,k,w,_,q4,by simp[storeCells],Tr.refl _ _,hO.swap hl (x':=.box E t') ⟨b,m,by rw[e5];exact v,g2,W⟩,hK⟩
   ·have hf:=q3 ae;have ab:(V.d (.agg l)).Bc=some (l.map .d):=rfl;have H:t.shape.off (p++[c])=t.shape.off p+c*z:=by
     rw[PU _ p t _ c rfl o,Sm ab,Yg (z:=z) _ (λx hx=>?_),Fm,List.length_map,Gx (by omega)];obtain⟨y,s,rfl⟩:=DY.1 (F1 hx);simp[V.size,V.shape,Cb,q y s]
    obtain⟨t1,o1⟩:=Dy hO hl v g2 e5 W;have J:=run_storeCells_at (P:=P) b (t.shape.off p+c*z) E j 0 m.toArray w g2 (by rw[T,<-Z];simp;omega) (T6 g j s);refine⟨b,f,k,_,_,q4,?_,t1,o1,hK⟩;rw[hf,H,J];congr 2;simp only[Nat.add_zero];rw[T,<-Z,Rt,Ku,Ru,F,List.take_append_of_le_length (by omega),List.drop_append_of_le_length ad];simp
  ·cases h
 ·cases h
def Ygc(hs:SM w ρ sl a)(hO:OM w ρ ob){Y:Op}{z:Nat}{x y:A}(m:I.Ak P Y (.Lf z x y)=true)(h:Oj z ob K (x.ev sl) (y.ev sl)):Ja P a w ρ Y K Pn:=by
 cases Y<;>simp only[I.Ak,BO]at m;rename_i c;obtain⟨ca,r,ts⟩:=c;cases ca<;>(try simp only[BO]at m);rename_i b;cases b<;>(try simp only[BO]at m);split at m
 ·rename_i u v t Z e1 e2;simp only[BB]at m;obtain⟨⟨h0,h1⟩,h2⟩:=m;have ea:r=#[u,v]:=by simpa using Cc List.toArray e1
  have et:ts=#[t,Z]:=by simpa using Cc List.toArray e2
  subst ea et;obtain⟨e,ht,he,ab⟩:∃e,P.underlying t=some (.slice e)/\Yl P e=some z/\z≠0:=by
   revert h0;split<;>simp_all
  have r1:=A.Az hs h1;have l:=A.Az hs h2;unfold Oj at h;split at h
  ·rename_i id p lo n k d e3 e4;obtain⟨rfl,h⟩:=h;rw[e3]at r1;rw[e4,Za]at l;have X:∃i,Bq w (CH ρ) (d.take n) i/\(∀y∈d.take n,y.sz=k)/\(Builtin.lenOf (a.eval v)).run P w=.ok d.length w/\(Builtin.firstCells k (Nat.min d.length n) (a.eval v)).run P w=.ok i.toArray w:=by
    rcases l with⟨rfl,l⟩|⟨ad,J,i,l,aa,s,G,U⟩
    ·exact⟨[],by simp[Bq],by simp,by simp[l,Builtin.lenOf],by simp[l,Builtin.firstCells]⟩
    ·have s1:=(Mx d n i G).1;have W:i.length=d.length*k:=by rw[Gv _ _ G,Er _ U]
     have tk:C8 (d.take n)=Nat.min d.length n*k:=by
      rw[Er (sz:=k) _ (λy H=>U y (F1 H)),Fm,Nat.min_comm]
     rw[tk]at s1;refine⟨_,s1,λy H=>U y (F1 H),by simp[l,Builtin.lenOf],?_⟩;have g:(i.take (Nat.min d.length n*k)).length=Nat.min d.length n*k:=by
      rw[Fm,W,Gx (PY k (Nat.min_le_left _ _))]
     have hl:=run_loadCells_list (P:=P) (w:=w) ad (i.take (Nat.min d.length n*k)) (λj c hj=>by
      obtain⟨Q,e⟩:=Ek.1 hj;have F:j<i.length:=by rw[Fm]at Q;omega
      have T:i≠[]:=by intro h;simp[h]at F
      rw[Addr.By (s.1 T).1,<-e,List.getElem_take];exact s.2 j F)
     rw[g]at hl;rw[l];simpa only[Builtin.firstCells]using hl
   obtain⟨i,H,hz,g,O⟩:=X;obtain⟨b,f,J,w',ac,q1,q2,t1,o1,hK⟩:=uB (P:=P) hO r1 H hz (by rw[Fm];omega) h;refine Xw (v:=.int .i64 (Nat.min d.length n:Nat)) (λo ho=>?_) hK (Yf.2 rfl) o1 t1;have q:∀ty,(Builtin.copy_ #[t,Z] ty #[a.eval u,a.eval v]).run P w=.ok (goInt (Nat.min d.length n)) w':=by
    intro ty;unfold Builtin.copy_;have e0:(#[t,Z]:Array TypeId)[0]? = some t:=rfl;have L:(#[a.eval u,a.eval v]:Array Value)[0]? = some (a.eval u):=rfl;have N:(#[a.eval u,a.eval v]:Array Value)[1]? = some (a.eval v):=rfl;rw[e0,L,N,q1];simp only[Sem.run_bind,Xa ht,Result.andThen_ok,g,X2 he,O,q2,Sem.run_pure]
   simp only[execOp,ho,resolve,invoke,builtin,Sem.run_bind,Sem.run_pure,Result.andThen_ok,List.map_toArray,Cw,Ht,q];rfl
  ·cases h
 ·simp at m
def Ygb(hs:SM w ρ sl a)(T:OM w ρ ob){op:Op}{s:D}{z:Nat}{x:A}(k:I.Ak P op (.KZ s z x)=true)(h:Ok s z ob K (x.ev sl)):Ja P a w ρ op K Pn:=by
 cases op<;>simp only[I.Ak,BO]at k;rename_i c;obtain⟨ca,F,ts⟩:=c;cases ca<;>(try simp only[BO]at k);rename_i b;cases b<;>(try simp only[BO]at k);split at k
 ·rename_i u t e1 e2;simp only[BB]at k;obtain⟨h0,h1⟩:=k;have ea:F=#[u]:=by simpa using Cc List.toArray e1
  have et:ts=#[t]:=by simpa using Cc List.toArray e2
  subst ea et;obtain⟨e,ht,he,aa,d,Z,j⟩:∃e,P.underlying t=some (.slice e)/\Yl P e=some z/\z≠0/\∃d,U3 P e=some d/\ET s d=true:=by
   revert h0;split
   ·rename_i e hu;simp only[BB,C9,bne_iff_ne,ne_eq];rintro⟨⟨h2,h3⟩,Q⟩;refine⟨e,hu,h2,h3,?_⟩;cases hz:U3 P e with
    |none=>simp[hz]at Q
    |some d=>simp only[hz]at Q;exact⟨d,rfl,Q⟩
   ·simp
  obtain⟨zv,ez,_,q⟩:=Qz Z;have r:=A.Az hs h1;unfold Ok at h;split at h
  ·rename_i id p lo n e3;rw[e3]at r;have e0:(#[t]:Array TypeId)[0]? = some t:=rfl;have G:(#[a.eval u]:Array Value)[0]? = some (a.eval u):=rfl;by_cases hn:n=0
   ·subst hn;obtain⟨⟨E,t0,hl⟩,h⟩:=h.1 rfl;refine Xw (v:=.tuple #[]) (λo W=>?_) h (CP.2 ⟨[],rfl,rfl⟩) T (Tr.refl _ _);have g:∀L,(Builtin.clear_ #[t] L #[a.eval u]).run P w=.ok (.tuple #[]) w:=by
     intro L;unfold Builtin.clear_;rw[e0,G];rw[S1]at r;rcases r with⟨b,sh,N,f,_,_,r⟩|⟨hg,_⟩
     ·rw[r];simp only[Sem.run_bind,Xa ht,Result.andThen_ok,Sem.run_pure]
     ·obtain⟨b,d,h5,_⟩:=T.BW id _ hl;rw[hg]at h5;cases h5
    simp only[execOp,W,resolve,invoke,builtin,Sem.run_bind,Sem.run_pure,Result.andThen_ok,List.map_toArray,Cw,Ht,g]
   ·obtain⟨⟨J,X⟩,h⟩:=h.2 hn;have l:∀m,Bq w (CH ρ) (List.replicate m s) (List.replicate m d).flatten:=by
     intro m;induction m with
     |zero=>simp[Bq]
     |succ m ih=>simp only[List.replicate_succ,List.flatten_cons,Bq];exact⟨d,_,rfl,Mz s d j,ih⟩
    have H:=l n;obtain⟨b,f,N,w',ab,q1,q2,t1,o1,hK⟩:=uB (P:=P) T r H (λy hy=>by rw[List.eq_of_mem_replicate hy];exact J) (by simp) h;refine Xw (v:=.tuple #[]) (λo W=>?_) hK (CP.2 ⟨[],rfl,rfl⟩) o1 t1;have g:∀L,(Builtin.clear_ #[t] L #[a.eval u]).run P w=.ok (.tuple #[]) w':=by
     intro L;unfold Builtin.clear_;rw[e0,G,q1];obtain⟨m,rfl⟩:∃m,n=m+1:=⟨n-1,by omega⟩
     have Y:(Builtin.zeroCells zv.cells (m+1)).toList=(List.replicate (m+1) d).flatten:=by
      have U:d.length=1:=by rw[HI _ _ (Mz (w:=w) (ρ:=ρ) s d j),J,X]
      obtain⟨c,rfl⟩:=Lt.1 U;have O:zv.cells=#[c]:=by apply Array.ext';exact ez
      simp only[Builtin.zeroCells,O];apply List.ext_getElem
      ·simp
      ·intro i h1 h2;simp[Nat.mod_one]
     simp only[Sem.run_bind,Xa ht,Result.andThen_ok,q,Y,q2,Sem.run_pure]
    simp only[execOp,W,resolve,invoke,builtin,Sem.run_bind,Sem.run_pure,Result.andThen_ok,List.map_toArray,Cw,Ht,g]
  ·cases h
 ·simp at k
def Xyr{P:BA}(Z:ρ.gl=P.g)(hs:SM w ρ sl a)(Q:OM w ρ ob){op:Op}{g n z:Nat}{x:D}{i:A}(c:I.Ak P.p op (.JN g n z x i)=true)(h:Bx P g x/\Nf n z (λv=>K v ob) x (i.ev sl)):IU P.p a w ρ op ob K:=by
 obtain⟨t,j,e,L,ht,Y,hj⟩:∃t j e,op=.indexAddr t (.global g) j/\P.p.underlying t=some (.array n e)/\Yl P.p e=some z/\A.Ak j i=true:=by
  simp only[I.Ak]at c;split at c
  ·rename_i t H j;simp only[BB,C9]at c;obtain⟨⟨rfl,b⟩,W⟩:=c;split at b
   next m e hu=>simp only[BB,C9]at b;obtain⟨rfl,b⟩:=b;exact⟨t,j,e,rfl,hu,b,W⟩
   ·cases b
  ·cases c
 obtain⟨⟨u,T,f,G,hx⟩,h⟩:=h;obtain⟨H,J⟩:=Q.EF g _ (by rw[Z];exact G);have l:x.Ax w (CH ρ) u:=Mz x u hx;have hr:(V.d (.Bv x)).Ax w ρ (.pointer (some ⟨g,0,none⟩)):=L3.2 ⟨⟨g,0,none⟩,u,rfl,rfl,⟨λ_=>⟨rfl,J,Xl H⟩,λi hi=>by simp[World.cell?,H,hi]⟩,l⟩;have r2:=A.Az hs hj;let s:Act:=⟨#[.pointer (some ⟨g,0,none⟩),a.eval j],[]⟩
 have O:SM w ρ [(0,.d (.Bv x)),(1,i.ev sl)] s:=by
  intro k;simp only[A7];split
  next e=>subst e;exact hr
  ·split
   next e=>subst e;exact r2
   ·exact J0
 unfold Nf at h;split at h
 ·rename_i r k m U;obtain⟨hm,hl,hz,X⟩:=h;obtain⟨v,y,F,N,q⟩:=xF (P:=P.p) (K:=λv=>v=V.d (.Bv (r.getD m.toNat default))) (a:=s) (n:=n) (z:=z) (x:=.t 0) (y:=.t 1) (op:=.indexAddr t (.tmp 0) (.tmp 1)) O Q (by simp[C.Ak,ht,Y,A.Ak]) (by
   have q0:A.ev [(0,V.d (.Bv (.agg r))),(1,i.ev sl)] (.t 0)=.d (.Bv (.agg r)):=rfl;have q1:A.ev [(0,V.d (.Bv (.agg r))),(1,i.ev sl)] (.t 1)=.d (.int k m):=by rw[<-U];rfl
   rw[q0,q1];exact⟨hm,hl,hz,rfl⟩)
  subst F;refine⟨_,_,w,X,N,B5.refl w,λo ho=>?_⟩
  have:=q ⟨none,.indexAddr t (.tmp 0) (.tmp 1),0, "", #[],none⟩ rfl w (λ_=>B5.refl w)
  simp only[execOp,Act.eval,s]at this;simp only[execOp,ho,L,Act.eval];simpa using this
 ·cases h
def Ycg(b:List Value)(f:b.length≠0):∀n:Nat,((Array.range (n*b.length)).map (λi=>b.toArray[i % b.toArray.size]!))=((List.replicate n b).flatten).toArray:=by
 intro n;apply Array.ext';simp only[Array.toList_map,Array.toList_range,List.toList_toArray];induction n with
 |zero=>simp
 |succ n d=>
  rw[List.replicate_succ,List.flatten_cons,<-d,Nat.succ_mul,Nat.add_comm,List.range_add,Ky,List.map_map];congr 1
  ·apply List.ext_getElem
   ·simp
   ·intro i c e;simp only[List.length_map,List.length_range]at c;simp[Nat.mod_eq_of_lt c,c]
  ·apply List.map_congr_left;intro i _;simp
def Ygk(hs:SM w ρ sl a)(hO:OM w ρ ob){X:Op}{E q B:Nat}{z:D}{l:A}(J:I.Ak P X (.Li E q B z l)=true)(h:Ou E q B z ob K (l.ev sl)):Ja P a w ρ X K Pn:=by
 cases X<;>simp only[I.Ak,BO]at J;rename_i t x y;simp only[BB,bne_iff_ne,ne_eq,C9]at J;obtain⟨⟨⟨⟨⟨⟨⟨h1,h2⟩,h3⟩,h4⟩,h5⟩,h6⟩,h7⟩,h8⟩:=J;have ht:P.underlying t=some (.slice E):=by
  revert h3;split
  next e he=>intro h;simp at h;subst h;exact he
  ·intro h;cases h
 obtain⟨d,F,L,N⟩:∃d,P.info? E=some d/\d.size=q/\d.bytes=B:=by
  revert h4;split
  next i F=>intro h;simp at h;exact⟨i,F,h.1,h.2⟩
  ·intro h;cases h
 obtain⟨c,W,U,k⟩:∃c,U3 P E=some c/\ET z c=true/\c.length=q:=by
  revert h7;split
  next c hz=>intro h;simp at h;exact⟨c,hz,h.1,h.2⟩
  ·intro h;cases h
 have r1:=A.Az hs h1;have r2:=A.Az hs h2;unfold Ou at h;split at h
 ·rename_i m e1;obtain⟨u,ac,hK⟩:=h;rw[e1,Yf]at r1 r2;have aa:m<=281474976710656:=by
   have:m*1<=m*(B:Int):=Int.mul_le_mul_of_nonneg_left (by omega) u;omega
  have T:IntKind.i64.wrap m=m:=by
   have G:m % (2 ^ IntKind.i64.bits:Int)=m:=Int.emod_eq_of_lt u (by show m<2 ^ 64;omega);have e2:¬m≥(2 ^ (IntKind.i64.bits-1):Int):=by show ¬m≥2 ^ 63;omega
   simp only[IntKind.wrap,G,e2,decide_false,Bool.and_false,BO,Bs]
  obtain⟨Z,ez,_,p⟩:=Qz W;have Q:∀Y,(typeInfo E).run P Y=.ok d Y:=λY=>by simp[typeInfo,F]
  have O:Yl P E=some q:=by simp[Yl,F,L]
  have s:=Wa w (.cells ((List.replicate m.toNat c).flatten).toArray E);have r:∀b,(RO.BG w.heap.size m.toNat m.toNat).blk? = some b->w.heap.size<=b:=λb hb=>by simp[RO.blk?]at hb;omega
  have f:=X0 ob;have t1:=Uo _ s (o:=.BG w.heap.size m.toNat m.toNat) (hO.free f) r;have j:∀n,Bq w (CH ρ) (List.replicate n z) (List.replicate n c).flatten:=by
   intro n;induction n with
   |zero=>simp[Bq]
   |succ n ih=>simp only[List.replicate_succ,List.flatten_cons,Bq];exact⟨c,_,rfl,Mz z c U,ih⟩
  refine Xw (v:=.slice (some ⟨w.heap.size,0,none⟩) m.toNat m.toNat) (λo ho=>?_) hK (Y3.2 ⟨_,by simp[A9.Be];rfl,?_⟩) (hO.Be s f r ?_) t1
  ·have ab:¬((B:Int)*m > 2 ^ 48):=by rw[Int.mul_comm];omega
   have hg:∀n,(Array.range n).map (λi=>Z.cells[i % Z.cells.size]!)=(Array.range n).map (λi=>c.toArray[i % c.toArray.size]!):=λn=>by
    have:Z.cells=c.toArray:=by rw[<-ez]
    rw[this]
   have g:(decide (m<0)||decide ((B:Int)*m > 2 ^ 48)||decide (m<0)||decide (m > m))=false:=by
    simp only[FU,M7];omega
   simp only[execOp,ho,Instr.makeSlice,Sem.run_bind,Xa ht,Result.andThen_ok,r1,r2,asInt,asIntOf,Sem.run_pure,Q,N,T,g,BO,Bs,run_askRoom,X2 O];by_cases h0:m.toNat=0
   ·have G:(Array.map (λx=>(#[]:Array Value)[x % (#[]:Array Value).size]!) (Array.range 0))=(List.replicate 0 c).flatten.toArray:=by simp
    simp only[h0,Nat.zero_mul,Bu,Sem.run_pure,Result.andThen_ok,newRow,Sem.run_bind,run_newObj];rw[G];rfl
   ·have H:m.toNat*q≠0:=Nat.mul_ne_zero h0 h5;simp only[H,Bs,Sem.run_bind,p,Result.andThen_ok,Sem.run_pure,newRow,run_newObj,hg];have:=Ycg c (by rw[k];exact h5) m.toNat;rw[k]at this;rw[this];rfl
  ·simp[RO.slice]
  ·refine .inr ⟨w.heap.size,m.toNat,(List.replicate m.toNat c).flatten,[],by simp[A9.Be],by simpa using Wi w (.cells ((List.replicate m.toNat c).flatten).toArray E),GF t1.mono _ _ (j _),λx hx=>by rw[List.eq_of_mem_replicate hx];exact h8,?_⟩;simp[k]
 ·cases h
def Yp1(h:OM w ρ ob){id E Z k b g:Nat}{G:List D}(J:AB ob id=some (.BG E Z G))(O:ρ.m id=some (.BG b G.length g))(hk:k<=G.length)(ac:Z≠0):
 Tr w ρ w ((ρ.Be id .An).Be (AA ob) (.BG b k g))/\OM w ((ρ.Be id .An).Be (AA ob) (.BG b k g)) ((AA ob,.BG E Z (G.take k))::AG ob id .An):=by
 have X:id≠AA ob:=λe=>by rw[e,X0]at J;cases J
 have W:ρ.m (AA ob)=none:=h.free (X0 ob);let f:=(ρ.Be id .An).Be (AA ob) (.BG b k g);have z:f.m (AA ob)=some (.BG b k g):=by simp[f,A9.Be]
 have t:f.m id=some .An:=by simp[f,A9.Be,X]
 have s:∀j,j≠AA ob->j≠id->f.m j=ρ.m j:=λj d n=>by simp[f,A9.Be,d,n]
 have N:Tr w ρ w f:=by
  refine⟨Bg _,λ_ _ _=>rfl,λc F=>.inl ?_,rfl,rfl,λj o H=>?_,rfl,rfl,rfl,Bg _⟩
  ·obtain⟨j,o,d,n⟩:=F;by_cases r:j=AA ob
   ·subst r;rw[z]at d;cases d;simp[RO.blk?]at n;subst n;exact⟨id,_,O,rfl⟩
   ·by_cases l:j=id
    ·subst l;rw[t]at d;cases d;simp[RO.blk?]at n
    ·rw[s j r l]at d;exact⟨j,o,d,n⟩
  ·by_cases r:j=AA ob
   ·subst r;rw[W]at H;cases H
   ·by_cases l:j=id
    ·subst l;exact⟨_,t,.An o⟩
    ·exact⟨o,by rw[s j r l];exact H,.refl o⟩
 refine⟨N,⟨λj y u=>?_,λj o H=>?_,λi j p q c d n h3 h4=>?_,h.E9,Ly N h.EF,λc F=>?_,⟨?_,h.Cn.set⟩⟩⟩
 ·simp only[AB]at u;split at u
  ·rename_i e;subst e;simp only[CJ]at u;subst u;rcases h.BW id _ J with⟨q,_⟩|⟨b',aa,Q,sp,T,g2,g3,g4,g5⟩
   ·rw[O]at q;cases q
   ·rw[O]at T;simp only[CJ,RO.BG.injEq]at T;obtain⟨rfl,_,rfl⟩:=T;have U:=GF N.mono _ _ g3;have q1:=(Mx G k Q U).1;generalize ab:C8 (G.take k)=cn at q1;refine .inr ⟨b,g,Q.take cn,Q.drop cn++sp,by rw[z];simp[Gx hk],by rw[<-JX,Lu];exact g2,q1,λx Y=>g4 x (F1 Y),by rw[<-JX,Lu];exact g5⟩
  ·rename_i r;rw[Xb ob id j ⟨_,J⟩]at u;split at u
   next e=>subst e;simp at u;subst u;exact t
   next l=>exact Je.tr N (h.BW j y u) (s j (λe=>r e.symm) l) (λ_ _ _ _=>rfl)
 ·simp only[AB];split
  ·exact⟨_,rfl⟩
  ·rename_i r;rw[Xb ob id j ⟨_,J⟩];split
   ·exact⟨_,rfl⟩
   next l=>exact h.EY j o (by rw[<-s j (λe=>r e.symm) l];exact H)
 ·have v:∀{j:Nat}{o:RO}{c:Nat},f.m j=some o->o.blk? = some c->∃L o',ρ.m L=some o'/\o'.blk? = some c/\(j=if L=id then AA ob else L):=by
   intro j o c d n;by_cases r:j=AA ob
   ·subst r;rw[z]at d;cases d;simp[RO.blk?]at n;subst n;exact⟨id,_,O,rfl,by simp⟩
   ·by_cases l:j=id
    ·subst l;rw[t]at d;cases d;simp[RO.blk?]at n
    ·rw[s j r l]at d;exact⟨j,o,d,n,by simp[l]⟩
  obtain⟨i',p',a1,a2,a3⟩:=v d h3;obtain⟨L,q',b1,b2,b3⟩:=v n h4;have:=h.inj i' L p' q' c a1 b1 a2 b2;subst this;rw[a3,b3]
 ·rcases N.DF c F with F|F
  ·exact h.Dm c F
  ·intro Y;have:=h.E9 c Y;omega
 ·exact dh ob _ (X0 ob)
def Ygr(H:SM w ρ sl a)(u:OM w ρ ob){p:Op}{z:Nat}{x F:A}(d:I.Ak P p (.Ln z x F)=true)(h:O0 z ob K (x.ev sl) (F.ev sl)):Ja P a w ρ p K Pn:=by
 cases p<;>simp only[I.Ak,BO]at d;rename_i t x1 lo hi mx;cases lo<;>cases hi<;>cases mx<;>(try simp only[BO]at d)
 ·rename_i h1;simp only[BB]at d;obtain⟨⟨Y,hx⟩,hy⟩:=d;obtain⟨E,ht,g,hz⟩:∃E,P.underlying t=some (.slice E)/\Yl P E=some z/\z≠0:=by
   revert Y;split
   next e g=>intro h;simp at h;exact⟨e,g,h.1,h.2⟩
   ·intro h;cases h
  have N:=A.Az H hx;have O:=A.Az H hy;unfold O0 at h;split at h
  ·rename_i id n m T U;rw[T,Y3]at N;rw[U,Yf]at O;obtain⟨o,r,s⟩:=N;unfold XH at h;split at h
   ·rename_i E' q f G;obtain⟨rfl,rfl,j,⟨i,aa⟩,Z⟩:=h;rcases u.BW id _ G with⟨_,L⟩|⟨b,c,Q,sp,J,L,q3,q4,q5⟩
    ·exact absurd L j
    ·rw[r]at J;cases J;simp only[RO.slice]at s;have W:a.eval x1=.slice (some ⟨b,0,none⟩) f.length c:=by simpa using s.2.2
     have y:f.length<=c:=by
      have e4:Q.length=f.length*q:=by rw[Gv _ _ q3,Er _ q4]
      have X:f.length*q<=c*q:=by rw[<-q5,C7];omega
      exact R1 X (by omega)
     obtain⟨t1,o1⟩:=Yp1 u (k:=m.toNat) G r (by omega) hz;refine Xw (v:=.slice (some ⟨b,0,none⟩) m.toNat c) (λo ho=>?_) Z (Y3.2 ⟨.BG b m.toNat c,by simp[A9.Be],?_⟩) o1 t1
     ·have l:(Instr.sliceBound (.int .i64 m) c .sliceAcap).run P w=.ok m.toNat w:=by
       simp only[Instr.sliceBound,asIntOf,Sem.run_bind,Sem.run_pure,Result.andThen_ok];rw[BS ⟨i,by omega⟩];simp
      simp[execOp,ho,Instr.sliceAt,Instr.slice,W,O,Xa ht,Instr.sliceBounds,l,X2 g,Addr.add]
     ·simp[RO.slice]
   ·cases h
  ·cases h
def I.Az{P:BA}(f:ρ.gl=P.g)(e:SM w ρ sl a)(d:OM w ρ ob){j:Op}:∀{i:I},i.Ak P.p j=true->i.wp P sl ob K Pn->Ja P.p a w ρ j K Pn
|.c _,b,h=>Ywh e d b h
|.box _ _,b,h=>(x9 e d b h).EE
|.alloc _ _,b,h=>(wK d b h).EE
|.GW _ _ _,b,h=>(Xyp e d b h).EE d
|.HZ _ _ _ _,b,h=>(x7 e d b h).EE
|.st _ _ _,b,h=>Yp3 e d b h
|.Im _ _ _ _ _,b,h=>Yf9 e d b h
|.FZ _ _ _ _,b,h=>X6g e d b h
|.call _ _,b,h=>X6h f e d b h
|.Bn _ _,b,h=>(wJ f e d b h).EE d
|.Cp _ _,b,h=>X1q f e d b h
|.panic _,b,h=>X1r e d b h
|.Iq _,b,h=>(Xyt e d b h).EE d
|.Fg _ _ _,b,h=>X6j e d b h
|.Lj _,b,h=>Ygl e d b h
|.JO _ _ _,b,h=>Ygg e d b h
|.JQ _ _ _ _ _,b,h=>Ygm e d b h
|.JR _ _ _,b,h=>Ygn e d b h
|.JL _,b,h=>Ygd e d b h
|.Fl _ _ _,b,h=>X6k e d b h
|.II _,b,h=>Ygj e d b h
|.Kj _ _ _ _ _,b,h=>Ygi e d b h
|.C4 _ _ _ _,b,h=>X6i e d b h
|.Lg _ _ _ _,b,h=>Yge f d b h
|.Kp _ _ _,b,h=>Ygq e d b h
|.IC _ _ _ _,b,h=>(x8 e d b h).EE
|.HE _ _ _ _ _,b,h=>Yga e d b h
|.gv _,b,_=>absurd b (by simp[I.Ak])
|.Kh _ _ _,b,h=>Ygh e d b h
|.Is _ _ _ _ _,b,h=>Ygp e d b h
|.Lf _ _ _,b,h=>Ygc e d b h
|.KZ _ _ _,b,h=>Ygb e d b h
|.JN _ _ _ _ _,b,h=>(Xyr f e d b h).EE d
|.Km _,b,h=>(yA e d b h).EE
|.Lk _,b,h=>Ygo e d b h
|.Kb _,b,h=>(Xyq e d b h).EE d
|.FG _,b,h=>(xd e d b h).EE d
|.Ip _ _ _,b,h=>(Xys e d b h).EE d
|.Kf _ _ _ _ _ _,b,h=>Ygf f e d b h
|.Li _ _ _ _ _,b,h=>Ygk e d b h
|.Ln _ _ _,b,h=>Ygr e d b h
|.CQ _ _,b,h=>(wL f e d b h).EE
def I.kind:I->Nat
|.c b=>if b.Ds then 5 else if b.Ew then 1 else 0
|.GW _ _ _|.Iq _|.Bn _ _|.JN _ _ _ _ _|.Kb _|.FG _|.Ip _ _ _=>2
|.box _ _|.alloc _ _|.HZ _ _ _ _|.IC _ _ _ _|.Km _|.CQ _ _=>4
|_=>3
def rj{P:BA}(k:ρ.gl=P.g)(f:SM w ρ sl a)(e:OM w ρ ob){l:Op}:∀{i:I},i.kind=2->i.Ak P.p l=true->i.wp P sl ob K Pn->R7 P.p a w ρ l ob K
|.GW _ _ _,_,d,h=>(Xyp f e d h).Ft
|.JN _ _ _ _ _,_,d,h=>(Xyr k f e d h).Ft
|.Iq _,_,d,h=>(Xyt f e d h).Ft
|.Bn _ _,_,d,h=>wJ k f e d h
|.Kb _,_,d,h=>(Xyq f e d h).Ft
|.FG _,_,d,h=>(xd f e d h).Ft
|.Ip _ _ _,_,d,h=>(Xys f e d h).Ft
|.c j,b,_,_=>by exfalso;simp only[I.kind]at b;revert b;cases j.Ds<;>cases j.Ew<;>simp
|.CQ _ _,b,_,_|.Km _,b,_,_|.Lk _,b,_,_|.Kf _ _ _ _ _ _,b,_,_|.Li _ _ _ _ _,b,_,_|.Ln _ _ _,b,_,_|.box _ _,b,_,_|.alloc _ _,b,_,_|.HZ _ _ _ _,b,_,_|.st _ _ _,b,_,_|.Im _ _ _ _ _,b,_,_|.FZ _ _ _ _,b,_,_|.call _ _,b,_,_|.Cp _ _,b,_,_|.panic _,b,_,_|.Fg _ _ _,b,_,_|.Lj _,b,_,_|.JO _ _ _,b,_,_|.JQ _ _ _ _ _,b,_,_|.JR _ _ _,b,_,_|.JL _,b,_,_|.Fl _ _ _,b,_,_|.II _,b,_,_|.Kj _ _ _ _ _,b,_,_|.C4 _ _ _ _,b,_,_|.Lg _ _ _ _,b,_,_|.Kp _ _ _,b,_,_|.IC _ _ _ _,b,_,_|.HE _ _ _ _ _,b,_,_|.gv _,b,_,_|.Kh _ _ _,b,_,_|.Is _ _ _ _ _,b,_,_|.Lf _ _ _,b,_,_|.KZ _ _ _,b,_,_=>by simp[I.kind]at b
def rl{P:BA}(l:ρ.gl=P.g)(f:SM w ρ sl a)(e:OM w ρ ob){k:Op}:∀{i:I},i.kind=4->i.Ak P.p k=true->i.wp P sl ob K Pn->K5 P.p a w ρ k K
|.CQ _ _,_,d,h=>wL l f e d h
|.box _ _,_,d,h=>x9 f e d h
|.alloc _ _,_,d,h=>wK e d h
|.HZ _ _ _ _,_,d,h=>x7 f e d h
|.IC _ _ _ _,_,d,h=>x8 f e d h
|.Km _,_,d,h=>yA f e d h
|.c j,b,_,_=>by exfalso;simp only[I.kind]at b;revert b;cases j.Ds<;>cases j.Ew<;>simp
|.Lk _,b,_,_|.Kb _,b,_,_|.FG _,b,_,_|.Ip _ _ _,b,_,_|.Kf _ _ _ _ _ _,b,_,_|.Li _ _ _ _ _,b,_,_|.Ln _ _ _,b,_,_|.GW _ _ _,b,_,_|.Iq _,b,_,_|.Bn _ _,b,_,_|.st _ _ _,b,_,_|.Im _ _ _ _ _,b,_,_|.FZ _ _ _ _,b,_,_|.call _ _,b,_,_|.Cp _ _,b,_,_|.panic _,b,_,_|.Fg _ _ _,b,_,_|.Lj _,b,_,_|.JO _ _ _,b,_,_|.JQ _ _ _ _ _,b,_,_|.JR _ _ _,b,_,_|.JL _,b,_,_|.Fl _ _ _,b,_,_|.II _,b,_,_|.Kj _ _ _ _ _,b,_,_|.C4 _ _ _ _,b,_,_|.Lg _ _ _ _,b,_,_|.Kp _ _ _,b,_,_|.HE _ _ _ _ _,b,_,_|.gv _,b,_,_|.Kh _ _ _,b,_,_|.Is _ _ _ _ _,b,_,_|.Lf _ _ _,b,_,_|.KZ _ _ _,b,_,_|.JN _ _ _ _ _,b,_,_=>by simp[I.kind]at b
end
end Go.Ab
