/- Joined texts, part 2 of 19. That append does what Ab9 says of it. Over any program; no condition. -/
import Derived.Test.YtfedhegpmfkfoaaGreatDoorH1
set_option linter.unusedSimpArgs false
set_option linter.unusedVariables false
set_option linter.unusedSectionVars false
set_option linter.defProp false
namespace Go.Ab
open Go
def fresh:AB->Nat
|[]=>0
|(j,_)::r=>if fresh r<=j then j+1 else fresh r
def Xu:∀(a:AB)(j:Nat),fresh a<=j->AA a j=none
|[],_,_=>rfl
|(i,o)::r,j,h=>by
 simp only[fresh]at h;simp only[AA];split at h
 ·rw[Af (by omega)];exact Xu r j (by omega)
 ·rw[Af (by omega)];exact Xu r j h
def Xo(a:AB):AA a (fresh a)=none:=Xu a _ (BV _)
def Sz(c:AB)(id n:Nat):Option Ob->Option (D×AB)
|some (.A9 _ a b)=>if a≠0/\n=b.length then some (.AF a b,AG c id .AY) else none
|_=>none
def FF:Option (List D×AB)->Option (D×AB)
|some (l,a)=>some (.agg l,a)
|none=>none
def Pp(t:Nat):Option (D×AB)->Option (D×AB)
|some (x,a)=>some (.iface t x,a)
|none=>none
def L7(f:Nat)(a:AB):Option (List D)->Option (List D)->Option (D×AB)
|some l,some m=>some (.fn f l m,a)
|_,_=>none
def Uq(x:D):Option (List D×AB)->Option (List D×AB)
|some (l,a)=>some (x::l,a)
|none=>none
mutual
def DU(c:AB):V->Option (D×AB)
|.d x=>some (x,c)
|.sl id n=>Sz c id n (AA c id)
|.agg e=>FF (Da c e)
|.iface t x=>Pp t (DU c x)
|.fn f a b=>L7 f c (Bt a) (Bt b)
|_=>none
def Da(b:AB):List V->Option (List D×AB)
|[]=>some ([],b)
|x::r=>match DU b x with
 |some (y,a)=>Uq y (Da a r)
 |none=>none
end
section
variable {w:World}
def wJ{n:A0}{f:Nat}{a b:List V}{k c:AB}{d:D}{j:List Value}(h:(V.fn f a b).Ac w n j)(e:L7 f k (Bt a) (Bt b)=some (d,c)):c=k/\d.An w (B2 n) j/\d.isAgg=false:=by
 cases g:Bt a with
 |none=>simp[g,L7]at e
 |some l=>
  cases i:Bt b with
  |none=>simp[g,i,L7]at e
  |some m=>
   simp only[g,i,L7,Bu,Fh]at e;obtain⟨rfl,rfl⟩:=e;have r:=V.Bi g;have s:=V.Bi i;subst r;subst s;simp only[V.Ac]at h;obtain⟨p,q,o,t,u⟩:=h;exact⟨rfl,by simp only[D.An];exact⟨p,q,o,PF.1 t,PF.1 u⟩,rfl⟩
mutual
def QL:∀(v:V)(j:AB)(i:A0)(z:List Value)(d:D)(g:AB),OM w i j->v.Ac w i z->DU j v=some (d,g)->
 ∃c,Tr w i w c/\OM w c g/\d.An w (B2 c) z/\d.isAgg=v.isAgg
|.d x,j,i,z,J,g,k,h,e=>by
 simp only[DU,Bu,Fh]at e;obtain⟨rfl,rfl⟩:=e;exact⟨i,Tr.refl _ _,k,by simpa only[V.Ac]using h,by cases x<;>rfl⟩
|.sl id n,j,i,z,J,g,k,h,e=>by
 simp only[DU]at e;unfold Sz at e;split at e
 ·rename_i E W N R;split at e
  next T=>simp only[Bu,Fh]at e;obtain⟨rfl,rfl⟩:=e;obtain⟨M,rfl⟩:=T;obtain⟨H,U,_⟩:=R6 k ⟨_,R⟩;have Q:=h;simp only[V.Ac]at Q;obtain⟨o,u,F,rfl,K⟩:=Q;have:=Ro k R M (u:=u) (by rw[Yj];exact⟨o,F,K⟩);refine⟨_,H,U,?_,rfl⟩;rw[Wf (by simp[V.isAgg]) (by simp)]at this;simpa only[V.Ac]using this
  ·cases e
 ·cases e
|.agg N,j,i,z,J,g,k,h,e=>by
 simp only[DU]at e;cases m:Da j N with
 |none=>simp[m,FF]at e
 |some r=>
  obtain⟨l,s⟩:=r;simp only[m,FF,Bu,Fh]at e;obtain⟨rfl,rfl⟩:=e;simp only[V.Ac]at h;obtain⟨c,t,o,G⟩:=qM N j i z l s k h m;exact⟨c,t,o,by simpa only[D.An]using G,rfl⟩
|.iface t x,j,i,z,J,g,k,h,e=>by
 simp only[DU]at e;cases m:DU j x with
 |none=>simp[m,Pp]at e
 |some r=>
  obtain⟨y,s⟩:=r;simp only[m,Pp,Bu,Fh]at e;obtain⟨rfl,rfl⟩:=e;simp only[V.Ac]at h;obtain⟨u,P,F⟩:=h;rcases F with F|⟨p,O,q,r⟩|⟨p,r⟩
  ·subst F;simp[DU]at m
  ·obtain⟨c,H,o,G,L⟩:=QL x j i O y s k r m;exact⟨c,H,o,by simp only[D.An];exact⟨u,P,.inl ⟨by rw[L];exact p,O,q,G⟩⟩,rfl⟩
  ·obtain⟨c,H,o,G,L⟩:=QL x j i [u] y s k r m;exact⟨c,H,o,by simp only[D.An];exact⟨u,P,.inr ⟨by rw[L];exact p,G⟩⟩,rfl⟩
|.fn f a b,j,i,z,J,g,k,h,e=>by
 simp only[DU]at e;obtain⟨rfl,F,K⟩:=wJ h e;exact⟨i,Tr.refl _ _,k,F,by rw[K];rfl⟩
|.ptr _ _,_,_,_,_,_,_,_,e|.sd _ _,_,_,_,_,_,_,_,e|.mp _,_,_,_,_,_,_,_,e|.hd _ _,_,_,_,_,_,_,_,e|.ep _ _ _ _ _ _,_,_,_,_,_,_,_,e|.bs _ _ _ _,_,_,_,_,_,_,_,e|.BE _,_,_,_,_,_,_,_,e|.undef,_,_,_,_,_,_,_,e|.any,_,_,_,_,_,_,_,e=>by simp[DU]at e
def qM:∀(v:List V)(g:AB)(d:A0)(i:List Value)(l:List D)(a:AB),OM w d g->Br w d v i->Da g v=some (l,a)->
 ∃f,Tr w d w f/\OM w f a/\Bb w (B2 f) l i
|[],g,d,i,l,a,j,h,e=>by
 simp only[Da,Bu,Fh]at e;obtain⟨rfl,rfl⟩:=e;exact⟨d,Tr.refl _ _,j,by simpa only[Br,Bb]using h⟩
|x::r,g,d,i,l,a,j,h,e=>by
 simp only[Da]at e;simp only[Br]at h;obtain⟨p,s,rfl,z,F⟩:=h;split at e
 ·rename_i y c G;obtain⟨n,t,K,H,_⟩:=QL x g d p y c j z G;cases b:Da c r with
  |none=>simp[b,Uq]at e
  |some q=>
   obtain⟨J,m⟩:=q;simp only[b,Uq,Bu,Fh]at e;obtain⟨rfl,rfl⟩:=e;obtain⟨o,u,L,k⟩:=qM r c n s J m K (G6 t _ _ F) b;exact⟨o,t.trans u,L,by simp only[Bb];exact⟨p,s,rfl,HV u.mono _ _ H,k⟩⟩
 ·cases e
end
def UD{c:A0}{f b:AB}{v:V}{d:D}{u:Value}(l:OM w c f)(h:v.An w c u)(e:DU f v=some (d,b)):∃a,Tr w c w a/\OM w a b/\(V.d d).An w a u:=by
 rcases h with h|⟨p,k,q,r⟩|⟨p,r⟩
 ·subst h;simp[DU]at e
 ·obtain⟨a,j,o,i,g⟩:=QL v f c k d b l r e;exact⟨a,j,o,IG.2 (.inl ⟨by rw[g];exact p,k,q,i⟩)⟩
 ·obtain⟨a,j,o,i,g⟩:=QL v f c [u] d b l r e;exact⟨a,j,o,IG.2 (.inr ⟨by rw[g];exact p,i⟩)⟩
end
def Ej(g:AB->V->Option (D×AB)):AB->List V->Option (List D×AB)
|a,[]=>some ([],a)
|a,x::r=>match g a x with
 |some (y,b)=>Uq y (Ej g b r)
 |none=>none
def oo(id b:Nat)(l:List D)(a:AB):Option Ob->Option (D×AB)
|some (.Ao _ _ _)=>some (.AF b l,AG a id .AY)
|_=>none
def YT(id b:Nat):Option (List D×AB)->Option (D×AB)
|some (l,a)=>oo id b l a (AA a id)
|none=>none
def Po(g:AB->V->Option (D×AB))(c:AB)(id n:Nat):Option Ob->Option (D×AB)
|some (.A9 _ a b)=>if a≠0/\n=b.length then some (.AF a b,AG c id .AY) else none
|some (.Ao _ a b)=>if a≠0/\n=b.length then YT id a (Ej g c b) else none
|_=>none
def Ct:Nat->AB->V->Option (D×AB)
|0,_,_=>none
|k+1,c,v=>match v with
 |.d x=>some (x,c)
 |.sl id n=>Po (Ct k) c id n (AA c id)
 |.agg e=>FF (Ej (Ct k) c e)
 |.iface t x=>Pp t (Ct k c x)
 |.fn f a b=>L7 f c (Bt a) (Bt b)
 |_=>none
section
variable {w:World}
def Zbn(g:AB->V->Option (D×AB))(w:World):Prop:=∀(v:V)(c:AB)(e:A0)(f:List Value)(d:D)(a:AB),OM w e c->v.Ac w e f->g c v=some (d,a)->
 (∃b,Tr w e w b/\OM w b a/\d.An w (B2 b) f/\d.isAgg=v.isAgg)/\∀j,AA a j=AA c j\/AA a j=some .AY
def xQ{a:AB}{id j:Nat}{x:Ob}(b:AA a id=some x):AA (AG a id .AY) j=AA a j\/AA (AG a id .AY) j=some .AY:=by
 rw[Xc a id j ⟨_,b⟩];split
 ·exact .inr rfl
 ·exact .inl rfl
def du{g:AB->V->Option (D×AB)}(G:Zbn g w):∀(t:List V)(i:AB)(d:A0)(m:List Value)(l:List D)(a:AB),OM w d i->Br w d t m->Ej g i t=some (l,a)->
 (∃f,Tr w d w f/\OM w f a/\Bb w (B2 f) l m/\l.map D.sz=t.map V.size)/\∀j,AA a j=AA i j\/AA a j=some .AY
|[],i,d,m,l,a,n,h,e=>by
 simp only[Ej,Bu,Fh]at e;obtain⟨rfl,rfl⟩:=e;exact⟨⟨d,Tr.refl _ _,n,by simpa only[Br,Bb]using h,rfl⟩,λ_=>.inl rfl⟩
|x::r,i,d,m,l,a,n,h,e=>by
 simp only[Ej]at e;simp only[Br]at h;obtain⟨y,z,rfl,F,M⟩:=h;split at e
 ·rename_i L c N;obtain⟨⟨u,J,Q,H,_⟩,O⟩:=G x i d y L c n F N;cases b:Ej g c r with
  |none=>simp[b,Uq]at e
  |some q=>
   obtain⟨P,s⟩:=q;simp only[b,Uq,Bu,Fh]at e;obtain⟨rfl,rfl⟩:=e;obtain⟨⟨v,K,R,o,p⟩,k⟩:=du G r c u z P s Q (G6 J _ _ M) b;refine⟨⟨v,J.trans K,R,by simp only[Bb];exact⟨y,z,rfl,HV K.mono _ _ H,o⟩,?_⟩,λj=>?_⟩
   ·simp only[Cg,p,HY,GK];rw[<-G5 _ _ H,E7 _ _ F];rfl
   ·rcases k j with k|k
    ·rw[k];exact O j
    ·exact .inr k
 ·cases e
def Xwc{b:A0}{id n:Nat}{a:List Value}(h:(V.sl id n).Ac w b a):∃o u,b.m id=some o/\a=[u]/\o.slice n u:=by
 simpa only[V.Ac]using h
def dt:∀(k:Nat),Zbn (Ct k) w
|0=>λv L M Y d ae _ _ e=>by simp[Ct]at e
|k+1=>λv L M Y dd ae J h e=>by
 have ih:=dt k;cases v with
 |d x=>
  simp only[Ct,Bu,Fh]at e;obtain⟨rfl,rfl⟩:=e;exact⟨⟨M,Tr.refl _ _,J,by simpa only[V.Ac]using h,by cases x<;>rfl⟩,λ_=>.inl rfl⟩
 |agg H=>
  simp only[Ct]at e;cases s:Ej (Ct k) L H with
  |none=>simp[s,FF]at e
  |some r=>
   obtain⟨l,c⟩:=r;simp only[s,FF,Bu,Fh]at e;obtain⟨rfl,rfl⟩:=e;simp only[V.Ac]at h;obtain⟨⟨g,t,o,Q,_⟩,K⟩:=du ih H L M Y l c J h s;exact⟨⟨g,t,o,by simpa only[D.An]using Q,rfl⟩,K⟩
 |iface t x=>
  simp only[Ct]at e;cases s:Ct k L x with
  |none=>simp[s,Pp]at e
  |some r=>
   obtain⟨y,c⟩:=r;simp only[s,Pp,Bu,Fh]at e;obtain⟨rfl,rfl⟩:=e;simp only[V.Ac]at h;obtain⟨u,e1,N⟩:=h;rcases N with N|⟨p,ds,q,r⟩|⟨p,r⟩
   ·subst N;cases k<;>simp[Ct]at s
   ·obtain⟨⟨g,G,o,Q,ha⟩,K⟩:=ih x L M ds y c J r s;exact⟨⟨g,G,o,by simp only[D.An];exact⟨u,e1,.inl ⟨by rw[ha];exact p,ds,q,Q⟩⟩,rfl⟩,K⟩
   ·obtain⟨⟨g,G,o,Q,ha⟩,K⟩:=ih x L M [u] y c J r s;exact⟨⟨g,G,o,by simp only[D.An];exact⟨u,e1,.inr ⟨by rw[ha];exact p,Q⟩⟩,rfl⟩,K⟩
 |fn f a b=>
  simp only[Ct]at e;obtain⟨rfl,N,Z⟩:=wJ h e;exact⟨⟨M,Tr.refl _ _,J,N,by rw[Z];rfl⟩,λ_=>.inl rfl⟩
 |sl id n=>
  simp only[Ct]at e;unfold Po at e;split at e
  ·rename_i E U H W;split at e
   next hc=>simp only[Bu,Fh]at e;obtain⟨rfl,rfl⟩:=e;obtain⟨R,rfl⟩:=hc;obtain⟨G,T,_⟩:=R6 J ⟨_,W⟩;obtain⟨o,u,N,rfl,Z⟩:=Xwc h;have:=Ro J W R (u:=u) (by rw[Yj];exact⟨o,N,Z⟩);refine⟨⟨_,G,T,?_,rfl⟩,λj=>xQ W⟩;rw[Wf (by simp[V.isAgg]) (by simp)]at this;simpa only[V.Ac]using this
   ·cases e
  ·rename_i E U H W;split at e
   ·rename_i hc;obtain⟨R,rfl⟩:=hc;cases s:Ej (Ct k) L H with
    |none=>simp[s,YT]at e
    |some r=>
     obtain⟨l,c⟩:=r;simp only[s,YT]at e;unfold oo at e;split at e
     ·rename_i E' af ag z;simp only[Bu,Fh]at e;obtain⟨rfl,rfl⟩:=e;obtain⟨o,u,N,rfl,Z⟩:=Xwc h;have Cm:∀(i:A0),Tr w M w i->OM w i c->Qh w i id (.A9 E U l)->l.length=H.length->(∀j,AA c j=AA L j\/AA c j=some .AY)->
       (∃g,Tr w M w g/\OM w g (AG c id .AY)/\(D.AF U l).An w (B2 g) [u]/\(D.AF U l).isAgg=(V.sl id H.length).isAgg)/\∀j,AA (AG c id .AY) j=AA L j\/AA (AG c id .AY) j=some .AY:=by
       intro i G T hm F K;have o2:=T.swap z hm;have aa:AA (AG c id (.A9 E U l)) id=some (.A9 E U l):=by rw[Xc c id id ⟨_,z⟩];simp
       obtain⟨t3,o3,_⟩:=R6 o2 ⟨_,aa⟩;rw[X4]at o3;have hv:(V.sl id l.length).An w i u:=Gg G (by rw[F,Yj];exact⟨o,N,Z⟩);have h4:=Ro o2 aa R hv;refine⟨⟨_,G.trans t3,o3,?_,rfl⟩,λj=>?_⟩
       ·rw[Wf (by simp[V.isAgg]) (by simp)]at h4;simpa only[V.Ac]using h4
       ·rcases xQ (j:=j) z with O|O
        ·rw[O];exact K j
        ·exact .inr O
      rcases J.BU id _ W with⟨ac,rfl⟩|⟨b,X,Y,sp,g1,g2,g3,g4,g5⟩
      ·simp only[Ej,Bu,Fh]at s;obtain⟨rfl,rfl⟩:=s;exact Cm M (Tr.refl _ _) J (.inl ⟨ac,rfl⟩) rfl (λ_=>.inl rfl)
      ·obtain⟨⟨i,G,T,Q,hs⟩,K⟩:=du ih H L M Y l c J g3 s;have F:l.length=H.length:=by simpa using CK List.length hs
       have ad:(Ob.Ao E' af ag)=.Ao E U H:=by
        rcases K id with O|O
        ·rw[z,W]at O;exact FQ O
        ·rw[z]at O;cases O
       cases ad;obtain⟨o',p1,p2⟩:=G.same id _ g1;have ab:i.m id=some (.A9 b H.length X):=by
        cases p2 with
        |refl=>exact p1
        |AY=>rcases T.BU id _ z with⟨P,_⟩|⟨_,_,_,_,P,_⟩<;>(rw[p1]at P;cases P)
        |grow ah hh=>
         rcases hh with⟨hq,_⟩|⟨b2,c2,hq⟩
         ·cases hq
         ·simp only[RO.A9.injEq]at hq;rcases T.BU id _ z with⟨P,_⟩|⟨_,_,_,_,P,_⟩
          ·rw[p1]at P;cases P
          ·rw[p1]at P;simp only[Bu,RO.A9.injEq]at P;omega
       refine Cm i G T (.inr ⟨b,X,Y,sp,by rw[F];exact ab,g2,Q,λx hx=>?_,g5⟩) F K;have h6:x.sz∈l.map D.sz:=List.mem_map_of_mem hx;rw[hs]at h6;obtain⟨y,hy,h7⟩:=C9.1 h6;rw[<-h7];exact g4 y hy
     ·cases e
   ·cases e
  ·cases e
 |_=>simp[Ct]at e
end
inductive A7 where
|ret (v:V)
|panic (v:V)
def Wv(w:World)(a:A0):Ending->A7->Prop
|.returned u,.ret v=>v.An w a u
|.panicked b,.panic v=>∃u,b=[{v:=u,recovered:=false}]/\v.An w a u
|_,_=>False
structure Az where
 p:Program
 g:Gl
structure AV(P:Az)(f:Nat)(vs:List V)(ob:AB)(K:A7->AB->Prop):Prop where
 run:∀w ρ args,OM w ρ ob->ρ.gl=P.g->V.A1 w ρ vs args->Calls P.p f args.toArray w (λe w'=>∃CO ob' ρ',K CO ob'/\Wv w' ρ' e CO/\OM w' ρ' ob'/\Tr w ρ w' ρ')
def AV.mono{P:Az}{f:Nat}{j:List V}{i:AB}{K g:A7->AB->Prop}(h:AV P f j i K)(m:∀o b,K o b->g o b):AV P f j i g:=
 ⟨λw q a n l p=>(h.run w q a n l p).mono λ_ _ ⟨d,c,e,k,r⟩=>⟨d,c,e,m _ _ k,r⟩⟩
structure AU(P:Az)(f:Nat)(vs:List V)(ob:AB)(K:V->Prop):Prop where
 run:∀w ρ args,OM w ρ ob->ρ.gl=P.g->V.A1 w ρ vs args->Calls P.p f args.toArray w (λe w'=>∃v u,K v/\e=.returned u/\v.An w' ρ u/\Bv w w')
structure CD(P:Az)(f:Nat)(vs:List V)(ob:AB)(K:V->AB->Prop):Prop where
 run:∀w ρ args,OM w ρ ob->ρ.gl=P.g->V.A1 w ρ vs args->Calls P.p f args.toArray w (λe w'=>∃v ob' ρ' u,K v ob'/\e=.returned u/\v.An w' ρ' u/\OM w' ρ' ob'/\Tr w ρ w' ρ'/\Bv w w')
def CD.mono{P:Az}{f:Nat}{g:List V}{e:AB}{K d:V->AB->Prop}(h:CD P f g e K)(j:∀v b,K v b->d v b):CD P f g e d:=
 ⟨λw n a l i m=>(h.run w n a l i m).mono λ_ _ ⟨v,b,c,u,k,r⟩=>⟨v,b,c,u,j v b k,r⟩⟩
def AU.mono{P:Az}{f:Nat}{d:List V}{c:AB}{K b:V->Prop}(h:AU P f d c K)(g:∀v,K v->b v):AU P f d c b:=
 ⟨λw l a i e j=>(h.run w l a i e j).mono λ_ _ ⟨v,u,k,r⟩=>⟨v,u,g v k,r⟩⟩
def AU.Bm{P:Az}{f:Nat}{d:List V}{b:AB}{K:A7->AB->Prop}(h:AU P f d b λv=>K (.ret v) b):AV P f d b K:=
 ⟨λw g a c j l=>(h.run w g a c j l).mono λe m ⟨v,u,k,i,r,x⟩=>by subst i;exact⟨.ret v,b,g,k,r,c.ext x,x.tr⟩⟩
structure CL(P:Az)(id:Nat)(vs:List V)(ob:AB)(K:A7->AB->Prop):Prop where
 run:∀w ρ args b,OM w ρ ob->ρ.gl=P.g->V.A1 w ρ vs args->ρ.m id=some (.map b)->
  ∃fn tmps assign body,(Instr.yield b args.toArray).run P.p w=.ok (.round b fn tmps assign body) w/\
   RoundIn Fence.wide 0 P.p b fn tmps assign body w (λe w'=>∃CO ob' ρ',K CO ob'/\Wv w' ρ' e CO/\OM w' ρ' ob'/\Tr w ρ w' ρ')
def CL.mono{P:Az}{id:Nat}{i:List V}{g:AB}{K f:A7->AB->Prop}(h:CL P id i g K)(t:∀o b,K o b->f o b):CL P id i g f:=
 ⟨λw y a b u s v q=>let ⟨m,x,j,l,n,p⟩:=h.run w y a b u s v q;⟨m,x,j,l,n,p.mono λ_ _ ⟨d,c,e,k,r⟩=>⟨d,c,e,t _ _ k,r⟩⟩⟩
def S1:Option Ob->Prop
|some (.lp _ _ _)=>True
|_=>False
def Xd(P:Program)(f:Nat):Bool:=match P.funcs[f]? with
|some a=>a.name != "runtime.NumGoroutine" &&a.body.isSome
|none=>false
def Ef(K b:V->AB->Prop):A7->AB->Prop
|.ret v,a=>K v a
|.panic v,a=>b v a
def Iv(E:Nat)(a:AB)(K:V->AB->Prop)(v:V):Prop:=v.Eu=true/\K (.ptr (fresh a) []) ((fresh a,.box E v)::a)
def JY(c:AB)(id:Nat)(p:List Nat)(n E:Nat)(v t:V)(K:V->AB->Prop):Option V->Prop
|some a=>v.shape=a.shape/\a.size=n/\v.Eu=true/\∃b,t.set p v=some b/\K .undef (AG c id (.box E b))
|none=>False
def JX(a:AB)(id:Nat)(p:List Nat)(n:Nat)(v:V)(K:V->AB->Prop):Option Ob->Prop
|some (.box E t)=>JY a id p n E v t K (t.at p)
|_=>False
def M7(c:AB)(id i n:Nat)(o:Ob)(v d:V)(p:List Nat)(K:V->AB->Prop):Option V->Prop
|some a=>v.shape=a.shape/\a.size=n/\v.Eu=true/\∃b,d.set p v=some b/\K .undef (AG c id (Io o i b))
|none=>False
def OO(b:AB)(id i n:Nat)(o:Ob)(v:V)(z f:Nat)(p:List Nat)(K:V->AB->Prop):Option V->Prop
|some a=>(z=a.size/\f=a.shape.off p)/\M7 b id i n o v a p K (a.at p)
|none=>False
def M6(a:AB)(id m z i f:Nat)(p:List Nat)(n:Nat)(v:V)(K:V->AB->Prop):Option Ob->Prop
|some o=>OO a id i n o v z f p K (W2 m i (some o))
|none=>False
def GH(a:AB)(n:Nat)(v:V)(K:V->AB->Prop):V->Prop
|.ptr id p=>JX a id p n v K (AA a id)
|.ep id m z i f p=>M6 a id m z i f p n v K (AA a id)
|_=>False
def dK(K:List D->Prop):Option (List D)->Prop
|some l=>K l
|none=>False
def V9(P:Az)(a:List V)(b:AB)(K c:V->AB->Prop):V->Prop
|.fn f g e=>Xd P.p f=true/\AV P f (g++a++e) b (Ef K c)
|.d (.fn f g e)=>Xd P.p f=true/\AV P f (g.map .d++a++e.map .d) b (Ef K c)
|.hd true id=>S1 (AA b id)/\CL P id a b (Ef K c)
|_=>False
def LN(b:AB)(a:V->AB->Prop):V->Prop
|.iface t v=>a (.iface t v) b
|.d (.iface t v)=>a (.d (.iface t v)) b
|_=>False
def JW(a:Nat)(K:List D->Prop):V->Prop
|.d (.AF z b)=>z=a/\K b
|.d .AT=>K []
|_=>False
def K0(id E d B n:Nat)(f:AB)(c:List D)(K:V->AB->Prop):Option Ob->Prop
|some (.A9 e b a)=>e=E/\b=d/\n=a.length/\(2*(a.length+c.length)+192)*B<=281474976710656/\K (.sl id (a.length+c.length)) (AG f id (.A9 E d (a++c)))
|_=>False
def Ew(E c B:Nat)(a:AB)(b:List D)(K:V->AB->Prop):V->Prop
|.sl id n=>K0 id E c B n a b K (AA a id)
|.d .AT=>(2*b.length+192)*B<=281474976710656/\K (.sl (fresh a) b.length) ((fresh a,.A9 E c b)::a)
|_=>False
def A2:List UInt8->List D
|[]=>[]
|b::r=>.int .u8 b.toNat::A2 r
inductive I where
|c (x:C)
|box (E:Nat) (x:A)
|alloc (E:Nat) (z:D)
|GU (sz:Nat) (z:List D) (Xs:List (Nat×A))
|GS (E sz:Nat) (z:List D) (Xs:List (Nat×A))
|st (n:Nat) (x v:A)
|I0 (E sz B:Nat) (x y:A)
|ER (E B:Nat) (x y:A)
|call (f:Nat) (args:List A)
|BX (f:Nat) (args:List A)
|Cq (x:A) (args:List A)
|panic (x:A)
|HQ (x:A)
|ET (E sz:Nat) (x:A)
 |Kb (x:A)
 |IZ (n:Nat) (ag:Bool) (x:A)
 |H3 (E sz:Nat) (y x:A) (p:List Nat)
 |I5 (y x:A) (l:List (Nat×Nat×List Nat))
 |Hy (x:A)
 |EY (E:Nat) (x y:A)
 |HP (r:Option A)
 |Ib (kd z:D) (ok:Bool) (m k:A)
 |C7 (kd:D) (m k v:A)
 |KS (g n:Nat) (ag:Bool) (x:D)
 |Ie (n z:Nat) (x:A)
 |Gx (E sz:Nat) (z:List D) (Xs:List (Nat×A))
 |F7 (E sz B:Nat) (x y:A)
 |gv (x:A)
 |Ia (n:Nat) (ag:Bool) (x:A)
 |HR (n z:Nat) (x:A) (lo hi:Option A)
 |I1 (z:Nat) (x y:A)
|IV (z0:D) (z:Nat) (x:A)
 |Hz (g n z:Nat) (x:D) (i:A)
 |Ic (x:A)
|I6 (x:A)
|IW (x:A)
 |EI (x:A)
 |HO (e m:Bool) (x:A)
 |Dp (nm:String) (t f:Nat) (fl:Option (Nat×Nat×Nat×Bool)) (x:A) (args:List A)
 |I4 (E sz B:Nat) (z:D) (l:A)
 |I9 (z:Nat) (x:A) (h:A)
 |Bx (f:Nat) (args:List A)
def Li(E b:Nat)(a:AB)(K:V->AB->Prop):V->Prop
|.d .AT=>K (.sl (fresh a) 0) ((fresh a,.A9 E b [])::a)
|_=>False
def Gs(K:V->AB->Prop):Option (D×AB)->Prop
|some (d,a)=>K (.d d) a
|none=>False
def K5(n:Nat)(a:Bool)(b:AB)(K:V->AB->Prop):Option V->Prop
|some v=>v.size=n/\v.isAgg=a/\Gs K (DU b v)
|none=>False
def JR(n:Nat)(b:Bool)(a:AB)(K:V->AB->Prop):V->Prop
|.ptr id p=>K5 n b a K (Cj a id p)
|_=>False
def Re(b:AB)(id:Nat)(p:List Nat)(x:D)(K:V->AB->Prop):Option Ob->Prop
|some (.box E t)=>∃a,t.set p (.d x)=some a/\K (.d x) (AG b id (.box E a))
|_=>False
def PX(v:V)(id:Nat)(p:List Nat)(K:V->AB->Prop):Option (D×AB)->Prop
|some (x,a)=>x.shape=v.shape/\Re a id p x K (AA a id)
|none=>False
def PY(n:Nat)(a:Bool)(b:AB)(id:Nat)(p:List Nat)(K:V->AB->Prop):Option V->Prop
|some v=>v.size=n/\v.isAgg=a/\PX v id p K (Ct 40000 b v)
|none=>False
def Mr(n:Nat)(b:Bool)(a:AB)(K:V->AB->Prop):V->Prop
|.ptr id p=>PY n b a id p K (Cj a id p)
|_=>False
def Ml(a:AB)(id b E c:Nat)(y:V)(K:V->AB->Prop):Option V->Prop
|some t=>K y ((fresh a,.A9 E c [])::AG a id (.box b t))
|none=>False
def K7(a:AB)(id:Nat)(p:List Nat)(E c:Nat)(y:V)(K:V->AB->Prop):Option Ob->Prop
|some (.box b t)=>(t.at p=some (.d .AT)/\Ml a id b E c y K (t.set p (.sl (fresh a) 0)))\/((∃i n,t.at p=some (.sl i n))/\K y a)
|_=>False
def Gu(a:AB)(E b:Nat)(p:List Nat)(y:V)(K:V->AB->Prop):V->Prop
|.ptr id q=>K7 a id (q++p) E b y K (AA a id)
|_=>False
def OE(y:V)(K:V->AB->Prop)(x:V):List (Nat×Nat×List Nat)->AB->Prop
|[],a=>K y a
|e::l,a=>Gu a e.1 e.2.1 e.2.2 y (λ_ b=>OE y K x l b) x
def LW(id n:Nat)(c:AB)(K:V->AB->Prop):Option Ob->Prop
|some (.A9 _ b a)=>b≠0/\n=a.length/\a≠[]/\K (.d (.AF b a)) (AG c id .AY)
|_=>False
def JJ(a:AB)(K:V->AB->Prop):V->Prop
|.sl id n=>LW id n a K (AA a id)
|_=>False
def LS(id n:Nat)(m:Int)(E:Nat)(c:AB)(K:V->AB->Prop):Option Ob->Prop
|some (.A9 b e a)=>b=E/\e=1/\n=a.length/\m=n/\n<=9223372036854775807/\a≠[]/\∃s,a=A2 s/\K (.d (.AM s)) (AG c id .AY)
|_=>False
def IK(E:Nat)(a:AB)(K:V->AB->Prop):V->V->Prop
|.sd id n,.d (.int .i64 m)=>LS id n m E a K (AA a id)
|.d .B1,.d (.int .i64 m)=>m=0/\K (.d (.AM [])) a
|_,_=>False
def Lm(K:List D->Prop):V->Prop
|.d (.AM s)=>K (A2 s)
|_=>False
def Lz(K:V->Prop):V->Prop
|.d (.AM s)=>K (.d (.AF 1 (A2 s)))
|_=>False
def LD:D->D->Bool
|.int k _,.int a _=>decide (k=a)
|.bool _,.bool _=>true
|.AM _,.AM _=>true
|_,_=>false
def Ww:List D->List D->Bool
|[],[]=>true
|x::r,y::s=>LD x y&&Ww r s
|_,_=>false
def Dy:D->D->Bool
|.int k _,.int a _=>decide (k=a)
|.bool _,.bool _=>true
|.AM _,.AM _=>true
|.agg b,.agg c=>Ww b c
|_,_=>false
def C8:D->D->Bool
|.int _ a,.int _ b=>a==b
|.bool a,.bool b=>a==b
|.AM a,.AM b=>a==b
|.agg c,.agg d=>D.B8 c d
|_,_=>false
def Yh(k:D):List (D×V)->Option V
|[]=>none
|(j,v)::r=>if C8 k j then some v else Yh k r
def EL(k:D)(x:V):List (D×V)->List (D×V)
|[]=>[(k,x)]
|(j,v)::r=>if C8 k j then (k,x)::r else (j,v)::EL k x r
def U7(b k:D)(a:List (D×V)):Prop:=Dy b k=true/\∀e∈a,Dy k e.1=true
def Ex(z:D):Bool->Option V->V
|true,some v=>.BE [v,.d (.bool true)]
|true,none=>.BE [.d z,.d (.bool false)]
|false,some v=>v
|false,none=>.d z
def Lb(b z:D)(c:Bool)(k:D)(K:V->Prop):Option Ob->Prop
|some (.map a)=>U7 b k a/\K (Ex z c (Yh k a))
|_=>False
def JN(c:AB)(a z:D)(b:Bool)(K:V->Prop):V->V->Prop
|.mp id,.d k=>Lb a z b k K (AA c id)
|.d .B0,.d k=>Dy a k=true/\K (Ex z b none)
|_,_=>False
def LM(c:AB)(id:Nat)(b k:D)(v:V)(K:V->AB->Prop):Option Ob->Prop
|some (.map a)=>U7 b k a/\v.Eu=true/\K .undef (AG c id (.map (EL k v a)))
|_=>False
def KI(a:AB)(b:D)(v:V)(K:V->AB->Prop):V->V->Prop
|.mp id,.d k=>LM a id b k v K (AA a id)
|_,_=>False
def SG:V->Prop
|.d (.int _ _)=>True
|_=>False
def Ko(a:Xb):Option A->Prop
|none=>True
|some x=>SG (x.ev a)
def Ll(n z:Nat)(K:D->Prop):Option V->Prop
|some (.d (.agg a))=>a.length=n/\(∀x∈a,x.sz=z)/\K (.AF z a)
|_=>False
def KA(a:AB)(n z:Nat)(K:V->AB->Prop):V->Prop
|.ptr id p=>Ll n z (λx=>K (.d x) (AG a id .AY)) (Cj a id p)
|_=>False
def Lk(id:Nat)(p:List Nat)(n z:Nat)(c b:Option V)(K:V->Prop):Option (List V)->Prop
|some a=>a.length=n/\(∀k∈a,k.size=z)/\Jn n (λl h=>K (.bs id p l (h-l))) c b
|none=>False
def L0(a:AB)(n z:Nat)(c b:Option V)(K:V->AB->Prop):V->Prop
|.ptr id p=>Lk id p n z c b (λv=>K v a) (Y4 (Cj a id p))
|_=>False
def Ho(a:Nat)(b c:List D):List D:=b.take a++(c++b.drop (a+c.length))
def N2(f:AB)(id E:Nat)(t:V)(p:List Nat)(b n z:Nat)(e:List D)(r:V)(K:V->AB->Prop):Option V->Prop
|some (.d (.agg a))=>b+n<=a.length/\(∀x∈a,x.sz=z)/\(D.agg (Ho b a e)).shape=(D.agg a).shape/\∃c,t.set p (.d (.agg (Ho b a e)))=some c/\K r (AG f id (.box E c))
|_=>False
def Hr(b:AB)(id:Nat)(p:List Nat)(a n z:Nat)(c:List D)(r:V)(K:V->AB->Prop):Option Ob->Prop
|some (.box E t)=>N2 b id E t p a n z c r K (t.at p)
|_=>False
def N7(z:Nat)(a:AB)(K:V->AB->Prop):V->V->Prop
|.bs id p c n,.d (.AF e b)=>e=z/\Hr a id p c n z (b.take n) (.d (.int .i64 (min b.length n:Nat))) K (AA a id)
|_,_=>False
def N4(b:D)(z:Nat)(a:AB)(K:V->AB->Prop):V->Prop
|.bs id p c n=>(n=0->(∃E t,AA a id=some (.box E t))/\K (.BE []) a)/\(n≠0->(b.sz=z/\z=1)/\Hr a id p c n z (List.replicate n b) (.BE []) K (AA a id))
|_=>False
def Mx(n z:Nat)(K:V->Prop):D->V->Prop
|.agg a,.d (.int _ m)=>(0<=m/\m<n)/\a.length=n/\(∀x∈a,x.sz=z)/\K (.d (.Bd (a.getD m.toNat default)))
|_,_=>False
def M5(b:Nat)(K:List V->Prop)(c:AB):V->Prop
|.d (.AF z a)=>z=b/\K (a.map .d)
|.d .AT=>K []
|.sl id n=>(∃E a,AA c id=some (.Ao E b a)/\n=a.length/\G8 a=true/\K a)\/∃E a,AA c id=some (.A9 E b a)/\n=a.length/\K (a.map .d)
|_=>False
def Mf(id E e B n:Nat)(g:AB)(c:List V)(K:V->AB->Prop):Option Ob->Prop
|some (.Ao f b a)=>f=E/\b=e/\n=a.length/\(2*(a.length+c.length)+192)*B<=281474976710656/\K (.sl id (a.length+c.length)) (AG g id (.Ao E e (a++c)))
|some (.A9 f b a)=>f=E/\b=e/\n=a.length/\(2*(a.length+c.length)+192)*B<=281474976710656/\K (.sl id (a.length+c.length)) (AG g id (.Ao E e (a.map .d++c)))
|_=>False
def Hp(E c B:Nat)(a:AB)(b:List V)(K:V->AB->Prop):V->Prop
|.sl id n=>Mf id E c B n a b K (AA a id)
|.d .AT=>(2*b.length+192)*B<=281474976710656/\K (.sl (fresh a) b.length) ((fresh a,.Ao E c b)::a)
|_=>False
def Bj(P:Az)(g:Nat)(x:D):Prop:=∃a T f,P.g g=some (.cells (List.toArray a) T f)/\D8 x a=true
def Lw(a:AB)(K:V->AB->Prop):V->Option Ob->Prop
|.mp id,some (.map b)=>K (.hd false (fresh a)) ((fresh a,.it (some id) b.length [])::a)
|.d .B0,_=>K (.hd false (fresh a)) ((fresh a,.it none 0 [])::a)
|_,_=>False
def My:V->Nat
|.mp id=>id
|_=>0
def PN(b:AB)(id j n:Nat)(seen:List Nat)(K:V->AB->Prop):Option Ob->Prop
|some (.map a)=>a.length=n/\((List.range n).all (λi=>seen.contains i)=true->K (.BE [.d (.bool false)]) b)/\
 ∀i,i<n->seen.contains i=false->K (.BE [.d (.bool true),.d (a.getD i default).1,(a.getD i default).2]) (AG b id (.it (some j) n (seen++[i])))
|_=>False
def K8(a:AB)(id:Nat)(K:V->AB->Prop):Option Ob->Prop
|some (.it none _ _)=>K (.BE [.d (.bool false)]) a
|some (.it (some j) n seen)=>PN a id j n seen K (AA a j)
|_=>False
def Lu(a:AB)(K:V->AB->Prop):V->Prop
|.hd false id=>K8 a id K (AA a id)
|_=>False
def PT(i n:Nat)(K:V->Prop):Option Ob->Prop
|some (.map a)=>i<n/\a.length=n/\K (.BE [.d (a.getD i default).1,(a.getD i default).2])
|_=>False
def No(a:AB)(K:V->Prop):Option Ob->Prop
|some (.it (some j) n seen)=>seen≠[]/\PT (seen.getLastD 0) n K (AA a j)
|_=>False
def Ls(a:AB)(K:V->Prop):V->Prop
|.hd false id=>No a K (AA a id)
|_=>False
def PZ(K:V->Prop):Option Ob->Prop
|some (.map a)=>K (.d (.int .i64 a.length))
|_=>False
def KG(a:AB)(K:V->Prop):V->Prop
|.mp id=>PZ K (AA a id)
|.d .B0=>K (.d (.int .i64 0))
|_=>False
def kD(e:Bool)(n:Nat)(K:V->Prop):Option Ob->Prop
|some (.A9 _ _ a)=>n=a.length/\a≠[]/\K (.d (.bool !e))
|some (.Ao _ _ a)=>n=a.length/\a≠[]/\K (.d (.bool !e))
|_=>False
def Pq(e:Bool)(K:V->Prop):Option Ob->Prop
|some (.map _)=>K (.d (.bool !e))
|_=>False
def Gt(a:AB)(e:Bool)(K:V->Prop):Bool->V->Prop
|true,.mp id=>Pq e K (AA a id)
|true,.d .B0=>K (.d (.bool e))
|false,.d .AT=>K (.d (.bool e))
|false,.d (.AF _ b)=>K (.d (.bool !e))/\(b=[]->K (.d (.bool e)))
|false,.sl id n=>kD e n K (AA a id)
|_,_=>False
def Lj(a:AB)(K:V->Prop)(v:V):Option (Nat×Nat×Nat×Bool)->Prop
|none=>K v
|some (c,d,n,b)=>Vk a c d (λu=>D4 a n b K u) v
def OA(P:Az)(t f:Nat)(d:Option (Nat×Nat×Nat×Bool))(a:List V)(b:AB)(K c:V->AB->Prop):V->Prop
|.iface e (.ptr id p)=>e=t/\Xd P.p f=true/\Lj b (λr=>AV P f (r::a) b (Ef K c)) (.ptr id p) d
|_=>False
def OD(E b B:Nat)(z:D)(a:AB)(K:V->AB->Prop):V->Prop
|.d (.int .i64 n)=>0<=n/\n*B<=281474976710656/\K (.sl (fresh a) n.toNat) ((fresh a,.A9 E b (List.replicate n.toNat z))::a)
|_=>False
def XT(id n z:Nat)(h:Int)(a:AB)(K:V->AB->Prop):Option Ob->Prop
|some (.A9 E c b)=>c=z/\n=b.length/\b≠[]/\(0<=h/\h<=n)/\K (.sl (fresh a) h.toNat) ((fresh a,.A9 E c (b.take h.toNat))::AG a id .AY)
|_=>False
def Mz(z:Nat)(a:AB)(K:V->AB->Prop):V->V->Prop
|.sl id n,.d (.int .i64 h)=>XT id n z h a K (AA a id)
|_,_=>False
def I.wp(P:Az)(a:Xb)(b:AB)(K w:V->AB->Prop):I->Prop
|.c x=>x.wp a b (λv=>K v b)
|.box E x=>Iv E b K (x.ev a)
|.alloc E z=>Iv E b K (.d z)
|.GU o z Xs=>Dz (z.map .d) (Xs.map λ(i,x)=>(i,x.ev a)) λq=>dK (λl=>K (.d (.AF o l)) b) (Bt q)
|.GS E o z Xs=>Dz (z.map .d) (Xs.map λ(i,x)=>(i,x.ev a)) λq=>dK (λl=>K (.sl (fresh b) l.length) ((fresh b,.A9 E o l)::b)) (Bt q)
|.st n x v=>GH b n (v.ev a) K (x.ev a)
|.I0 E o B x y=>JW o (λu=>Ew E o B b u K (x.ev a)) (y.ev a)
|.ER E B x y=>Lm (λu=>Ew E 1 B b u K (x.ev a)) (y.ev a)
|.call f j=>AV P f (j.map (A.ev a)) b (Ef K w)
|.BX f j=>AU P f (j.map (A.ev a)) b λv=>K v b
|.Cq x j=>V9 P (j.map (A.ev a)) b K w (x.ev a)
|.panic x=>LN b w (x.ev a)
|.HQ x=>Lz (λv=>K v b) (x.ev a)
|.ET E o x=>Li E o b K (x.ev a)
|.Kb x=>Gs K (DU b (x.ev a))
|.IZ n s x=>JR n s b K (x.ev a)
|.H3 E o y x p=>Gu b E o p (y.ev a) K (x.ev a)
|.I5 y x l=>OE (y.ev a) K (x.ev a) l b
|.Hy x=>JJ b K (x.ev a)
|.EY E x y=>IK E b K (x.ev a) (y.ev a)
|.HP r=>Ko a r/\K (.mp (fresh b)) ((fresh b,.map [])::b)
|.Ib F z L m k=>JN b F z L (λv=>K v b) (m.ev a) (k.ev a)
|.C7 F m k v=>KI b F (v.ev a) K (m.ev a) (k.ev a)
|.KS g n s x=>Bj P g x/\x.sz=n/\(V.d x).isAgg=s/\K (.d x) b
|.Ie n z x=>KA b n z K (x.ev a)
|.Gx E o z Xs=>Dz (z.map .d) (Xs.map λ(i,x)=>(i,x.ev a)) λq=>K (.sl (fresh b) q.length) ((fresh b,.Ao E o q)::b)
|.F7 E o B x y=>M5 o (λu=>Hp E o B b u K (x.ev a)) b (y.ev a)
|.gv x=>Gs K (Ct 40000 b (x.ev a))
|.Ia n s x=>Mr n s b K (x.ev a)
|.HR n z x J H=>L0 b n z (J.map (A.ev a)) (H.map (A.ev a)) K (x.ev a)
|.I1 z x y=>N7 z b K (x.ev a) (y.ev a)
|.IV M z x=>N4 M z b K (x.ev a)
|.Hz g n z x i=>Bj P g x/\Mx n z (λv=>K v b) x (i.ev a)
|.Ic x=>Lw b K (x.ev a) (AA b (My (x.ev a)))
|.I6 x=>Lu b K (x.ev a)
|.IW x=>Ls b (λv=>K v b) (x.ev a)
|.EI x=>KG b (λv=>K v b) (x.ev a)
|.HO e m x=>Gt b e (λv=>K v b) m (x.ev a)
|.Dp _ t f G x j=>OA P t f G (j.map (A.ev a)) b K w (x.ev a)
|.I4 E o B z l=>OD E o B z b K (l.ev a)
|.I9 z x h=>Mz z b K (x.ev a) (h.ev a)
|.Bx f j=>CD P f (j.map (A.ev a)) b K
def SA(P:Program)(e:TypeId)(b a:Nat):Option (List Value):=
 if b*a=0 then some [] else (U2 P e).map λz=>((Array.range (b*a)).map (z.toArray[· % z.toArray.size]!)).toList
def PB(P:Program)(d:Op)(E? : Option Nat)(b:Nat)(z:List D)(Xs:List (Nat×A)):Bool:=match d with
|.buildSlice t a f=>W1 f.toList Xs&&(match P.underlying t with
 |some (.slice e)=>(match E? with|some E=>e==E|none=>true)&&X7 P e==some b&&z.length==a&&decide (a*b<=2 ^ 24)&&z.all (λx=>x.sz==b)&&(match SA P e a b with|some c=>G7 z c|none=>false)
 |_=>false)
|_=>false
def Qw:TypeDesc->D->Bool
|.int _,.int _ _=>true
|.string,.AM _=>true
|.bool,.bool _=>true
|_,_=>false
def IQ:D->KT
|.int k _=>.int k
|.bool _=>.bool
|_=>.AM
def Vz(P:Program)(t:TypeId):D->Bool
|.agg b=>(KT.st (b.map IQ)).Aa P t
|a=>match P.underlying t with
 |some d=>Qw d a
 |none=>false
def Yt6(P:Program)(t:TypeId)(j:String)(f:Nat)(e:Option (Nat×Nat×Nat×Bool)):Bool:=match (P.info? t).bind (λi=>i.methods.find? (·.name==j)) with
|some m=>(match e,m.func with
 |none,some (g,true)=>g==f&&m.path.isEmpty&&(P.underlying t matches some (.pointer _))
 |some (c,h,n,d),some (g,false)=>g==f&&(match m.path.toList with
  |[s]=>s.deref&&s.index==c&&(match P.underlying s.struct with
   |some (.struct a)=>(match a[c]? with
    |some b=>b.offset==h&&X7 P b.type==some n&&n != 0&&F6 P b.type==d&&!(P.underlying b.type matches some (.pointer _))&&(P.underlying b.type).isSome
    |none=>false)
   |_=>false)
  |_=>false)
 |_,_=>false)
|none=>false
def Yui:Bool->Option TypeDesc->Operand->Bool
|false,some (.slice _),.const (.slice none n m)=>n==0&&m==0
|true,some (.map _ _),.const (.map none)=>true
|_,_,_=>false
def nM:BinOp->Bool->Bool
|.eql,e=>e
|.neq,e=>!e
|_,_=>false
def I.Aa(P:Program)(a:Op):I->Bool
|.c x=>x.Aa P a
|.box E y=>match a with
 |.box e x=>e==E&&A.Aa x y
 |_=>false
|.alloc E z=>match a with
 |.alloc e=>e==E&&match U2 P e with
  |some q=>D8 z q
  |none=>false
 |_=>false
|.GU b z Xs=>PB P a none b z Xs
|.GS E b z Xs=>PB P a (some E) b z Xs
|.Gx E b z Xs=>PB P a (some E) b z Xs
|.st n x v=>match a with
 |.store t y u=>X7 P t==some n&&A.Aa y x&&A.Aa u v
 |_=>false
|.I0 E b B x y=>match a with
 |.call {callee:=.builtin .append,args:=args,argTypes:=p}=>match args.toList,p.toList with
  |[u,v],[t,G]=>(match P.underlying t with|some (.slice e)=>e==E|_=>false)&&(match P.info? E with|some i=>i.size==b&&i.bytes==B&&i.bytes != 0&&i.size != 0&&i.zero.isSome&&(i.zero.map (·.cells.size))==some b|none=>false)&&
   (P.underlying G matches some (.slice _))&&A.Aa u x&&A.Aa v y
  |_,_=>false
 |_=>false
|.F7 E b B x y=>match a with
 |.call {callee:=.builtin .append,args:=args,argTypes:=p}=>match args.toList,p.toList with
  |[u,v],[t,G]=>(match P.underlying t with|some (.slice e)=>e==E|_=>false)&&(match P.info? E with|some i=>i.size==b&&i.bytes==B&&i.bytes != 0&&i.size != 0&&i.zero.isSome&&(i.zero.map (·.cells.size))==some b|none=>false)&&
   (P.underlying G matches some (.slice _))&&A.Aa u x&&A.Aa v y
  |_,_=>false
 |_=>false
|.ER E B x y=>match a with
 |.call {callee:=.builtin .append,args:=args,argTypes:=p}=>match args.toList,p.toList with
  |[u,v],[t,G]=>(match P.underlying t with|some (.slice e)=>e==E|_=>false)&&(match P.info? E with|some i=>i.size==1&&i.bytes==B&&i.bytes != 0&&i.zero.isSome&&(i.zero.map (·.cells.size))==some 1|none=>false)&&
   (P.underlying G matches some .string)&&A.Aa u x&&A.Aa v y
  |_,_=>false
 |_=>false
|.call f args=>match a with
 |.call {callee:=.value (.func g),args:=as,.. }=>f==g&&Xd P f&&Ik as.toList args
 |_=>false
|.Bx f args=>match a with
 |.call {callee:=.value (.func g),args:=as,.. }=>f==g&&Xd P f&&Ik as.toList args
 |_=>false
|.BX f args=>match a with
 |.call {callee:=.value (.func g),args:=as,.. }=>f==g&&Xd P f&&Ik as.toList args
 |_=>false
|.Cq y args=>match a with
 |.call {callee:=.value x,args:=as,.. }=>A.Aa x y&&Ik as.toList args
 |_=>false
|.panic y=>match a with
 |.panic x=>A.Aa x y
 |_=>false
|.HQ y=>match a with
 |.convert s t x=>(P.underlying s matches some .string)&&(match P.underlying t with|some (.slice e)=>(P.underlying e matches some (.int .u8))|_=>false)&&A.Aa x y
 |_=>false
|.ET _ _ y=>match a with
 |.move x|.assign x=>A.Aa x y
 |_=>false
|.Kb y=>match a with
 |.move x|.assign x=>A.Aa x y
 |_=>false
|.gv y=>false
|.IZ n w y=>match a with
 |.load t x=>X7 P t==some n&&(P.underlying t).isSome&&F6 P t==w&&A.Aa x y
 |_=>false
|.Ia n w y=>match a with
 |.load t x=>X7 P t==some n&&(P.underlying t).isSome&&F6 P t==w&&A.Aa x y
 |_=>false
|.H3 _ _ y _ _=>match a with
 |.move x|.assign x=>A.Aa x y
 |_=>false
|.I5 y _ _=>match a with
 |.move x|.assign x=>A.Aa x y
 |_=>false
|.Hy y=>match a with
 |.convert s t x=>s==t&&(match P.underlying s with|some (.slice e)=>(P.underlying e matches some (.int .u8))|_=>false)&&A.Aa x y
 |_=>false
|.EY E y z=>match a with
 |.call {callee:=.builtin .unsafeString,args:=args,argTypes:=p}=>match args.toList,p.toList with
  |[x,n],[t,_]=>(match P.underlying t with|some (.pointer e)=>e==E&&P.cellsOf e==1|_=>false)&&A.Aa x y&&A.Aa n z
  |_,_=>false
 |_=>false
|.HP r=>match a with
 |.makeMap t h=>(P.underlying t matches some (.map _ _))&&FU h r
 |_=>false
|.Ib H z R m k=>match a with
 |.lookup t x i o=>o==R&&(match P.underlying t with
  |some (.map F K)=>Vz P F H&&(match U2 P K with|some q=>D8 z q&&(((P.info? K).bind (·.zero)).map λv=>match v with|.agg _=>true|_=>false)==some (V.d z).isAgg|none=>false)
  |_=>false)&&A.Aa x m&&A.Aa i k
 |_=>false
|.C7 H m k v=>match a with
 |.mapUpdate t x i y=>(match P.underlying t with|some (.map F _)=>Vz P F H|_=>false)&&A.Aa x m&&A.Aa i k&&A.Aa y v
 |.insert t x i y=>(match P.underlying t with|some (.map F _)=>Vz P F H|_=>false)&&A.Aa x m&&A.Aa i k&&A.Aa y v
 |_=>false
|.KS g n w _=>match a with
 |.load t (.global h)=>h==g&&X7 P t==some n&&(P.underlying t).isSome&&F6 P t==w
 |_=>false
|.Ie n z y=>match a with
 |.slice t x none none none=>(match P.underlying t with|some (.array m e)=>m==n&&X7 P e==some z|_=>false)&&A.Aa x y
 |_=>false
|.HR n z y Q O=>match a with
 |.slice t x l h none=>(match P.underlying t with|some (.array m e)=>m==n&&X7 P e==some z|_=>false)&&A.Aa x y&&FU l Q&&FU h O
 |_=>false
|.I1 z y s=>match a with
 |.call {callee:=.builtin .copy,args:=args,argTypes:=p}=>match args.toList,p.toList with
  |[u,v],[t,_]=>(match P.underlying t with|some (.slice e)=>X7 P e==some z&&z != 0|_=>false)&&A.Aa u y&&A.Aa v s
  |_,_=>false
 |_=>false
|.IV T z y=>match a with
 |.call {callee:=.builtin .clear,args:=args,argTypes:=p}=>match args.toList,p.toList with
  |[u],[t]=>(match P.underlying t with|some (.slice e)=>X7 P e==some z&&z != 0&&(match U2 P e with|some q=>D8 T q|none=>false)|_=>false)&&A.Aa u y
  |_,_=>false
 |_=>false
|.Hz g n z _ j=>match a with
 |.indexAddr t (.global h) i=>h==g&&(match P.underlying t with|some (.array m e)=>n==m&&X7 P e==some z|_=>false)&&A.Aa i j
 |_=>false
|.Ic y=>match a with
 |.range t x=>(P.underlying t matches some (.map _ _))&&A.Aa x y
 |_=>false
|.I6 y=>match a with
 |.next x false=>A.Aa x y
 |_=>false
|.IW y=>match a with
 |.entry x=>A.Aa x y
 |_=>false
|.EI y=>match a with
 |.call {callee:=.builtin .len,args:=args,argTypes:=p}=>match args.toList,p.toList with
  |[u],[t]=>(P.underlying t matches some (.map _ _))&&A.Aa u y
  |_,_=>false
 |_=>false
|.HO e m y=>match a with
 |.binOp o t x J _=>nM o e&&A.Aa x y&&Yui m (P.underlying t) J
 |_=>false
|.Dp L t f M y args=>match a with
 |.call {callee:=.invoke x m,args:=as,.. }=>m==L&&A.Aa x y&&Ik as.toList args&&Yt6 P t L f M
 |_=>false
|.I4 E b B z l=>match a with
 |.makeSlice t x J=>A.Aa x l&&A.Aa J l&&(match P.underlying t with|some (.slice e)=>e==E|_=>false)&&(match P.info? E with|some i=>i.size==b&&i.bytes==B|none=>false)&&b != 0&&B != 0&&(match U2 P E with|some q=>D8 z q&&q.length==b|none=>false)&&z.sz==b
 |_=>false
|.I9 z y h=>match a with
 |.slice t x none (some N) none=>(match P.underlying t with|some (.slice e)=>X7 P e==some z&&z != 0|_=>false)&&A.Aa x y&&A.Aa N h
 |_=>false
def Qc(P:Program)(a:Act)(w:World)(e:A0)(g:Op)(K f:V->AB->Prop):Prop:=
 ∀(o:Oper),o.op=g->∀(next:Act->World->Prop)(Q:Exit->Act->World->Prop),
  (∀v x c d b,K x c->x.An d b v->OM d b c->Tr w e d b->next (a.put o.dst v) d)->
  (∀u x c d b,f x c->x.An d b u->OM d b c->Tr w e d b->Q (.panic [{v:=u,recovered:=false}]) a d)->
  Dw P o a w next Q
def IM(P:Program)(a:Act)(w:World)(e:A0)(d:Op)(c:AB)(K:V->AB->Prop):Prop:=
 ∃v x b,K x c/\x.An b e v/\Bv w b/\∀(o:Oper),o.op=d->(execOp a.eval o).run P w=.ok (.value v) b
section
variable {P:Program} {a:Act} {w:World} {ρ:A0} {sl:Xb} {ob:AB} {K Pn:V->AB->Prop}
def Xl{c:Op}{v:Value}{x:V}{b:AB}{w':World}{ρ':A0}(j:∀o:Oper,o.op=c->(execOp a.eval o).run P w=.ok (.value v) w')
 (g:K x b) (d:x.An w' ρ' v) (e:OM w' ρ' b) (f:Tr w ρ w' ρ'):Qc P a w ρ c K Pn:=by
 intro o i next Q h _
 unfold Dw;rw[j o i];exact h v x b w' ρ' g d e f
def IM.Dv{c:Op}(h:IM P a w ρ c ob K)(g:OM w ρ ob):Qc P a w ρ c K Pn:=by
 obtain⟨v,x,i,f,d,b,e⟩:=h;exact Xl e f d (g.ext b) b.tr
def SV(P:Program)(a:Act)(w:World)(ρ:A0)(c:Op)(ob:AB)(K:V->AB->Prop):Prop:=
 ∀(o:Oper),o.op=c->∀(next:Act->World->Prop)(Q:Exit->Act->World->Prop),
  (∀v x b,K x ob->x.An b ρ v->Bv w b->next (a.put o.dst v) b)->Dw P o a w next Q
def IM.FX{b:Op}(h:IM P a w ρ b ob K):SV P a w ρ b ob K:=by
 obtain⟨v,x,j,f,c,d,e⟩:=h;intro o i next Q g
 unfold Dw;rw[e o i];exact g v x j f c d
def SV.Dv{c:Op}(h:SV P a w ρ c ob K)(f:OM w ρ ob):Qc P a w ρ c K Pn:=λo i next Q g _=>
 h o i next Q λv x j e d b=>g v x ob j ρ e d (f.ext b) b.tr
def Kz(P:Program)(a:Act)(w:World)(ρ:A0)(e:Op)(K:V->AB->Prop):Prop:=
 ∀(o:Oper),o.op=e->∀(next:Act->World->Prop)(Q:Exit->Act->World->Prop),
  (∀v x c d b,K x c->x.An d b v->OM d b c->Tr w ρ d b->Bv w d->next (a.put o.dst v) d)->Dw P o a w next Q
def Kz.Dv{d:Op}(h:Kz P a w ρ d K):Qc P a w ρ d K Pn:=λo k next Q j _=>
 h o k next Q λv x b l c e f g i _=>j v x b l c e f g i
def Z4{e:Op}{v:Value}{x:V}{c:AB}{d:World}{b:A0}(m:∀o:Oper,o.op=e->(execOp a.eval o).run P w=.ok (.value v) d)
 (j:K x c) (f:x.An d b v) (g:OM d b c) (h:Tr w ρ d b) (i:Bv w d):Kz P a w ρ e K:=by
 intro o l next Q k
 unfold Dw;rw[m o l];exact k v x c d b j f g h i
def T1{e:Op}{b:AB}{d:World}{c:A0}(k:∀o:Oper,o.op=e->(execOp a.eval o).run P w=.ok .skip d)
 (h:K .undef b) (f:OM d c b) (g:Tr w ρ d c):Qc P a w ρ e K Pn:=by
 intro o j next Q i _
 unfold Dw;rw[k o j];exact i undef .undef b d c h (Z2.2 rfl) f g
def Ys0(j:SM w ρ sl a)(b:OM w ρ ob){c:Op}{x:C}(g:x.Aa P c=true)(h:x.wp sl ob (λv=>K v ob)):Qc P a w ρ c K Pn:=by
 obtain⟨v,y,f,d,e⟩:=C.Av j b g h;exact Xl (λo i=>e o i w (λ_=>Bv.refl w)) f d b (Tr.refl _ _)
def wV(l:SM w ρ sl a)(j:OM w ρ ob){d:Op}{E:Nat}{x:A}(b:I.Aa P d (.box E x)=true)(h:Iv E ob K (x.ev sl)):Kz P a w ρ d K:=by
 cases d<;>simp[I.Aa]at b;rename_i e y;obtain⟨rfl,b⟩:=b;obtain⟨g,i⟩:=h;have f:=Xo ob;have p:=A.Av l b;have c:=Vq (ZI g) p;obtain⟨q,m,n⟩:=sB j f c e;refine Z4 (λo k=>?_) i n m q (Zj w _);simp only[execOp,k,Instr.box,newVar,newRow,Sem.run_bind,run_newObj,Result.andThen_ok,Sem.run_pure,Array.toArray_toList];rfl
def uw(n:OM w ρ ob){g:Op}{i:Nat}{z:D}(b:I.Aa P g (.alloc i z)=true)(h:Iv i ob K (.d z)):Kz P a w ρ g K:=by
 cases g<;>simp only[I.Aa,BF]at b;rename_i E;simp only[As,CT]at b;obtain⟨rfl,b⟩:=b;obtain⟨t,m⟩:=h;have l:=Xo ob;cases e:U2 P E with
 |none=>simp[e]at b
 |some j=>
  simp only[e]at b;obtain⟨v,k,_,f⟩:=U3 e;have c:(V.d z).Ac w ρ j:=by simp only[V.Ac];exact MQ z j b
  obtain⟨s,q,r⟩:=sB n l c E;refine Z4 (λo p=>?_) m r q s (Zj w _);simp only[execOp,p,Instr.alloc,newVar,newRow,Sem.run_bind,f,run_newObj,Result.andThen_ok,Sem.run_pure];rw[<-k,Array.toArray_toList];rfl
def Yjq(hs:SM w ρ sl a)(Z:OM w ρ ob){op:Op}{n:Nat}{x v:A}(hc:I.Aa P op (.st n x v)=true)(h:GH ob n (v.ev sl) K (x.ev sl)):Qc P a w ρ op K Pn:=by
 cases op<;>simp[I.Aa]at hc;rename_i t y u;obtain⟨⟨hn,h1⟩,h2⟩:=hc;have F:=A.Av hs h1;have r2:=A.Av hs h2;unfold GH at h;split at h
 ·rename_i id p e1;rw[e1]at F;unfold JX at h;split at h
  ·rename_i E t0 R;obtain⟨b,sh,U,F⟩:=Bh Z R F;cases c:t0.at p with
   |none=>simp[c,JY]at h
   |some r=>
    simp only[c,JY]at h;obtain⟨g,M,q,t',l,hK⟩:=h;obtain⟨b',cs,Q,X,Y⟩:=Z.BU id _ R;rw[U]at Q;simp only[Bu,RO.box.injEq]at Q;obtain⟨rfl,rfl⟩:=Q;have e:=Vq (ZI q) r2;obtain⟨ad,J,e3,h4⟩:=Ol p t0 r _ cs _ Y c e g;rw[l]at J;simp only[Bu]at J;subst J;obtain⟨t1,o1⟩:=Dj Z R U X e3 h4;obtain⟨s,H,N,W,q2,q3⟩:=JC p t0 r cs Y c;have d:=E7 _ _ e;have L:=E7 _ _ q3;refine T1 (λo ho=>?_) hK o1 t1;have j:(a.eval u).cells.size=n:=by
     rw[<-M];unfold V.size;rw[<-g,<-d];simp
    have k:=run_storeCells_at (P:=P) b (t0.shape.off p) E (a.eval u).cells.toList 0 cs.toArray w X (by
     rw[d,g,<-L,<-q2,W];simp) (V.BU _ _ q e)
    simp only[execOp,ho,Instr.storeAt,Instr.sureAddr,storeVar,F,Sem.run_bind,Sem.run_pure,Result.andThen_ok,Xq hn,j,ne_eq,not_true,Ci];rw[k];simp
  ·cases h
 ·rename_i id m z i f p e1;rw[e1]at F;unfold M6 at h;split at h
  ·rename_i ox R;unfold OO at h;split at h
   ·rename_i G aa;obtain⟨⟨ab,ac⟩,h⟩:=h;cases c:G.at p with
    |none=>simp[c,M7]at h
    |some r=>
     simp only[c,M7]at h;obtain⟨g,M,q,t',l,hK⟩:=h;obtain⟨b,ae,E,s,H,N,Q,X,Y,g4,g5⟩:=Xyl Z R aa;rw[SQ]at F;obtain⟨o,W,q2⟩:=F;rw[Q]at W;simp only[Bu]at W;subst W;have F:=q2.2.2 rfl;have e:=Vq (ZI q) r2;obtain⟨ad,J,e3,h4⟩:=Ol p G r _ H _ g4 c e g;rw[l]at J;simp only[Bu]at J;subst J;obtain⟨t1,o1⟩:=g5 t' _ e3 h4;obtain⟨d1,d2,d3,z1,z2,z3⟩:=JC p G r H g4 c;have d:=E7 _ _ e;have L:=E7 _ _ z3;refine T1 (λo ho=>?_) hK o1 t1;have j:(a.eval u).cells.size=n:=by
      rw[<-M];unfold V.size;rw[<-g,<-d];simp
     have O:i*z+f=s.length+G.shape.off p:=by rw[ab,ac,Y]
     have T:(a.eval u).cells.toList.length=d2.length:=by rw[d,g,<-L]
     have k:=run_storeCells_at (P:=P) b (s.length+G.shape.off p) E (a.eval u).cells.toList 0 (s++(H++N)).toArray w X (by
      rw[T,<-z2,z1];simp;omega) (V.BU _ _ q e)
     simp only[execOp,ho,Instr.storeAt,Instr.sureAddr,storeVar,F,Sem.run_bind,Sem.run_pure,Result.andThen_ok,Xq hn,j,ne_eq,not_true,Ci,O];rw[k];have e7:(s++(H++N)).take (s.length+G.shape.off p)=s++H.take (G.shape.off p):=by
      rw[QO,List.take_append_of_le_length (by rw[z1,<-z2];simp)]
     have e8:(s++(H++N)).drop (s.length+G.shape.off p+(a.eval u).cells.toList.length)=H.drop (G.shape.off p+(a.eval u).cells.toList.length)++N:=by
      rw[Kg,QQ,List.drop_append_of_le_length (by rw[z1,<-z2,T];simp)]
     simp only[Sem.run_pure,Result.andThen_ok];congr 2;simp only[Nat.add_zero,List.toList_toArray]at e7 e8⊢;rw[e7,e8];simp only[Kk]
   ·cases h
  ·cases h
 ·cases h
def Xxd(l:SM w ρ sl a)(j:OM w ρ ob){i:Op}{x:A}(k:I.Aa P i (.panic x)=true)(h:LN ob Pn (x.ev sl)):Qc P a w ρ i K Pn:=by
 cases i<;>simp[I.Aa]at k;have d:=A.Av l k;unfold LN at h;split at h
 ·rename_i t v e;rw[e]at d;have b:=d;rw[Wf (by simp[V.isAgg]) (by simp)]at b;simp only[V.Ac,HY,GK]at b;obtain⟨c,b,_⟩:=b;intro o f next Q _ g
  unfold Dw;have:(execOp a.eval o).run P w=.halt (.panic (.iface t c)) w:=by simp[execOp,f,Instr.panic,b]
  rw[this];rw[b]at d;exact g _ _ _ _ _ h d j (Tr.refl _ _)
 ·rename_i t v e;rw[e]at d;have b:=d;rw[Rt]at b;obtain⟨c,b,_⟩:=b;intro o f next Q _ g
  unfold Dw;have:(execOp a.eval o).run P w=.halt (.panic (.iface t c)) w:=by simp[execOp,f,Instr.panic,b]
  rw[this];rw[b]at d;exact g _ _ _ _ _ h d j (Tr.refl _ _)
 ·cases h
def Bw{w:World}{ρ:A0}:∀{h e:List V}{d c:List Value},V.A1 w ρ h d->V.A1 w ρ e c->V.A1 w ρ (h++e) (d++c)
|[],e,d,c,b,f=>by simp only[V.A1]at b;subst b;simpa using f
|x::r,e,d,c,b,f=>by
 simp only[V.A1]at b;obtain⟨u,g,rfl,i,j⟩:=b;simp only[List.cons_append,V.A1];exact⟨u,g++c,rfl,i,Bw j f⟩
def Q6{P:Az}(t:ρ.gl=P.g){j:Op}{f:Nat}{m:List V}{args:List Value}(F:∀o:Oper,o.op=j->(execOp a.eval o).run P.p w=.ok (.enter f args.toArray) w)
 (h:AV P f m ob (Ef K Pn)) (s:OM w ρ ob) (q:V.A1 w ρ m args):Qc P.p a w ρ j K Pn:=by
 intro o y next Q x z
 unfold Dw;rw[F o y];simp only[Is];refine(h.run w ρ args s t q).mono λe n ⟨b,c,d,k,r,i,l⟩=>?_;cases e with
 |returned u=>
  cases b with
  |ret v=>exact x u v c n d k r i l
  |panic v=>cases r
 |panicked G=>
  cases b with
  |ret v=>cases r
  |panic v=>obtain⟨u,rfl,r⟩:=r;exact z u v c n d k r i l
 |outgrown=>cases b<;>cases r
def Yn{f:Nat}(h:Xd P f=true)(c:Array Value)(w:World):(callFunc f c).run P w=.ok (.enter f c) w:=by
 unfold Xd at h;split at h
 next g e=>simp only[As,bne_iff_ne,ne_eq]at h;obtain⟨b,d⟩:=JE.1 h.2;simp[callFunc,e,h.1,d]
 ·simp at h
def X1g{P:Az}(m:ρ.gl=P.g)(q:SM w ρ sl a)(l:OM w ρ ob){e:Op}{f:Nat}{b:List A}(d:I.Aa P.p e (.call f b)=true)(h:AV P f (b.map (A.ev sl)) ob (Ef K Pn)):Qc P.p a w ρ e K Pn:=by
 cases e<;>simp only[I.Aa,BF]at d;rename_i c;obtain⟨i,as,r⟩:=c;cases i<;>(try simp only[BF]at d);rename_i g;cases g<;>(try simp only[BF]at d);simp only[As,CT]at d;obtain⟨⟨rfl,j⟩,k⟩:=d;refine Q6 m (args:=as.toList.map a.eval) (λo n=>?_) h l (Zb q k);have:a.eval (.func f)=.func (.func f) #[] #[]:=rfl;simp only[execOp,n,resolve,this,Deferred.ofValue,Sem.run_bind,Sem.run_pure,Result.andThen_ok,invoke,Yn j,Y9];simp
def uv{P:Az}(t:ρ.gl=P.g)(F:SM w ρ sl a)(q:OM w ρ ob){j:Op}{f:Nat}{b:List A}(d:I.Aa P.p j (.BX f b)=true)(h:AU P f (b.map (A.ev sl)) ob λv=>K v ob):SV P.p a w ρ j ob K:=by
 cases j<;>simp only[I.Aa,BF]at d;rename_i c;obtain⟨l,as,H⟩:=c;cases l<;>(try simp only[BF]at d);rename_i g;cases g<;>(try simp only[BF]at d);simp only[As,CT]at d;obtain⟨⟨rfl,m⟩,n⟩:=d;intro o z next Q y
 have i:(execOp a.eval o).run P.p w=.ok (.enter f (as.toList.map a.eval).toArray) w:=by
  have:a.eval (.func f)=.func (.func f) #[] #[]:=rfl;simp only[execOp,z,resolve,this,Deferred.ofValue,Sem.run_bind,Sem.run_pure,Result.andThen_ok,invoke,Yn m,Y9];simp
 unfold Dw;rw[i];simp only[Is];refine(h.run w ρ _ q t (Zb F n)).mono λe G ⟨v,u,k,s,r,x⟩=>?_;subst s;exact y u v G k r x
def ux{P:Az}(F:ρ.gl=P.g)(J:SM w ρ sl a)(y:OM w ρ ob){l:Op}{f:Nat}{d:List A}(i:I.Aa P.p l (.Bx f d)=true)(h:CD P f (d.map (A.ev sl)) ob K):Kz P.p a w ρ l K:=by
 cases l<;>simp only[I.Aa,BF]at i;rename_i c;obtain⟨n,as,M⟩:=c;cases n<;>(try simp only[BF]at i);rename_i g;cases g<;>(try simp only[BF]at i);simp only[As,CT]at i;obtain⟨⟨rfl,q⟩,s⟩:=i;intro o H next Q G
 have j:(execOp a.eval o).run P.p w=.ok (.enter f (as.toList.map a.eval).toArray) w:=by
  have:a.eval (.func f)=.func (.func f) #[] #[]:=rfl;simp only[execOp,H,resolve,this,Deferred.ofValue,Sem.run_bind,Sem.run_pure,Result.andThen_ok,invoke,Yn q,Y9];simp
 unfold Dw;rw[j];simp only[Is];refine(h.run w ρ _ y F (Zb J s)).mono λe L ⟨v,b,m,u,k,z,r,o,t,x⟩=>?_;subst z;exact G u v b L m k r o t x
def Xxc{P:Az}(M:ρ.gl=P.g)(F:SM w ρ sl a)(y:OM w ρ ob){U:Op}{x:A}{d:List A}(z:I.Aa P.p U (.Cq x d)=true)(h:V9 P (d.map (A.ev sl)) ob K Pn (x.ev sl)):Qc P.p a w ρ U K Pn:=by
 cases U<;>simp only[I.Aa,BF]at z;rename_i c;obtain⟨l,as,ts⟩:=c;cases l<;>(try simp only[BF]at z);rename_i g;simp only[As]at z;obtain⟨h1,J⟩:=z;have i:=A.Av F h1;unfold V9 at h;split at h
 next f fi l m=>rw[m,Me]at i;obtain⟨G,H,i,W,X⟩:=i;refine Q6 M (args:=G++as.toList.map a.eval++H) (λo n=>?_) h.2 y (Bw (Bw W (Zb F J)) X);simp only[execOp,n,resolve,i,Deferred.ofValue,Sem.run_bind,Sem.run_pure,Result.andThen_ok,invoke,Yn h.1,Y9];simp
 next f fi l m=>rw[m,R4]at i;obtain⟨G,H,i,W,X⟩:=i;refine Q6 M (args:=G++as.toList.map a.eval++H) (λo n=>?_) h.2 y (Bw (Bw W (Zb F J)) X);simp only[execOp,n,resolve,i,Deferred.ofValue,Sem.run_bind,Sem.run_pure,Result.andThen_ok,invoke,Yn h.1,Y9];simp
 ·rename_i id m;rw[m,LR]at i;obtain⟨N,hy⟩:=h;rcases i with⟨b,L,i⟩|⟨L,_⟩
  ·simp only[KU]at i;obtain⟨fn,tm,l,cb,T,R⟩:=hy.run w ρ _ b y M (Zb F J) L;intro o n next Q hn hq
   have q:(execOp a.eval o).run P.p w=.ok (.round b fn tm l cb) w:=by
    simp only[execOp,n,resolve,i,Deferred.ofValue,Sem.run_bind,Sem.run_pure,Result.andThen_ok,invoke];simpa[Y9]using T
   unfold Dw;rw[q];simp only[Is];refine R.mono λe w' ⟨j,s,t,k,r,Z,t1⟩=>?_;cases e with
   |returned u=>
    cases j with
    |ret v=>exact hn u v s w' t k r Z t1
    |panic v=>cases r
   |panicked ch=>
    cases j with
    |ret v=>cases r
    |panic v=>obtain⟨u,rfl,r⟩:=r;exact hq u v s w' t k r Z t1
   |outgrown=>cases j<;>cases r
  ·exfalso;unfold S1 at N;split at N
   next O=>obtain⟨b,_,_,_,_,_,_,Y,_⟩:=y.BU id _ O;rw[L]at Y;cases Y
   ·exact N
 ·cases h
def Yav(i:SM w ρ sl a)(f:OM w ρ ob){c:Op}{x:A}(e:I.Aa P c (.Kb x)=true)(h:Gs K (DU ob (x.ev sl))):Qc P a w ρ c K Pn:=by
 cases b:DU ob (x.ev sl) with
 |none=>simp[b,Gs]at h
 |some q=>
  obtain⟨d,k⟩:=q;simp only[b,Gs]at h;cases c<;>simp[I.Aa]at e
  all_goals
   have l:=A.Av i e;obtain⟨p,n,j,m⟩:=UD f l b;exact Xl (λo g=>by simp[execOp,g]) h m j n
def Yaq(z:SM w ρ sl a)(j:OM w ρ ob){i:Op}{n:Nat}{e:Bool}{x:A}(r:I.Aa P i (.IZ n e x)=true)(h:JR n e ob K (x.ev sl)):Qc P a w ρ i K Pn:=by
 have f:C.Aa P i (.ld n e x)=true:=r;unfold JR at h;split at h
 ·rename_i id p k;cases b:Cj ob id p with
  |none=>simp[b,K5]at h
  |some v=>
   simp only[b,K5]at h;obtain⟨l,m,h⟩:=h;cases g:DU ob v with
   |none=>simp[g,Gs]at h
   |some q=>
    obtain⟨d,H⟩:=q;simp only[g,Gs]at h;obtain⟨u,y,F,t,c⟩:=Rx (K:=λy=>y=v) z j f (by rw[k];simp only[D4,b,F4];exact⟨l,m,trivial⟩);subst F;obtain⟨M,L,G,J⟩:=UD j t g;exact Xl (λo s=>c o s w (λ_=>Bv.refl w)) h J G L
 ·cases h
def Yar(hs:SM w ρ sl a)(R:OM w ρ ob){Y:Op}{n:Nat}{J:Bool}{x:A}(hc:I.Aa P Y (.Ia n J x)=true)(h:Mr n J ob K (x.ev sl)):Qc P a w ρ Y K Pn:=by
 cases Y<;>simp[I.Aa]at hc;rename_i t y;obtain⟨⟨⟨hn,hu⟩,k⟩,h1⟩:=hc;have H:=A.Av hs h1;unfold Mr at h;split at h
 ·rename_i id p e1;rw[e1]at H;cases e:Cj ob id p with
  |none=>simp[e,PY]at h
  |some v=>
   simp only[e,PY]at h;obtain⟨h2,O,h⟩:=h;cases U:Ct 40000 ob v with
   |none=>simp[U,PX]at h
   |some q=>
    obtain⟨d,F⟩:=q;simp only[U,PX]at h;obtain⟨W,h⟩:=h;obtain⟨g,b',cs,E,g1,g2,M,g4,g5⟩:=Mb R e;obtain⟨b,sh,u,H⟩:=Bh R g1 H;rw[u]at M;simp only[Bu,RO.box.injEq]at M;obtain⟨rfl,rfl⟩:=M;obtain⟨c1,c,c3,e2,e3,j⟩:=JC p g v cs g5 g2;obtain⟨⟨G,Z,o1,hx,X⟩,hk⟩:=dt 40000 v ob ρ c d F R j U;have f:AA F id=some (.box E g):=by
     rcases hk id with Q|Q
     ·rw[Q,g1]
     ·rw[Q]at h;cases h
    rw[f]at h;simp only[Re]at h;obtain⟨t',s,hK⟩:=h;have z:G.m id=some (.box b g.shape):=by
     obtain⟨o',p1,p2⟩:=Z.same id _ u;obtain⟨b2,aa,q1,_⟩:=o1.BU id _ f;rw[p1]at q1;cases p2 with
     |refl=>exact p1
     |AY=>cases q1
     |grow _ hh=>rcases hh with⟨hq,_⟩|⟨_,_,hq⟩<;>cases hq
    have N:=H6 Z _ _ g5;obtain⟨ab,L,e5,h6⟩:=Ol p g v (.d d) cs c N g2 (by simpa only[V.Ac]using hx) (by simpa only[V.shape]using W);rw[s]at L;simp only[Bu]at L;subst L;have e7:cs.take (g.shape.off p)++(c++cs.drop (g.shape.off p+c.length))=cs:=by
     rw[<-e3,e2];simp
    rw[e7]at h6;have o2:=o1.swap f (x':=.box E t') ⟨b,cs,by rw[e5];exact z,g4,h6⟩;have hl:c.length=n:=by rw[E7 _ _ j,<-h2];rfl
    have r:=Xvi (P:=P) (t:=t) (n:=n) hn hu (b:=b) (off:=g.shape.off p) (cs:=c) hl (w':=w) (λi hi=>by
     rw[<-e3];simp[World.cell?,g4,e2,JH,hi]) (λj=>by rw[k]at j;rw[j]at O;rw[<-h2];exact Vy O)
    have l:=Qz (w:=w) (ρ:=G) (v:=.d d) (cs:=c) (by simpa only[V.Ac]using hx);have T:(V.d d).isAgg=J:=by
     rw[<-O,<-X];cases d<;>rfl
    rw[T]at l;refine Xl (λo ho=>?_) hK l o2 Z;simp only[execOp,ho,H,Sem.run_bind,r,Result.andThen_ok,Sem.run_pure,k]
 ·cases h
def Xvw(r:OM w ρ ob){E z:Nat}{y x:V}{p:List Nat}(h:Gu ob E z p y K x):∃n m,Tr w ρ w n/\OM w n m/\K y m:=by
 unfold Gu at h;split at h
 ·rename_i id q;unfold K7 at h;split at h
  ·rename_i F t s;rcases h with⟨k,h⟩|⟨_,h⟩
   case inr=>exact⟨ρ,ob,Tr.refl w ρ,r,h⟩
   obtain⟨b,c,U,G,W⟩:=r.BU id _ s;have g:id≠fresh ob:=by intro e;subst e;rw[Xo]at s;cases s
   have l:∀b,RO.B4.blk? = some b->w.heap.size<=b:=λb L=>by simp[RO.blk?]at L
   have M:=Vt w (Bv.refl w) (o:=.B4) (r.free (Xo ob)) l;have o1:OM w (ρ.BS (fresh ob) .B4) ((fresh ob,.A9 E z [])::ob):=r.BS (Bv.refl w) (Xo ob) l (.inl ⟨by simp[A0.BS],rfl⟩);have i:=H6 M _ _ W;obtain⟨c1,c2,c3,N,O,H⟩:=JC (q++p) t (.d .AT) c i k;simp only[V.Ac,D.An]at H;subst H;obtain⟨t',Q,R,J⟩:=Ol (q++p) t (.d .AT) (.sl (fresh ob) 0) c [.slice none 0 0] i k (by simp only[V.Ac];exact⟨.B4,_,by simp[A0.BS],rfl,rfl,rfl⟩) (by simp[V.shape,D.shape]);rw[Q]at h;simp only[Ml]at h;have T:c.take (t.shape.off (q++p))++([Value.slice none 0 0]++c.drop (t.shape.off (q++p) + [Value.slice none 0 0].length))=c:=by
    rw[<-O,N];simp
   rw[T]at J;have u:AA ((fresh ob,Ob.A9 E z [])::ob) id=some (.box F t):=by simp[AA,g.symm,s]
   obtain⟨t2,v⟩:=Dj o1 (t':=t') u (by simp[A0.BS,g,U]) G R J;have Z:w.setRow b c.toArray=w:=by
    have:w.heap[b]? = some (.cells c.toArray F (0,0)):=G;obtain⟨L,X⟩:=Array.getElem?_eq_some_iff.1 this;unfold World.setRow;have Y:(w.heap.modify b λo=>match o with|.cells _ e f=>.cells c.toArray e f|o=>o)=w.heap:=by
     apply Array.ext_getElem?;intro j;rw[Nb];split
     next e=>subst e;rw[this];simp
     ·rfl
    cases w;simp only[World.mk.injEq,GK,true_and];exact Y
   rw[Z]at t2 v;simp only[AG,g.symm,Ci]at v;exact⟨_,_,M,v,h⟩
  ·cases h
 ·cases h
def Xvx{y x:V}:∀{l:List (Nat×Nat×List Nat)} {ρ ob},OM w ρ ob->OE y K x l ob->∃c b,Tr w ρ w c/\OM w c b/\K y b
|[],ρ,ob,d,h=>⟨ρ,ob,Tr.refl w ρ,d,h⟩
|e::l,ρ,ob,d,h=>by
 obtain⟨q,n,o,k,i⟩:=Xvw d h;obtain⟨g,f,p,m,j⟩:=Xvx k i;exact⟨g,f,o.trans p,m,j⟩
def Yaw(j:SM w ρ sl a)(g:OM w ρ ob){b:Op}{E d:Nat}{y x:A}{p:List Nat}(c:I.Aa P b (.H3 E d y x p)=true)(h:Gu ob E d p (y.ev sl) K (x.ev sl)):Qc P a w ρ b K Pn:=by
 obtain⟨n,l,e,k,f⟩:=Xvw g h;cases b<;>simp[I.Aa]at c
 all_goals
  have m:=A.Av j c;exact Xl (λo i=>by simp[execOp,i]) f (Gg e m) k e
def Yax(i:SM w ρ sl a)(f:OM w ρ ob){b:Op}{y x:A}{l:List (Nat×Nat×List Nat)}(c:I.Aa P b (.I5 y x l)=true)(h:OE (y.ev sl) K (x.ev sl) l ob):Qc P a w ρ b K Pn:=by
 obtain⟨n,k,d,j,e⟩:=Xvx f h;cases b<;>simp[I.Aa]at c
 all_goals
  have m:=A.Av i c;exact Xl (λo g=>by simp[execOp,g]) e (Gg d m) j d
def im(hs:SM w ρ sl a){z:List D}{Xs:List (Nat×A)}{t e:TypeId}{c f:Nat}{l:Array (Nat×Operand)}{K:List V->Prop}(N:P.underlying t=some (.slice e))(he:X7 P e=some f)
 (hp:W1 l.toList Xs=true) (hl:z.length=c) (aa:c*f<=2 ^ 24) (Z:∀x∈z,x.sz=f) (Q:(match SA P e c f with|some k=>G7 z k|none=>false)=true)
 (h:Dz (z.map .d) (Xs.map λ(i,x)=>(i,x.ev sl)) K):
 ∃g k,K g/\Br w ρ g k/\g.map V.shape=(z.map V.d).map V.shape/\∀o:Oper,o.op=.buildSlice t c l->(execOp a.eval o).run P w=.ok (.value (.slice (some ⟨w.heap.size,0,none⟩) c c)) (EE w (.cells k.toArray e)):=by
 cases b:SA P e c f with
 |none=>simp[b]at Q
 |some k=>
  simp only[b]at Q;have H:Br w ρ (z.map .d) k:=(JD z k).2 (Tk z k Q);have n:∀i,i<((z.map V.d).map V.shape).length->(λi=>some (i*f,f)) i=some (Sh.BR (((z.map V.d).map V.shape).take i),(((z.map V.d).map V.shape).getD i .AX).size):=by
   intro i hi;have G:i<z.length:=by simpa using hi
   have O:z[i].shape.size=f:=by rw[CC];exact Z _ (CS G)
   rw[<-Xwg,EO (sz:=f) _ (λx O=>Z x (Fe O)),E9,Gi (by omega)];simp[G,V.shape,O]
  have s:∀(g:List V) (l:List (Nat×V)) (K:List V->Prop),Dz g l K->Dz g l (λq=>K q/\q.map V.shape=g.map V.shape):=by
   intro g l;induction l generalizing g with
   |nil=>intro K h;exact⟨h,rfl⟩
   |cons p r ih=>
    obtain⟨i,v⟩:=p;intro K h;simp only[Dz]at h⊢;obtain⟨T,U,h3,h4⟩:=h;refine⟨T,U,h3,?_⟩;have W:=ih (g.set i v) K h4;have e:(g.set i v).map V.shape=g.map V.shape:=by
     rw[Fg,U];apply QR;intro j;by_cases Y:i=j
     ·subst Y;rw[Kj];simp[T]
     ·rw[Kj];simp[Y]
    rw[e]at W;exact W
  obtain⟨q,J,⟨hK,M⟩,hR,X⟩:=eY (sl:=sl) hs (λi=>some (i*f,f)) ((z.map V.d).map V.shape) n l.toList Xs (z.map .d) k _ hp H rfl (s _ _ _ h);refine⟨q,J,hK,hR,M,λo ho=>?_⟩;have m:∀F:Operand->Value,(l.map λ(i,x)=>(i,F x)).toList=l.toList.map λ(i,x)=>(i,F x):=λF=>by simp
  simp only[execOp,ho,Instr.buildSlice,Sem.run_bind,Xa N,Xq he,Result.andThen_ok,m];rw[Af (by omega)];unfold SA at b;by_cases L:c*f=0
  ·simp only[L,Cz,Bu]at b;subst b;simp only[L,Cz,Sem.run_pure];have:(Array.map (λx=>(#[]:Array Value)[x % (#[]:Array Value).size]!) (Array.range 0))=([]:List Value).toArray:=by simp
   simp only[this,X,newRow,Sem.run_bind,run_newObj,Result.andThen_ok,Sem.run_pure];rfl
  ·simp only[L,Ci]at b⊢;cases y:U2 P e with
   |none=>simp[y]at b
   |some zc=>
    simp only[y,Option.map_some,Bu]at b;obtain⟨R,e1,_,u⟩:=U3 y;have e2:R.cells=zc.toArray:=by rw[<-e1]
    have e3:Array.map (λx=>R.cells[x % R.cells.size]!) (Array.range (c*f))=k.toArray:=by
     rw[e2,<-b,Array.toArray_toList]
    simp only[Sem.run_bind,u,Result.andThen_ok,Sem.run_pure,e3,X,newRow,run_newObj];rfl
def ur{l z:List D}{f:Nat}(h:(l.map V.d).map V.shape=(z.map V.d).map V.shape)(g:∀x∈z,x.sz=f):l.length=z.length/\∀x∈l,x.sz=f:=by
 have b:l.length=z.length:=by simpa using CK List.length h
 refine⟨b,λx j=>?_⟩;obtain⟨i,e,rfl⟩:=List.getElem_of_mem j;have c:=CK (λs:List Sh=>(s.getD i .AX).size) h;simp only[FR,List.getElem?_map,Cn e,Cn (b▸e),Option.map_some,Option.getD_some,V.shape,CC]at c;rw[c];exact g _ (CS _)
def gM{z:List D}{Xs:List (Nat×A)}{op:Op}{sz:Nat}{E? : Option Nat}
 (c:PB P op E? sz z Xs=true):
 ∃t b d e,op=.buildSlice t b d/\P.underlying t=some (.slice e)/\(∀E,E? = some E->e=E)/\X7 P e=some sz/\W1 d.toList Xs=true/\z.length=b/\b*sz<=2 ^ 24/\(∀x∈z,x.sz=sz)/\(match SA P e b sz with|some g=>G7 z g|none=>false)=true:=by
 cases op<;>simp only[PB,BF]at c;rename_i t b d;simp only[As]at c;obtain⟨o,c⟩:=c;split at c
 next e f=>simp only[As,CT,Bs,DQ]at c;obtain⟨⟨⟨⟨⟨h,i⟩,j⟩,k⟩,l⟩,m⟩:=c;refine⟨t,b,d,e,rfl,f,λE n=>?_,i,o,j,k,l,m⟩;subst n;simpa using h
 ·simp at c
def yx(Q:SM w ρ sl a)(s:OM w ρ ob){op:Op}{sz:Nat}{z:List D}{Xs:List (Nat×A)}(L:I.Aa P op (.GU sz z Xs)=true)
 (h:Dz (z.map .d) (Xs.map λ(i,x)=>(i,x.ev sl)) λq=>dK (λl=>K (.d (.AF sz l)) ob) (Bt q)):IM P a w ρ op ob K:=by
 obtain⟨t,r,T,e,rfl,p,_,M,O,v,j,y,R⟩:=gM (P:=P) (op:=op) (z:=z) (Xs:=Xs) (sz:=sz) (E?:=none) L;obtain⟨q,f,k,u,n,c⟩:=im Q p M O v j y R h;cases m:Bt q with
 |none=>simp[m,dK]at k
 |some l=>
  simp only[m,dK]at k;have F:=V.Bi m;subst F;rw[JD]at u;obtain⟨G,H⟩:=ur n y;have b:=Zj w (.cells f.toArray e);refine⟨_,_,_,k,Yq.2 (.inr ⟨_,r,f,by rw[G,v],by omega,?_,Fy (b.tr (ρ:=ρ)).mono _ _ u,H⟩),b,c⟩;refine⟨λ_=>⟨rfl,?_,?_⟩,λi N=>?_⟩
  ·rintro (⟨id,o,g,J⟩|g)
   ·have:=Uf s g J;simp at this
   ·have:=s.D7 _ g;simp at this
  ·have:=Zt w (.cells f.toArray e);exact Xi this
  ·simp[World.cell?,Zt,N]
def wT(T:SM w ρ sl a)(y:OM w ρ ob){op:Op}{E sz:Nat}{z:List D}{Xs:List (Nat×A)}(O:I.Aa P op (.GS E sz z Xs)=true)
 (h:Dz (z.map .d) (Xs.map λ(i,x)=>(i,x.ev sl)) λu=>dK (λl=>K (.sl (fresh ob) l.length) ((fresh ob,.A9 E sz l)::ob)) (Bt u)):Kz P a w ρ op K:=by
 have c:=Xo ob;obtain⟨t,W,X,e,rfl,s,M,Q,R,F,m,G,U⟩:=gM (P:=P) (op:=op) (z:=z) (Xs:=Xs) (sz:=sz) (E?:=some E) O;obtain rfl:=M E rfl;obtain⟨u,k,n,p,r,j⟩:=im T s Q R F m G U h;cases q:Bt u with
 |none=>simp[q,dK]at n
 |some l=>
  simp only[q,dK]at n;have J:=V.Bi q;subst J;rw[JD]at p;obtain⟨L,v⟩:=ur r G;have f:=Zj w (.cells k.toArray e);have g:∀b,(RO.A9 w.heap.size l.length l.length).blk? = some b->w.heap.size<=b:=λb N=>by simp[RO.blk?]at N;omega
  have H:=Vt _ f (o:=.A9 w.heap.size l.length l.length) (y.free c) g;refine Z4 j n (Yj.2 ⟨_,by simp[A0.BS];rfl,?_⟩) (y.BS f c g ?_) H f
  ·simp only[RO.slice];exact⟨BV _,⟨_,_,_,rfl⟩,λ_=>by rw[L,F]⟩
  ·refine .inr ⟨w.heap.size,l.length,k,[],by simp[A0.BS],by simpa using Zt w (.cells k.toArray e),Fy H.mono _ _ p,v,?_⟩;rw[GL,Gf _ _ p,EO _ v]
def Xg1{l:List V}{z:List D}{f:Nat}(h:l.map V.shape=(z.map V.d).map V.shape)(g:∀x∈z,x.sz=f):l.length=z.length/\∀x∈l,x.size=f:=by
 have b:l.length=z.length:=by simpa using CK List.length h
 refine⟨b,λx j=>?_⟩;obtain⟨i,e,rfl⟩:=List.getElem_of_mem j;have c:=CK (λs:List Sh=>(s.getD i .AX).size) h;simp only[FR,List.getElem?_map,Cn e,Cn (b▸e),Option.map_some,Option.getD_some,V.shape,CC]at c;unfold V.size;rw[c];exact g _ (CS _)
def wU(O:SM w ρ sl a)(r:OM w ρ ob){op:Op}{E sz:Nat}{z:List D}{Xs:List (Nat×A)}(L:I.Aa P op (.Gx E sz z Xs)=true)
 (h:Dz (z.map .d) (Xs.map λ(i,x)=>(i,x.ev sl)) λf=>K (.sl (fresh ob) f.length) ((fresh ob,.Ao E sz f)::ob)):Kz P a w ρ op K:=by
 have c:=Xo ob;obtain⟨t,R,T,e,rfl,p,G,M,N,u,m,v,Q⟩:=gM (P:=P) (op:=op) (z:=z) (Xs:=Xs) (sz:=sz) (E?:=some E) L;obtain rfl:=G E rfl;obtain⟨f,l,H,s,n,k⟩:=im O p M N u m v Q h;obtain⟨F,q⟩:=Xg1 n v;have g:=Zj w (.cells l.toArray e);have j:∀b,(RO.A9 w.heap.size f.length f.length).blk? = some b->w.heap.size<=b:=λb J=>by simp[RO.blk?]at J;omega
 have y:=Vt _ g (o:=.A9 w.heap.size f.length f.length) (r.free c) j;refine Z4 k H (Yj.2 ⟨_,by simp[A0.BS];rfl,?_⟩) (r.BS g c j ?_) y g
 ·simp only[RO.slice];exact⟨BV _,⟨_,_,_,rfl⟩,λ_=>by rw[F,u]⟩
 ·refine .inr ⟨w.heap.size,f.length,l,[],by simp[A0.BS],by simpa using Zt w (.cells l.toArray e),G6 y _ _ s,q,?_⟩;rw[GL,MM _ _ s,V.BZ,X3 (z:=sz) _ q]
def UH(d:OM w ρ ob){id:Nat}{x G:Ob}{o:RO}{u:World}(F:AA ob id=some x)(t:Tr w ρ u (ρ.BS id o))(L:Qh u (ρ.BS id o) id G)
 (n:∀b,o.blk? = some b->w.heap.size<=b\/∃p,ρ.m id=some p/\p.blk? = some b) (J:∀j p b,j≠id->ρ.m j=some p->p.blk? = some b->u.heap[b]? = w.heap[b]?):OM u (ρ.BS id o) (AG ob id G):=by
 refine⟨λj y s=>?_,λj p H=>?_,λi j p q b f c g k=>?_,λb n=>Oz (d.D7 b n) t.size,LO t d.Dn,λb f c=>?_,d.CX.set⟩
 ·rw[Xc ob id j ⟨_,F⟩]at s;split at s
  next e=>subst e;simp at s;subst s;exact L
  next e=>exact Qh.tr t (d.BU j y s) (by simp[A0.BS,e]) (λb p f c=>J j p b e f c)
 ·rw[Xc ob id j ⟨_,F⟩];split
  ·exact⟨_,rfl⟩
  next e=>exact d.D1 j p (by simpa[A0.BS,e]using H)
 ·simp only[A0.BS]at f c;split at f
  ·rename_i z;split at c
   next v=>exact z.trans v.symm
   ·simp at f;subst f;rcases n b g with h|⟨r,h,l⟩
    ·have:=Uf d c k;omega
    ·subst z;exact d.inj _ _ _ _ _ h c l k
  ·split at c
   ·rename_i v;simp at c;subst c;rcases n b k with h|⟨r,h,l⟩
    ·have:=Uf d f g;omega
    ·subst v;exact d.inj _ _ _ _ _ f h g l
   ·exact d.inj i j p q b f c g k
 ·obtain⟨i,p,g,k⟩:=f;simp only[A0.BS]at g c;split at g
  ·simp at g;subst g;rcases n b k with h|⟨r,h,l⟩
   ·have:=d.D7 b c;omega
   ·exact d.DT b ⟨_,r,h,l⟩ c
  ·exact d.DT b ⟨i,p,g,k⟩ c
def X6.len:∀{b:List (D×V)} {l:List MapEntry},X6 w ρ b l->l.length=b.length
|[],l,h=>by simp only[X6]at h;subst h;rfl
|(k,v)::r,l,h=>by obtain⟨e,d,rfl,_,_,c⟩:=h;simp[X6.len c]
def X6.NL:∀{c:List (D×V)} {l:List MapEntry},X6 w ρ c l->∀(i:Nat)(e:MapEntry),l[i]? = some e->(c.getD i default).1.key=some e.key/\(c.getD i default).2.An w ρ e.val
|[],l,h,i,e,b=>by simp only[X6]at h;subst h;simp at b
|(k,v)::r,l,h,0,e,b=>by obtain⟨j,m,rfl,d,f,g⟩:=h;simp at b;subst b;exact⟨d,f⟩
|(k,v)::r,l,h,i+1,e,b=>by obtain⟨j,m,rfl,d,f,g⟩:=h;simpa using X6.NL g i e (by simpa using b)
def Gm.NL:∀{l:List MapEntry}{n:Nat},Gm n l->∀(i:Nat)(e:MapEntry),l[i]? = some e->e.born=n+i
|[],n,h,i,e,b=>by simp at b
|x::r,n,h,0,e,b=>by simp at b;subst b;simpa using h.1
|x::r,n,h,i+1,e,b=>by have:=Gm.NL h.2 i e (by simpa using b);omega
def Tj{l:List MapEntry}(h:Gm 0 l){e:MapEntry}(c:e∈l):e.born<l.length/\l[e.born]? = some e:=by
 obtain⟨i,b,rfl⟩:=JF.1 c;have:=Gm.NL h i _ (Cn b);rw[JG]at this;exact⟨by omega,by rw[this];exact Cn b⟩
def Gm.find{l:List MapEntry}(h:Gm 0 l){i:Nat}{e:MapEntry}(c:l[i]? = some e):l.find? (·.born==i)=some e:=by
 cases d:l.find? (·.born==i) with
 |none=>
  have:=List.find?_eq_none.1 d e (List.mem_of_getElem? c);have b:=Gm.NL h i e c;rw[JG]at b;simp[b]at this
 |some x=>
  have f:=List.find?_some d;have b:=(Tj h (List.mem_of_find?_eq_some d)).2;have g:x.born=i:=by simpa using f
  rw[g,c]at b;exact b.symm▸rfl
def Qv{g:Nat->Prop}:∀{e:List D}{b:List Value},Vm e=some b->Bb w g e b
|[],b,h=>by simp only[Vm,Bu]at h;subst h;rfl
|x::r,b,h=>by
 simp only[Vm]at h;split at h
 next u c d f=>cases h;simp only[Bb];refine⟨[u],c,rfl,?_,Qv f⟩;cases x<;>simp only[D.Fp,Bu,reduceCtorEq]at d<;>subst d<;>simp[D.An]
 ·cases h
def Y6{o:Option (List Value)}{u:Value}(h:XD o=some u):∃b,o=some b/\u=.agg b.toArray:=by
 cases o with
 |none=>cases h
 |some b=>cases h;exact⟨b,rfl,rfl⟩
def sA{d:D}{u:Value}(h:d.key=some u):(V.d d).An w ρ u:=by
 cases d<;>simp only[D.key,Bu,reduceCtorEq]at h
 ·subst h;exact X1.2 rfl
 ·subst h;exact BI.2 rfl
 ·subst h;exact B7.2 rfl
 ·obtain⟨c,b,rfl⟩:=Y6 h;exact .inr (.inl ⟨rfl,c,rfl,by simp only[V.Ac,D.An];exact Qv b⟩)
def bA(h:OM w ρ ob)(o:Obj)(x:Ob)(f:Qh (EE w o) (ρ.BS (fresh ob) (.map w.heap.size)) (fresh ob) x):
 Tr w ρ (EE w o) (ρ.BS (fresh ob) (.map w.heap.size))/\OM (EE w o) (ρ.BS (fresh ob) (.map w.heap.size)) ((fresh ob,x)::ob)/\Bv w (EE w o):=by
 have d:=Zj w o;have e:=Xo ob;exact⟨Vt _ d (o:=.map w.heap.size) (h.free e) (λb c=>by simp[RO.blk?]at c;omega),h.BS d e (λb c=>by simp[RO.blk?]at c;omega) f,d⟩
def wW(M:SM w ρ sl a)(m:OM w ρ ob){r:Op}{x:A}(z:I.Aa P r (.Ic x)=true)(h:Lw ob K (x.ev sl) (AA ob (My (x.ev sl)))):Kz P a w ρ r K:=by
 cases r<;>simp only[I.Aa,BF,As]at z;rename_i t y;obtain⟨i,N⟩:=z;obtain⟨F,u,i⟩:∃F u,P.underlying t=some (.map F u):=by revert i;split<;>simp_all
 have c:=A.Av M N;generalize x.ev sl=v at h c;unfold Lw at h;split at h
 ·rename_i id H g;simp only[My]at g;obtain⟨b,l,G,k,J,L,rfl,Q⟩:=m.BU id _ g;rw[O9]at c;rcases c with⟨O,d,c⟩|⟨d,_⟩
  ·rw[k]at d;cases d;have n:id≠fresh ob:=λe=>by rw[e,Xo]at g;cases g
   obtain⟨s,q,j⟩:=bA m (.mapIter (some b) l.length #[] l.length) (.it (some id) H.length []) ⟨w.heap.size,b,by simp[A0.BS],.inl (by simp[A0.BS,n,k]),by rw[Zt,L.len]⟩;refine Z4 (λo p=>?_) h (LR.2 (.inl ⟨w.heap.size,by simp[A0.BS],rfl⟩)) q s j;have f:(getObj b).run P w=.ok (.map l.toArray l.length) w:=by simp[getObj,Sem.run,J]
   simp only[execOp,p,Instr.range,c,Sem.run_bind,Xa i,Result.andThen_ok,f,run_newObj,Sem.run_pure];rfl
  ·rw[k]at d;cases d
 ·rw[Ru]at c;obtain⟨s,q,j⟩:=bA m (.mapIter none 0 #[] 0) (.it none 0 []) ⟨w.heap.size,by simp[A0.BS],by rw[Zt]⟩;refine Z4 (λo p=>?_) h (LR.2 (.inl ⟨w.heap.size,by simp[A0.BS],rfl⟩)) q s j;simp only[execOp,p,Instr.range,c,Sem.run_bind,Xa i,Result.andThen_ok,run_newObj,Sem.run_pure];rfl
 ·cases h
def Xwp(h:OM w ρ ob){id b:Nat}{y x:Ob}{o:Obj}(k:AA ob id=some y)(l:ρ.m id=some (.map b))(s:b<w.heap.size)(r:Qh (EB w b o) ρ id x):
 Tr w ρ (EB w b o) ρ/\OM (EB w b o) ρ (AG ob id x):=by
 have g:Tr w ρ (EB w b o) ρ:=by
  refine⟨by rw[Vh];exact BV _,λj f _=>Zp w _ (λe=>f ?_),λ_ h=>.inl h,rfl,rfl,λ_ o h=>⟨o,h,.refl o⟩,rfl,rfl,rfl,BV _⟩;subst e;exact⟨id,_,l,rfl⟩
 refine⟨g,λj z c=>?_,λj o f=>?_,h.inj,λi d=>by rw[Vh];exact h.D7 i d,LO g h.Dn,h.DT,h.CX.set⟩
 ·rw[Xc ob id j ⟨_,k⟩]at c;split at c
  next e=>subst e;simp at c;subst c;exact r
  next e=>refine Qh.tr g (h.BU j z c) rfl (λi o p q=>Zp w _ (λn=>e ?_));subst n;exact h.inj j id _ _ _ p l q rfl
 ·rw[Xc ob id j ⟨_,k⟩];split
  ·exact⟨_,rfl⟩
  ·exact h.D1 j o f
def Jf{b:Nat}{o y:Obj}(w:World)(c:w.heap[b]? = some y)(d:y.isCells=false):(setObj b o).run P w=.ok () (EB w b o):=by
 cases y<;>simp_all[setObj,Sem.run,EB,Obj.isCells]
def Ydn(P:Program)(w:World){n:Nat}(c:0<n):∃k b,(choose (.mapNext n)).run P w=.ok k b/\k<n/\Bv w b/\b.heap=w.heap:=by
 rw[run_choose_drew];split
 ·exact⟨0,w,rfl,c,Bv.refl w,rfl⟩
 ·exact⟨_,_,rfl,Nat.mod_lt _ c,Om w _,rfl⟩
def Yay(hs:SM w ρ sl a)(Q:OM w ρ ob){op:Op}{x:A}(W:I.Aa P op (.I6 x)=true)(h:Lu ob K (x.ev sl)):Qc P a w ρ op K Pn:=by
 cases op<;>simp only[I.Aa,BF]at W;rename_i y st;cases st<;>simp only[BF]at W;have q:=A.Av hs W;generalize x.ev sl=v at h q;unfold Lu at h;split at h
 ·rename_i id;have H:(V.BE [.d (.bool false)]).An w ρ (.tuple #[.bool false]):=by
   rw[CJ];exact⟨[.bool false],rfl,by simp only[V.A1];exact⟨_,_,rfl,BI.2 rfl,rfl⟩⟩
  unfold K8 at h;split at h
  ·rename_i n sn hl;obtain⟨b,L,F⟩:=Q.BU id _ hl;rw[LR]at q;rcases q with⟨b',s,q⟩|⟨s,_⟩
   ·rw[L]at s;cases s;simp only[KU]at q;have m:(getObj b).run P w=.ok (.mapIter none 0 #[] 0) w:=by simp[getObj,Sem.run,F]
    exact Xl (λo ho=>by simp[execOp,ho,Instr.next,q,m]) h H Q (Tr.refl _ _)
   ·rw[L]at s;cases s
  ·rename_i j n seen hl;obtain⟨b,O,L,F,g3⟩:=Q.BU id _ hl;rw[LR]at q;rcases q with⟨b',s,q⟩|⟨s,_⟩
   ·rw[L]at s;cases s;simp only[KU]at q;unfold PN at h;split at h
    ·rename_i es al;obtain⟨ab,ao,ai⟩:=h;obtain⟨av,l,ap,m1,m2,m3,rfl,m5⟩:=Q.BU j _ al;rcases F with F|F
     ·rw[m1]at F;cases F;have ac:l.length=n:=by rw[m3.len,ab]
      have m:(getObj b).run P w=.ok (.mapIter (some O) n seen.toArray n) w:=by simp[getObj,Sem.run,g3]
      have Y:(getObj O).run P w=.ok (.map l.toArray l.length) w:=by simp[getObj,Sem.run,m2]
      have G:(!seen.toArray.isEmpty&&!l.toArray.isEmpty&&l.toArray.all (λe=>decide (e.born≥n)))=false:=by
       cases l with
       |nil=>simp
       |cons e r=>
        have h0:=m5.1;have:decide (e.born≥n)=false:=by simp[h0];rw[<-ac];simp
        simp[this]
      let left:Array MapEntry:=l.toArray.filter λe=>!seen.toArray.contains e.born;have af:left.filter (λe=>decide (e.born<n))=left:=by
       rw[Array.filter_eq_self];intro e he;have t:=(Array.mem_filter.1 he).1;have:=(Tj m5 (by simpa using t)).1;simp;omega
      have ad:left.filter (λe=>decide (e.born≥n))=#[]:=by
       rw[Array.filter_eq_empty_iff];intro e he;have t:=(Array.mem_filter.1 he).1;have:=(Tj m5 (by simpa using t)).1;simp;omega
      have z:Array.filter (λx=>decide (x.born<n)) (Array.filter (λe=>!seen.toArray.contains e.born) l.toArray)=left:=af;have u:Array.filter (λx=>decide (x.born≥n)) (Array.filter (λe=>!seen.toArray.contains e.born) l.toArray)=#[]:=ad;let f:Array (Option MapEntry):=(if left.isEmpty then #[none] else #[])++(left++#[]).map some;have ah:0<f.size:=by
       simp only[f];cases g:left.isEmpty with
       |true=>simp;omega
       |false=>simp[Array.isEmpty_iff]at g;simp;exact Array.size_pos_iff.2 g
      obtain⟨k,J,aa,aq,N,Z⟩:=Ydn P w ah;have R:=Q.ext N;cases p:f[k]? with
      |none=>simp[Array.getElem?_eq_none_iff]at p;omega
      |some c=>
       cases c with
       |none=>
        have g:left.isEmpty=true:=by
         cases g:left.isEmpty with
         |true=>rfl
         |false=>
          exfalso;simp only[f,g,BF,Ci]at p;simp at p
        have T:(List.range n).all (λi=>seen.contains i)=true:=by
         rw[DQ];intro i hi;have hi:=Ii.1 hi;have ak:i<l.length:=by omega
         have hb:=Gm.NL m5 i _ (Cn ak);rw[JG]at hb;cases W:seen.contains i with
         |true=>rfl
         |false=>
          exfalso;have:l[i]∈left:=by
           simp only[left,Array.mem_filter];refine⟨by simp,?_⟩;rw[hb];simpa using W
          simp[Array.isEmpty_iff]at g;rw[g]at this;simp at this
        refine Xl (w':=J) (ρ':=ρ) (λo ho=>?_) (ao T) H R N.tr;simp only[execOp,ho,Instr.next,q,Sem.run_bind,m,Result.andThen_ok,Y,G,BF,Ci];rw[z,u]
        change ((Sem.run P (choose (.mapNext f.size)) w).andThen _).andThen _=_
        rw[aa];simp only[Result.andThen_ok]
        change (Sem.run P (match f[k]? with|some (some e)=>_|some none=>_|none=>_) J).andThen _=_
        rw[p];simp
       |some e=>
        have X:e∈left:=by
         have M:some e∈f:=Tv p;simp only[f,Array.append_empty,Array.mem_append,Array.mem_map]at M;rcases M with M|⟨e',t,M⟩
         ·split at M<;>simp at M
         ·cases M;exact t
        obtain⟨aj,an⟩:=Array.mem_filter.1 X;obtain⟨au,g⟩:=Tj m5 (e:=e) (by simpa using aj);have ae:seen.contains e.born=false:=by simpa using an
        obtain⟨n1,n2⟩:=m3.NL e.born e g;have U:b<J.heap.size:=by rw[Z];exact Xi g3
        obtain⟨t2,o2⟩:=Xwp (o:=.mapIter (some O) n (seen++[e.born]).toArray n) R hl L U (x:=.it (some j) n (seen++[e.born])) ⟨b,O,L,.inl m1,UA J _ U⟩;have t3:=N.tr.trans t2;refine Xl (ρ':=ρ) (v:=.tuple #[.bool true,e.key,e.val]) (λo ho=>?_) (ai e.born (by omega) ae) ?_ o2 t3
        ·simp only[execOp,ho,Instr.next,q,Sem.run_bind,m,Result.andThen_ok,Y,G,BF,Ci];rw[z,u]
         change ((Sem.run P (choose (.mapNext f.size)) w).andThen _).andThen _=_
         rw[aa];simp only[Result.andThen_ok]
         change (Sem.run P (match f[k]? with|some (some e)=>_|some none=>_|none=>_) J).andThen _=_
         rw[p];have ag:(setObj b (.mapIter (some O) n (seen.toArray.push e.born) l.length)).run P J=.ok () (EB J b (.mapIter (some O) n (seen++[e.born]).toArray n)):=by
          rw[ac];have:(seen.toArray.push e.born)=(seen++[e.born]).toArray:=by simp
          rw[this];exact Jf J (y:=.mapIter (some O) n seen.toArray n) (by rw[Z];exact g3) rfl
         simp only[Sem.run_bind,ag,Result.andThen_ok,Sem.run_pure]
        ·rw[CJ];refine⟨_,rfl,?_⟩;simp only[V.A1];exact⟨_,_,rfl,BI.2 rfl,_,_,rfl,sA n1,_,_,rfl,Gg t3 n2,rfl⟩
     ·rw[m1]at F;cases F
    ·cases h
   ·rw[L]at s;cases s
  ·cases h
 ·cases h
def yy(Z:SM w ρ sl a)(H:OM w ρ ob){u:Op}{x:A}(J:I.Aa P u (.IW x)=true)(h:Ls ob (λv=>K v ob) (x.ev sl)):IM P a w ρ u ob K:=by
 cases u<;>simp only[I.Aa,BF]at J;rename_i y;have e:=A.Av Z J;generalize x.ev sl=v at h e;unfold Ls at h;split at h
 ·rename_i id;unfold No at h;split at h
  ·rename_i j n seen X;obtain⟨t,h⟩:=h;unfold PT at h;split at h
   ·rename_i es q;obtain⟨W,k,G⟩:=h;obtain⟨b,O,F,c,U⟩:=H.BU id _ X;obtain⟨aa,l,T,M,m2,N,rfl,m5⟩:=H.BU j _ q;rw[LR]at e;rcases e with⟨b',f,e⟩|⟨f,_⟩
    ·rw[F]at f;cases f;rcases c with c|c
     ·rw[M]at c;cases c;simp only[KU]at e;have s:l.length=n:=by rw[N.len,k]
      have g:(getObj b).run P w=.ok (.mapIter (some O) n seen.toArray n) w:=by simp[getObj,Sem.run,U]
      have p:(getObj O).run P w=.ok (.map l.toArray l.length) w:=by simp[getObj,Sem.run,m2]
      have m:seen.toArray.back? = some (seen.getLastD 0):=by
       rw[List.back?_toArray];cases seen with
       |nil=>exact absurd rfl t
       |cons x r=>simp[List.getLastD,List.getLast?_eq_some_getLast]
      generalize seen.getLastD 0=i at W G m;have d:l[i]? = some (l[i]'(by omega)):=Cn (by omega);have L:=m5.find d;obtain⟨Q,R⟩:=N.NL _ _ d;generalize l[i]'(by omega)=z at d L Q R;refine⟨.tuple #[z.key,z.val],_,w,G,?_,Bv.refl w,λo Y=>?_⟩
      ·rw[CJ];refine⟨_,rfl,?_⟩;simp only[V.A1];exact⟨_,_,rfl,sA Q,_,_,rfl,R,rfl⟩
      ·simp[execOp,Y,Instr.entry,e,g,m,p,s,L]
     ·rw[M]at c;cases c
    ·rw[F]at f;cases f
   ·cases h
  ·cases h
 ·cases h
def wH(O:SM w ρ sl a)(M:OM w ρ ob){m:Op}{x:A}(d:I.Aa P m (.EI x)=true)(h:KG ob (λv=>K v ob) (x.ev sl)):IM P a w ρ m ob K:=by
 cases m<;>simp only[I.Aa,BF]at d;rename_i c;obtain⟨r,f,Q⟩:=c;cases r<;>(try simp only[BF]at d);rename_i b;cases b<;>(try simp only[BF]at d);split at d
 ·rename_i y t u z;simp only[As]at d;obtain⟨J,L⟩:=d;obtain⟨q,j,p⟩:∃q j,P.underlying t=some (.map q j):=by revert J;split<;>simp_all
  have e:=A.Av O L;have F:f=#[y]:=by simpa using CK List.toArray u
  have j:Q=#[t]:=by simpa using CK List.toArray z
  subst F j;generalize x.ev sl=v at h e;unfold KG at h;split at h
  ·rename_i id;unfold PZ at h;split at h
   ·rename_i T N;obtain⟨b,l,s,n,G,H,rfl,U⟩:=M.BU id _ N;rw[O9]at e;rcases e with⟨R,g,e⟩|⟨g,_⟩
    ·rw[n]at g;cases g;have i:(getObj b).run P w=.ok (.map l.toArray l.length) w:=by simp[getObj,Sem.run,G]
     refine⟨_,_,w,h,X1.2 rfl,Bv.refl w,λo k=>?_⟩;simp[execOp,k,resolve,invoke,builtin,Builtin.len_,e,Xa p,goInt,i,H.len]
    ·rw[n]at g;cases g
   ·cases h
  ·rw[Ru]at e;refine⟨_,_,w,h,X1.2 rfl,Bv.refl w,λo k=>?_⟩;simp[execOp,k,resolve,invoke,builtin,Builtin.len_,e,Xa p,goInt]
  ·cases h
 ·simp at d
def Yb9{t e:TypeId}(c:P.underlying t=some (.slice e))(x:Option Addr)(n m:Nat)(b:World):(Op.equal t (.slice x n m) (.slice none 0 0)).run P b=.ok x.isNone b:=by
 have:∀d,(Op.equalIn (d+1) t (.slice x n m) (.slice none 0 0)).run P b=.ok x.isNone b:=λd=>by cases x<;>simp[Op.equalIn,Xa c]
 exact this 9999
def Yb7{t k e:TypeId}(c:P.underlying t=some (.map k e))(x:Option Nat)(b:World):(Op.equal t (.map x) (.map none)).run P b=.ok x.isNone b:=by
 have:∀d,(Op.equalIn (d+1) t (.map x) (.map none)).run P b=.ok x.isNone b:=λd=>by cases x<;>simp[Op.equalIn,Xa c]
 exact this 9999
def Xxi(c:BinOp)(t:TypeId)(x y:Operand)(b:Option Addr)(n m:Nat)(v:Value)(d:World):(eqGuard c t x y (.slice b n m) v).run P d=.ok () d:=by
 cases c<;>simp[eqGuard]
def Xp3(c:BinOp)(t:TypeId)(x y:Operand)(b:Option Nat)(v:Value)(d:World):(eqGuard c t x y (.map b) v).run P d=.ok () d:=by
 cases c<;>simp[eqGuard]
def yP(hs:SM w ρ sl a)(N:OM w ρ ob){W:Op}{e m:Bool}{x:A}(O:I.Aa P W (.HO e m x)=true)(h:Gt ob e (λv=>K v ob) m (x.ev sl)):IM P a w ρ W ob K:=by
 cases W<;>simp only[I.Aa,BF]at O;rename_i F t H y1 Y;simp only[As]at O;obtain⟨⟨L,h1⟩,s⟩:=O;have c:=A.Av hs h1;generalize x.ev sl=v at h c;unfold Yui at s;split at s
 ·rename_i el n m' U;simp only[As,CT]at s;obtain⟨rfl,rfl⟩:=s;have i:∀{u:Option Addr}{n m:Nat},a.eval H=.slice u n m->K (.d (.bool (if u.isNone then e else !e))) ob->IM P a w ρ (.binOp F t H (.const (.slice none 0 0)) Y) ob K:=by
   intro u n m r g;have Q:a.eval (.const (.slice none 0 0))=.slice none 0 0:=rfl;refine⟨_,_,w,g,BI.2 rfl,Bv.refl w,λo T=>?_⟩;cases u<;>cases F<;>simp only[nM,BF]at L<;>(try (cases e<;>simp at L))<;>simp[execOp,T,r,Q,Xxi,binOp,Yb9 U]
  unfold Gt at h;split at h
  next R=>cases R
  next R=>cases R
  ·rw[W6]at c;exact i c h
  ·rename_i xs _;rw[Yq]at c;rcases c with⟨rfl,c⟩|⟨ad,f,vs,c,_⟩
   ·exact i c (h.2 rfl)
   ·exact i c h.1
  ·rename_i id k _;rw[Yj]at c;obtain⟨o,J,Z⟩:=c;have j:∀b q f,o=.A9 b q f->k=q->K (.d (.bool !e)) ob->IM P a w ρ (.binOp F t H (.const (.slice none 0 0)) Y) ob K:=by
    intro b q f r e2 g;subst r;simp only[RO.slice]at Z;exact i (Z.2.2 e2) (by simpa using g)
   unfold kD at h;split at h
   ·rename_i E sz xs y;obtain⟨rfl,p,g⟩:=h;rcases N.BU id _ y with⟨_,X⟩|⟨b,f,cs,sp,G,_⟩
    ·exact absurd X p
    ·rw[J]at G;cases G;exact j _ _ _ rfl rfl g
   ·rename_i E sz xs y;obtain⟨rfl,p,g⟩:=h;rcases N.BU id _ y with⟨_,X⟩|⟨b,f,cs,sp,G,_⟩
    ·exact absurd X p
    ·rw[J]at G;cases G;exact j _ _ _ rfl rfl g
   ·cases h
  ·cases h
 ·rename_i k el U;have z:∀{u:Option Nat},a.eval H=.map u->K (.d (.bool (if u.isNone then e else !e))) ob->IM P a w ρ (.binOp F t H (.const (.map none)) Y) ob K:=by
   intro u r g;have Q:a.eval (.const (.map none))=.map none:=rfl;refine⟨_,_,w,g,BI.2 rfl,Bv.refl w,λo T=>?_⟩;cases u<;>cases F<;>simp only[nM,BF]at L<;>(try (cases e<;>simp at L))<;>simp[execOp,T,r,Q,Xp3,binOp,Yb7 U]
  unfold Gt at h;split at h
  ·rename_i id _;unfold Pq at h;split at h
   ·rename_i es y;obtain⟨b,l,aa,J,_⟩:=N.BU id _ y;rw[O9]at c;rcases c with⟨b',M,c⟩|⟨M,_⟩
    ·exact z c (by simpa using h)
    ·rw[J]at M;cases M
   ·cases h
  ·rw[Ru]at c;exact z c h
  all_goals first|contradiction|cases h
 ·cases s
def Yc5{t f:Nat}{c:String}{v:Value}{b:TypeInfo}{m:Method}(g:P.info? t=some b)(h:b.methods.find? (·.name==c)=some m)(i:m.path=#[])(d:m.func=some (f,true)){e:TypeId}(j:P.underlying t=some (.pointer e))(k:Nat):
 (method (k+1) t v c).run P w=.ok (f,v) w:=by
 simp only[method,Sem.run_bind,run_typeInfo w g,Result.andThen_ok,h,i,follow,Sem.run_pure,d,receiverAt,Xa j,Place.get]
def Yap{P:Az}(hg:ρ.gl=P.g)(hs:SM w ρ sl a)(hO:OM w ρ ob){op:Op}{nm:String}{t f:Nat}{fl:Option (Nat×Nat×Nat×Bool)}{x:A}{i:List A}(hc:I.Aa P.p op (.Dp nm t f fl x i)=true)
 (h:OA P t f fl (i.map (A.ev sl)) ob K Pn (x.ev sl)):Qc P.p a w ρ op K Pn:=by
 cases op<;>simp only[I.Aa,BF]at hc;rename_i c;obtain⟨ca,as,ts⟩:=c;cases ca<;>(try simp only[BF]at hc);rename_i rc m0;simp only[As,CT]at hc;obtain⟨⟨⟨rfl,h1⟩,h2⟩,b⟩:=hc;have U:=A.Av hs h1;generalize x.ev sl=v at h U;unfold OA at h;split at h
 ·rename_i F id p;obtain⟨rfl,X,hr⟩:=h;rw[Wf (by simp[V.isAgg]) (by simp)]at U;simp only[V.Ac,HY,GK]at U;obtain⟨c,U,j⟩:=U;have N:(V.ptr id p).An w ρ c:=by
   rcases j with j|⟨q,_⟩|⟨_,j⟩
   ·cases j
   ·simp[V.isAgg]at q
   ·exact VF.2 j
  obtain⟨u,rfl⟩:=uk N;have L:∃rv r,(method (P.p.types.size+Made.depth) F (.pointer (some u)) m0).run P.p w=.ok (f,rv) w/\r.An w ρ rv/\AV P f (r::i.map (A.ev sl)) ob (Ef K Pn):=by
   unfold Yt6 at b;split at b
   ·rename_i m J;obtain⟨d,Y,J⟩:∃d,P.p.info? F=some d/\d.methods.find? (·.name==m0)=some m:=by
     cases Y:P.p.info? F with
     |none=>rw[Y]at J;cases J
     |some d=>rw[Y]at J;exact⟨d,rfl,J⟩
    split at b
    ·rename_i g H;simp only[As,CT]at b;obtain⟨⟨rfl,M⟩,az⟩:=b;obtain⟨e,ht⟩:∃e,P.p.underlying F=some (.pointer e):=by revert az;split<;>simp_all
     have M:m.path=#[]:=by simpa[Array.isEmpty_iff]using M
     exact⟨_,_,Yc5 Y J M H ht _,N,hr⟩
    ·rename_i fi fo n ag g H;simp only[As,CT]at b;obtain⟨rfl,b⟩:=b;split at b
     ·rename_i s au;simp only[As,CT]at b;obtain⟨⟨ak,ao⟩,b⟩:=b;split at b
      ·rename_i af R;split at b
       ·rename_i y G;simp only[As,CT,bne_iff_ne,ne_eq]at b;obtain⟨⟨⟨⟨⟨ho,ac⟩,aq⟩,aj⟩,Z⟩,z⟩:=b;simp only[Lj]at hr;let a2:Act:=⟨#[.pointer (some u)],[]⟩
        have ax:SM w ρ [(0,.ptr id p)] a2:=by
         intro k;simp only[Ay];split
         next e=>subst e;exact N
         ·exact Qy
        have al:Jt P.p s.struct fi=some y:=by simp[Jt,R,G]
        obtain⟨v2,y2,ah,av,O⟩:=vx (P:=P.p) (a:=a2) (f:=fi) (fo:=fo) (x:=.t 0) (op:=.fieldAddr s.struct (.tmp 0) fi) ax hO (by simp[C.Aa,al,ho,ac,aq,A.Aa]) (by simpa[A.ev,Ay]using hr)
        have W:=O ⟨none,.fieldAddr s.struct (.tmp 0) fi,0, "", #[],none⟩ rfl w (λ_=>Bv.refl w)
        obtain⟨l,an,rfl⟩:∃l,(fieldPlace u y).run P.p w=.ok l w/\v2=.pointer (some l):=by
         have ea:a2.eval (.tmp 0)=.pointer (some u):=rfl;simp only[execOp,ea,Instr.fieldAt,Sem.run_bind,Xa R,Result.andThen_ok,G,Instr.sureAddr,Sem.run_pure]at W;cases hq:(fieldPlace u y).run P.p w with
         |ok l w'=>simp[hq]at W;exact⟨l,by rw[W.2],W.1.symm⟩
         |halt q w'=>simp[hq]at W
        let a3:Act:=⟨#[.pointer (some l)],[]⟩
        have ay:SM w ρ [(0,y2)] a3:=by
         intro k;simp only[Ay];split
         next e=>subst e;exact av
         ·exact Qy
        obtain⟨v3,y3,ai,aw,Q⟩:=Rx (P:=P.p) (a:=a3) (n:=n) (ag:=ag) (x:=.t 0) (op:=.load y.type (.tmp 0)) ay hO (by simp[C.Aa,ac,z,aj,A.Aa]) (by simpa[A.ev,Ay]using ah)
        have T:=Q ⟨none,.load y.type (.tmp 0),0, "", #[],none⟩ rfl w (λ_=>Bv.refl w)
        have ap:(loadVar y.type l).run P.p w=.ok v3 w:=by
         have ea:a3.eval (.tmp 0)=.pointer (some l):=rfl;simp only[execOp,ea,Instr.loadAt,Sem.run_bind,Instr.sureAddr,Sem.run_pure,Result.andThen_ok]at T;revert T;generalize (loadVar y.type l).run P.p w=a0;intro T;cases a0 with
         |ok x w'=>simp at T;obtain⟨rfl,rfl⟩:=T;rfl
         |halt x w'=>simp at T
        refine⟨v3,y3,?_,aw,ai⟩;subst ao;have hk:P.p.types.size+Made.depth=(P.p.types.size+99)+1:=rfl;rw[hk];generalize P.p.types.size+99=kf;obtain⟨td,ae⟩:=JE.1 z;have aa:∀e,td≠.pointer e:=λe he=>by rw[ae,he]at Z;simp at Z
        have ab:∀wr,(receiverAt y.type (.var l) false wr).run P.p w=.ok v3 w:=by
         intro wr;unfold receiverAt;simp only[Sem.run_bind,Xa ae,Result.andThen_ok];cases td<;>first|exact absurd rfl (aa _)|(simp only[Place.get];exact ap)
        simp only[method,Sem.run_bind,run_typeInfo w Y,Result.andThen_ok,J,au,follow,Xa R,G,ak,Cz,Place.get,Sem.run_pure,asAddr,an,H,ab]
       ·cases b
      ·cases b
     ·cases b
    ·cases b
   ·cases b
  obtain⟨rv,r,q1,q2,q3⟩:=L;refine Q6 hg (args:=rv::as.toList.map a.eval) (λo ho=>?_) q3 hO (by simp only[V.A1];exact⟨_,_,rfl,q2,Zb hs h2⟩);have e0:(#[Value.iface F (.pointer (some u))]++Array.map a.eval as)[0]? = some (.iface F (.pointer (some u))):=by simp[LI]
  have e1:(#[Value.iface F (.pointer (some u))]++Array.map a.eval as).extract 1 (#[Value.iface F (.pointer (some u))]++Array.map a.eval as).size=Array.map a.eval as:=by
   apply Array.ext';simp;exact JI (by simp)
  simp only[execOp,ho,resolve,U,Sem.run_bind,Sem.run_pure,Result.andThen_ok,invoke,e0,e1,callMethod];have hp:∀w,(program).run P.p w=.ok P.p w:=λ_=>rfl;simp only[Sem.run_bind,hp,Result.andThen_ok,q1,Yn X];congr 2;apply Array.ext';simp
 ·cases h
def Yd{id:Nat}{o:RO}:(ρ.BS id o).m id=some o:=by simp[A0.BS]
def xH(n:Nat):∀(r c:Nat),c<=2*n+192->Builtin.growBy n r c<=2*n+192
|0,c,h=>by simpa[Builtin.growBy]using h
|r+1,c,h=>by
 simp only[Builtin.growBy];split
 ·exact h
 ·exact xH n r _ (by omega)
def Xxz{b c:Nat}(h:c<b):Builtin.nextslicecap b c<=2*b+192:=by
 unfold Builtin.nextslicecap;split
 ·omega
 ·split
  ·omega
  ·exact xH b 4 c (by omega)
def X74{m:Nat}{v:V}{x:Value}{K:List D->Prop}(k:v.An w ρ x)(h:JW m K v):
 ∃c d,K c/\Bb w (B2 ρ) c d/\(∀y∈c,y.sz=m)/\(∀b,(Builtin.lenOf x).run P b=.ok c.length b)/\∀b,b.heap=w.heap->(Builtin.firstCells m c.length x).run P b=.ok d.toArray b:=by
 unfold JW at h;split at h
 ·rename_i z c;obtain⟨rfl,h⟩:=h;rw[Yq]at k;rcases k with⟨rfl,rfl⟩|⟨p,q,d,rfl,n,f,i,o⟩
  ·exact⟨[],[],h,by simp[Bb],by simp,λb=>by simp[Builtin.lenOf],λb _=>by simp[Builtin.firstCells]⟩
  ·refine⟨c,d,h,i,o,λb=>by simp[Builtin.lenOf],λb t=>?_⟩;have s:d.length=c.length*z:=by rw[Gf _ _ i,EO _ o]
   simp only[Builtin.firstCells,<-s];exact run_loadCells_list b p d (λj u r=>by
    obtain⟨g,e⟩:=EK.1 r;have l:d≠[]:=by intro h;simp[h]at g
    rw[Addr.Be (f.1 l).1,cell?_congr (w:=w) (w':=b) (by rw[t]),<-e];exact f.2 j g)
 ·rw[W6]at k;subst k;exact⟨[],[],h,by simp[Bb],by simp,λb=>by simp[Builtin.lenOf],λb _=>by simp[Builtin.firstCells]⟩
 ·cases h
structure E5(P:Program)(t t2 E sz B:Nat):Prop where
 u1:P.underlying t=some (.slice E)
 u2:(∃e,P.underlying t2=some (.slice e))\/P.underlying t2=some .string
 Cd:∃i z,P.info? E=some i/\i.size=sz/\i.bytes=B/\i.zero=some z/\z.cells.size=sz
 b0:B≠0
 s0:sz≠0
def yS{t l ty E k B:Nat}(T:E5 P t l E k B){f:Option Addr}{b c n:Nat}{x:Value}{m o:List Value}
 (X:∀e,(Builtin.lenOf x).run P e=.ok n e) (Q:∀e,e.heap=w.heap->(Builtin.firstCells k n x).run P e=.ok o.toArray e)
 (U:∀e,e.heap=w.heap->(Builtin.firstCells k b (.slice f b c)).run P e=.ok m.toArray e) (h:c<b+n) (M:(2*(b+n)+192)*B<=281474976710656):
 ∃d g,b+n<=d/\g.length=(d-(b+n))*k/\
  (Builtin.append_ #[t,l] ty #[.slice f b c,x]).run P w=.ok (.slice (some ⟨w.heap.size,0,none⟩) (b+n) d) (EE {w with drawn:=w.drawn+1} (.cells ((m++o)++g).toArray E)):=by
 obtain⟨i,z,p,G,H,J,L⟩:=T.Cd;have q:X7 P E=some k:=by simp[X7,p,G]
 have r:∀e,(typeInfo E).run P e=.ok i e:=λe=>by simp[typeInfo,p]
 have s:∀e,(zeroValue E).run P e=.ok z e:=λe=>by simp[zeroValue,typeInfo,p,J]
 have j:=Xxz h;have R:Builtin.nextslicecap (b+n) c*B<=281474976710656:=FA (O0 B j) M;have W:(Question.appendCap (b+n) c E).forced=false:=rfl;refine⟨(Question.appendCap (b+n) c E).cut (w.tape w.drawn (.appendCap (b+n) c E)),(Builtin.zeroCells z.cells ((Question.appendCap (b+n) c E).cut (w.tape w.drawn (.appendCap (b+n) c E))-(b+n))).toList,?_,?_,?_⟩
 ·simp[Question.cut]
 ·simp[Builtin.zeroCells,L]
 ·generalize O:(Question.appendCap (b+n) c E).cut (w.tape w.drawn (.appendCap (b+n) c E))=d;unfold Builtin.append_;have v:(#[t,l]:Array TypeId)[0]? = some t:=rfl;have y:(#[t,l]:Array TypeId)[1]? = some l:=rfl;rcases T.u2 with⟨Y,u⟩|u
  all_goals
   simp only[v,y,List.getElem?_toArray,List.getElem?_cons_zero,List.getElem?_cons_succ,Sem.run_bind,Xa T.u1,Xa u,Result.andThen_ok,Xq q,Sem.run_pure,X,BF,Ci,Bool.not_false,Cz];rw[Af (by omega)];have N:¬(Builtin.nextslicecap (b+n) c*B > 2 ^ 48):=by omega
   simp only[N,T.b0,or_self,and_false,Ci,Sem.run_bind,run_choose,W,BF,O,Result.andThen_ok,run_askRoom,r,H,U {w with drawn:=w.drawn+1} rfl,Q {w with drawn:=w.drawn+1} rfl,s,newRow,run_newObj,Sem.run_pure];have F:(m.toArray++o.toArray)++Builtin.zeroCells z.cells (d-(b+n))=((m++o)++(Builtin.zeroCells z.cells (d-(b+n))).toList).toArray:=by apply Array.ext';simp
   rw[F];rfl
def yU{t p ty E e B:Nat}(T:E5 P t p E e B){b c d n:Nat}{x:Value}{j q g:List Value}
 (O:∀h,(Builtin.lenOf x).run P h=.ok n h) (M:∀h,h.heap=w.heap->(Builtin.firstCells e n x).run P h=.ok g.toArray h)
 (L:w.heap[b]? = some (.cells (List.toArray (j++q)) E (0,0))) (r:j.length=c*e) (u:g.length=n*e) (l:(j++q).length=d*e) (m:∀v∈g,v.oneCell'=true) (f:c+n<=d):
 (Builtin.append_ #[t,p] ty #[.slice (some ⟨b,0,none⟩) c d,x]).run P w=.ok (.slice (some ⟨b,0,none⟩) (c+n) d) (w.setRow b ((j++g)++q.drop g.length).toArray):=by
 obtain⟨i,z,N,J,R,U,W⟩:=T.Cd;have s:X7 P E=some e:=by simp[X7,N,J]
 unfold Builtin.append_;have G:(#[t,p]:Array TypeId)[0]? = some t:=rfl;have H:(#[t,p]:Array TypeId)[1]? = some p:=rfl;have y:c*e+n*e<=d*e:=by rw[<-Fz];exact O0 e f
 have o:=run_storeCells_at (P:=P) b (c*e) E g 0 (j++q).toArray w L (by rw[u,List.size_toArray,l];omega) m;have k:(⟨b,0,none⟩:Addr).add (c*e)=⟨b,c*e,none⟩:=by rw[Addr.Be rfl];simp
 rcases T.u2 with⟨Q,F⟩|F
 all_goals
  simp only[G,H,List.getElem?_toArray,List.getElem?_cons_zero,List.getElem?_cons_succ,Sem.run_bind,Xa T.u1,Xa F,Result.andThen_ok,Xq s,Sem.run_pure,O,BF,Ci,Bool.not_false,Cz];rw[BL f];simp only[Sem.run_bind,M w rfl,Result.andThen_ok,k,o,Sem.run_pure];congr 3;rw[Nat.add_zero,<-r];simp[List.drop_append]
def yT{t e l E d B:Nat}(T:E5 P t e E d B){x:Value}
 (k:∀b,(Builtin.lenOf x).run P b=.ok 0 b) (h:∀b,b.heap=w.heap->(Builtin.firstCells d 0 x).run P b=.ok #[] b):
 (Builtin.append_ #[t,e] l #[.slice none 0 0,x]).run P w=.ok (.slice none 0 0) w:=by
 obtain⟨i,z,j,g,n,o,p⟩:=T.Cd;have c:X7 P E=some d:=by simp[X7,j,g]
 unfold Builtin.append_;rcases T.u2 with⟨m,f⟩|f<;>simp[Xa T.u1,Xa f,Xq c,k,h w rfl]
def yR{t t2 ty E m B:Nat}(T:E5 P t t2 E m B)(J:OM w ρ ob){id:Nat}{f ys:List D}{s x:Value}{L:List Value}(hl:AA ob id=some (.A9 E m f))
 (R:(V.sl id f.length).An w ρ s) (X:Bb w (B2 ρ) ys L) (hu:∀y∈ys,y.sz=m)
 (hx:∀d,(Builtin.lenOf x).run P d=.ok ys.length d) (hf:∀d,d.heap=w.heap->(Builtin.firstCells m ys.length x).run P d=.ok L.toArray d)
 (hB:(2*(f.length+ys.length)+192)*B<=281474976710656):
 ∃v d z,(Builtin.append_ #[t,t2] ty #[s,x]).run P w=.ok v d/\Tr w ρ d z/\OM d z (AG ob id (.A9 E m (f++ys)))/\(V.sl id (f.length+ys.length)).An d z v:=by
 rw[Yj]at R;obtain⟨o,g,R⟩:=R;have W:=J.BU id _ hl;have ab:L.length=ys.length*m:=by rw[Gf _ _ X,EO _ hu]
 -- a new row,from whatever was there
 have grow:∀(M:Option Addr)(l:Nat)(G:List Value),s=.slice M f.length l->Bb w (B2 ρ) f G->(∀y∈f,y.sz=m)->
  (∀d,d.heap=w.heap->(Builtin.firstCells m f.length (.slice M f.length l)).run P d=.ok G.toArray d)->l<f.length+ys.length->
  (o=.B4/\f.length=0\/∃b c,o=.A9 b f.length c)->f.length<=l->
  ∃v d z,(Builtin.append_ #[t,t2] ty #[s,x]).run P w=.ok v d/\Tr w ρ d z/\OM d z (AG ob id (.A9 E m (f++ys)))/\(V.sl id (f.length+ys.length)).An d z v:=by
  intro M l G es ag af ad aa ho ac;subst es;obtain⟨F,U,g1,g2,g3⟩:=yS (ty:=ty) T hx hf ad aa hB;have he:Bv w (EE {w with drawn:=w.drawn+1} (.cells ((G++L)++U).toArray E)):=(Om w _).trans (Zj _ _);have Y:Tr w ρ (EE {w with drawn:=w.drawn+1} (.cells ((G++L)++U).toArray E)) (ρ.BS id (.A9 w.heap.size (f.length+ys.length) F)):=by
   refine⟨he.size,λb _ h=>he.keep b h,λb h=>?_,rfl,rfl,λj p O=>?_,he.tape,he.os,he.CO,he.drawn⟩
   ·obtain⟨j,p,H,Z⟩:=h;simp only[A0.BS]at H;split at H
    ·simp at H;subst H;simp[RO.blk?]at Z;exact .inr (by omega)
    ·exact .inl ⟨j,p,H,Z⟩
   ·by_cases ej:j=id
    ·subst ej;refine⟨_,Yd,.grow (n:=f.length) (by omega) ?_⟩;rw[g]at O;simp at O;subst O;exact ho
    ·exact⟨p,by simp[A0.BS,ej,O],.refl p⟩
  refine⟨_,_,_,g3,Y,UH J hl Y (.inr ⟨w.heap.size,F,G++L,U,by simp[A0.BS],Zt _ _,On (Fy Y.mono _ _ ag) (Fy Y.mono _ _ X),?_,?_⟩) (λb hb=>?_) (λj p b hj h2 h3=>he.keep b (Uf J h2 h3)),?_⟩
  ·intro y i;rcases DF.1 i with i|i
   ·exact af y i
   ·exact hu y i
  ·have N:G.length=f.length*m:=by rw[Gf _ _ ag,EO _ af]
   rw[DV,DV,g2,N,ab,<-Fz,<-Fz];congr 1;omega
  ·simp[RO.blk?]at hb;exact .inl (by omega)
  ·rw[Yj];refine⟨_,Yd,?_⟩;exact⟨BV _,⟨_,_,_,rfl⟩,λ_=>rfl⟩
 rcases W with⟨W,rfl⟩|⟨b,q,G,sp,W,h2,h3,h4,h5⟩
 ·-- nothing yet
  rw[g]at W;simp at W;subst W;simp only[RO.slice]at R;obtain⟨_,rfl⟩:=R;by_cases i:ys=[]
  ·subst i;have ai:L=[]:=by simpa using ab
   subst ai;refine⟨_,w,ρ,yT T hx (λd hw=>hf d hw),Tr.refl _ _,?_,?_⟩
   ·refine⟨λj y i=>?_,λj p O=>?_,J.inj,J.D7,J.Dn,J.DT,J.CX.set⟩
    ·rw[Xc ob id j ⟨_,hl⟩]at i;split at i
     next e=>subst e;simp at i;subst i;exact .inl ⟨g,rfl⟩
     ·exact J.BU j y i
    ·rw[Xc ob id j ⟨_,hl⟩];split
     ·exact⟨_,rfl⟩
     ·exact J.D1 j p O
   ·rw[Yj];exact⟨_,g,rfl,rfl⟩
  ·refine grow none 0 [] rfl (by simp[Bb]) (by simp) (λd _=>by simp[Builtin.firstCells]) ?_ (.inl ⟨rfl,rfl⟩) (BV _);cases ys with
   |nil=>exact absurd rfl i
   |cons y r=>simp
 ·rw[g]at W;simp at W;subst W;obtain⟨_,_,R⟩:=R;have R:=R rfl;have N:G.length=f.length*m:=by rw[Gf _ _ h3,EO _ h4]
  have ac:f.length<=q:=by
   have:f.length*m<=q*m:=by rw[<-h5,<-N];simp
   exact QV this (Na T.s0)
  by_cases Q:f.length+ys.length<=q
  ·subst R;have ae:=yU (ty:=ty) T hx hf h2 N ab h5 (Tl ys L X) Q;have Y:Tr w ρ (w.setRow b ((G++L)++sp.drop L.length).toArray) (ρ.BS id (.A9 b (f.length+ys.length) q)):=by
    refine⟨by simp,λj hj _=>setRow_other w b j _ (λe=>hj ?_),λj h=>?_,rfl,rfl,λj p O=>?_,rfl,rfl,rfl,BV _⟩
    ·subst e;exact⟨id,_,g,rfl⟩
    ·obtain⟨k,p,H,Z⟩:=h;simp only[A0.BS]at H;split at H
     ·simp at H;subst H;simp[RO.blk?]at Z;subst Z;exact .inl ⟨id,_,g,rfl⟩
     ·exact .inl ⟨k,p,H,Z⟩
    ·by_cases ej:j=id
     ·subst ej;rw[g]at O;simp at O;subst O;refine⟨_,Yd,?_⟩;cases ys with
      |nil=>exact .refl _
      |cons y r=>exact .grow (n:=f.length) (by simp) (.inr ⟨_,_,rfl⟩)
     ·exact⟨p,by simp[A0.BS,ej,O],.refl p⟩
   refine⟨_,_,_,ae,Y,UH J hl Y (.inr ⟨b,q,G++L,sp.drop L.length,by simp[A0.BS],setRow_heap w b _ _ E _ h2,On (Fy Y.mono _ _ h3) (Fy Y.mono _ _ X),?_,?_⟩) (λb' hb=>?_) (λj p b' hj H Z=>setRow_other w b b' _ (λe=>hj ?_)),?_⟩
   ·intro y i;rcases DF.1 i with i|i
    ·exact h4 y i
    ·exact hu y i
   ·have aj:f.length*m+ys.length*m<=q*m:=by rw[<-Fz];exact O0 m Q
    simp only[DV,List.length_drop]at h5⊢;omega
   ·simp[RO.blk?]at hb;subst hb;exact .inr ⟨_,g,rfl⟩
   ·subst e;exact J.inj j id _ _ _ H g Z rfl
   ·rw[Yj];refine⟨_,Yd,?_⟩;exact⟨BV _,⟨_,_,_,rfl⟩,λ_=>rfl⟩
  ·refine grow (some ⟨b,0,none⟩) q G R h3 h4 (λd hw=>?_) (by omega) (.inr ⟨_,_,rfl⟩) ac;simp only[Builtin.firstCells,<-N];exact run_loadCells_list d _ G (λj u hj=>by
    obtain⟨ah,e⟩:=EK.1 hj;rw[Addr.Be rfl,cell?_congr (w:=w) (w':=d) (by rw[hw])];simp[World.cell?,h2,JH,ah,e])
def dj{t t2 ty E m B:Nat}(T:E5 P t t2 E m B)(J:OM w ρ ob){id:Nat}{f ys:List V}{s x:Value}{L:List Value}(hl:AA ob id=some (.Ao E m f))
 (R:(V.sl id f.length).An w ρ s) (ai:G8 ys=true) (X:Br w ρ ys L) (hu:∀y∈ys,y.size=m)
 (hx:∀d,(Builtin.lenOf x).run P d=.ok ys.length d) (hf:∀d,d.heap=w.heap->(Builtin.firstCells m ys.length x).run P d=.ok L.toArray d)
 (hB:(2*(f.length+ys.length)+192)*B<=281474976710656):
 ∃v d z,(Builtin.append_ #[t,t2] ty #[s,x]).run P w=.ok v d/\Tr w ρ d z/\OM d z (AG ob id (.Ao E m (f++ys)))/\(V.sl id (f.length+ys.length)).An d z v:=by
 rw[Yj]at R;obtain⟨o,g,R⟩:=R;have W:=J.BU id _ hl;have ab:L.length=ys.length*m:=by rw[MM _ _ X,V.BZ,X3 _ hu]
 -- a new row,from whatever was there
 have grow:∀(M:Option Addr)(l:Nat)(G:List Value),s=.slice M f.length l->Br w ρ f G->(∀y∈f,y.size=m)->
  (∀d,d.heap=w.heap->(Builtin.firstCells m f.length (.slice M f.length l)).run P d=.ok G.toArray d)->l<f.length+ys.length->
  (o=.B4/\f.length=0\/∃b c,o=.A9 b f.length c)->f.length<=l->
  ∃v d z,(Builtin.append_ #[t,t2] ty #[s,x]).run P w=.ok v d/\Tr w ρ d z/\OM d z (AG ob id (.Ao E m (f++ys)))/\(V.sl id (f.length+ys.length)).An d z v:=by
  intro M l G es ag af ad aa ho ac;subst es;obtain⟨F,U,g1,g2,g3⟩:=yS (ty:=ty) T hx hf ad aa hB;have he:Bv w (EE {w with drawn:=w.drawn+1} (.cells ((G++L)++U).toArray E)):=(Om w _).trans (Zj _ _);have Y:Tr w ρ (EE {w with drawn:=w.drawn+1} (.cells ((G++L)++U).toArray E)) (ρ.BS id (.A9 w.heap.size (f.length+ys.length) F)):=by
   refine⟨he.size,λb _ h=>he.keep b h,λb h=>?_,rfl,rfl,λj p O=>?_,he.tape,he.os,he.CO,he.drawn⟩
   ·obtain⟨j,p,H,Z⟩:=h;simp only[A0.BS]at H;split at H
    ·simp at H;subst H;simp[RO.blk?]at Z;exact .inr (by omega)
    ·exact .inl ⟨j,p,H,Z⟩
   ·by_cases ej:j=id
    ·subst ej;refine⟨_,Yd,.grow (n:=f.length) (by omega) ?_⟩;rw[g]at O;simp at O;subst O;exact ho
    ·exact⟨p,by simp[A0.BS,ej,O],.refl p⟩
  refine⟨_,_,_,g3,Y,UH J hl Y (.inr ⟨w.heap.size,F,G++L,U,by simp[A0.BS],Zt _ _,Ok (G6 Y _ _ ag) (G6 Y _ _ X),?_,?_⟩) (λb hb=>?_) (λj p b hj h2 h3=>he.keep b (Uf J h2 h3)),?_⟩
  ·intro y i;rcases DF.1 i with i|i
   ·exact af y i
   ·exact hu y i
  ·have N:G.length=f.length*m:=by rw[MM _ _ ag,V.BZ,X3 _ af]
   rw[DV,DV,g2,N,ab,<-Fz,<-Fz];congr 1;omega
  ·simp[RO.blk?]at hb;exact .inl (by omega)
  ·rw[Yj];refine⟨_,Yd,?_⟩;exact⟨BV _,⟨_,_,_,rfl⟩,λ_=>rfl⟩
 rcases W with⟨W,rfl⟩|⟨b,q,G,sp,W,h2,h3,h4,h5⟩
 ·-- nothing yet
  rw[g]at W;simp at W;subst W;simp only[RO.slice]at R;obtain⟨_,rfl⟩:=R;by_cases i:ys=[]
  ·subst i;have aj:L=[]:=by simpa using ab
   subst aj;refine⟨_,w,ρ,yT T hx (λd hw=>hf d hw),Tr.refl _ _,?_,?_⟩
   ·refine⟨λj y i=>?_,λj p O=>?_,J.inj,J.D7,J.Dn,J.DT,J.CX.set⟩
    ·rw[Xc ob id j ⟨_,hl⟩]at i;split at i
     next e=>subst e;simp at i;subst i;exact .inl ⟨g,rfl⟩
     ·exact J.BU j y i
    ·rw[Xc ob id j ⟨_,hl⟩];split
     ·exact⟨_,rfl⟩
     ·exact J.D1 j p O
   ·rw[Yj];exact⟨_,g,rfl,rfl⟩
  ·refine grow none 0 [] rfl (by simp[Br]) (by simp) (λd _=>by simp[Builtin.firstCells]) ?_ (.inl ⟨rfl,rfl⟩) (BV _);cases ys with
   |nil=>exact absurd rfl i
   |cons y r=>simp
 ·rw[g]at W;simp at W;subst W;obtain⟨_,_,R⟩:=R;have R:=R rfl;have N:G.length=f.length*m:=by rw[MM _ _ h3,V.BZ,X3 _ h4]
  have ac:f.length<=q:=by
   have:f.length*m<=q*m:=by rw[<-h5,<-N];simp
   exact QV this (Na T.s0)
  by_cases Q:f.length+ys.length<=q
  ·subst R;have ae:=yU (ty:=ty) T hx hf h2 N ab h5 (ZH ys L ai X) Q;have Y:Tr w ρ (w.setRow b ((G++L)++sp.drop L.length).toArray) (ρ.BS id (.A9 b (f.length+ys.length) q)):=by
    refine⟨by simp,λj hj _=>setRow_other w b j _ (λe=>hj ?_),λj h=>?_,rfl,rfl,λj p O=>?_,rfl,rfl,rfl,BV _⟩
    ·subst e;exact⟨id,_,g,rfl⟩
    ·obtain⟨k,p,H,Z⟩:=h;simp only[A0.BS]at H;split at H
     ·simp at H;subst H;simp[RO.blk?]at Z;subst Z;exact .inl ⟨id,_,g,rfl⟩
     ·exact .inl ⟨k,p,H,Z⟩
    ·by_cases ej:j=id
     ·subst ej;rw[g]at O;simp at O;subst O;refine⟨_,Yd,?_⟩;cases ys with
      |nil=>exact .refl _
      |cons y r=>exact .grow (n:=f.length) (by simp) (.inr ⟨_,_,rfl⟩)
     ·exact⟨p,by simp[A0.BS,ej,O],.refl p⟩
   refine⟨_,_,_,ae,Y,UH J hl Y (.inr ⟨b,q,G++L,sp.drop L.length,by simp[A0.BS],setRow_heap w b _ _ E _ h2,Ok (G6 Y _ _ h3) (G6 Y _ _ X),?_,?_⟩) (λb' hb=>?_) (λj p b' hj H Z=>setRow_other w b b' _ (λe=>hj ?_)),?_⟩
   ·intro y i;rcases DF.1 i with i|i
    ·exact h4 y i
    ·exact hu y i
   ·have ak:f.length*m+ys.length*m<=q*m:=by rw[<-Fz];exact O0 m Q
    simp only[DV,List.length_drop]at h5⊢;omega
   ·simp[RO.blk?]at hb;subst hb;exact .inr ⟨_,g,rfl⟩
   ·subst e;exact J.inj j id _ _ _ H g Z rfl
   ·rw[Yj];refine⟨_,Yd,?_⟩;exact⟨BV _,⟨_,_,_,rfl⟩,λ_=>rfl⟩
  ·refine grow (some ⟨b,0,none⟩) q G R h3 h4 (λd hw=>?_) (by omega) (.inr ⟨_,_,rfl⟩) ac;simp only[Builtin.firstCells,<-N];exact run_loadCells_list d _ G (λj u hj=>by
    obtain⟨ah,e⟩:=EK.1 hj;rw[Addr.Be rfl,cell?_congr (w:=w) (w':=d) (by rw[hw])];simp[World.cell?,h2,JH,ah,e])
def qX{u v:Operand}{t q E k B:Nat}{O:V}{ys:List D}{N:List Value}(T:E5 P t q E k B)(G:O.An w ρ (a.eval u))(z:OM w ρ ob)(e:Ew E k B ob ys K O)
 (j:Bb w (B2 ρ) ys N) (J:∀y∈ys,y.sz=k) (L:∀d,(Builtin.lenOf (a.eval v)).run P d=.ok ys.length d)
 (H:∀d,d.heap=w.heap->(Builtin.firstCells k ys.length (a.eval v)).run P d=.ok N.toArray d):Qc P a w ρ (.call {callee:=.builtin .append,args:=#[u,v],argTypes:=#[t,q] }) K Pn:=by
 have f:∀(d:World)(c:Value)(o:Oper),o.op=.call {callee:=.builtin .append,args:=#[u,v],argTypes:=#[t,q] }->(Builtin.append_ #[t,q] o.type #[a.eval u,a.eval v]).run P w=.ok c d->(execOp a.eval o).run P w=.ok (.value c) d:=by
  intro d c o i U;simp only[execOp,i,resolve,invoke,builtin,Sem.run_bind,Sem.run_pure,Result.andThen_ok,List.map_toArray,Cg,HB,U]
 unfold Ew at e;split at e
 ·rename_i id n;unfold K0 at e;split at e
  ·rename_i Z Y xs p;obtain⟨rfl,rfl,rfl,x,e⟩:=e;intro o i next Q F _
   obtain⟨c,d,g,r,s,l,m⟩:=yR (ty:=o.type) T z p G j J L H x;unfold Dw;rw[f d c o i r];exact F c _ _ d g e m l s
  ·cases e
 ·obtain⟨x,e⟩:=e;have p:=Xo ob;rw[W6]at G;have h:∀b,RO.B4.blk? = some b->w.heap.size<=b:=λb R=>by simp[RO.blk?]at R
  have M:=Vt w (Bv.refl w) (o:=.B4) (z.free p) h;have W:OM w (ρ.BS (fresh ob) .B4) ((fresh ob,.A9 E k [])::ob):=z.BS (Bv.refl w) p h (.inl ⟨Yd,rfl⟩);have X:(V.sl (fresh ob) ([]:List D).length).An w (ρ.BS (fresh ob) .B4) (a.eval u):=by
   rw[Yj];exact⟨_,Yd,rfl,G⟩
  intro o i next Q F _
  obtain⟨c,d,g,r,s,l,m⟩:=yR (ty:=o.type) (ys:=ys) T W (by simp[AA]) X (Fy M.mono _ _ j) J L H (by simpa using x);unfold Dw;rw[f d c o i r];simp only[AG,Cz,List.nil_append,List.length_nil,JG]at l m;exact F c _ _ d g e m l (M.trans s)
 ·cases e
def Yaj(p:SM w ρ sl a)(Y:OM w ρ ob){m:Op}{E f B:Nat}{x y:A}(d:I.Aa P m (.I0 E f B x y)=true)
 (h:JW f (λs=>Ew E f B ob s K (x.ev sl)) (y.ev sl)):Qc P a w ρ m K Pn:=by
 cases m<;>simp only[I.Aa,BF]at d;rename_i c;obtain⟨F,e,ts⟩:=c;cases F<;>(try simp only[BF]at d);rename_i b;cases b<;>(try simp only[BF]at d);split at d
 ·rename_i u v t r G H;simp only[As]at d;obtain⟨⟨⟨⟨Q,j⟩,R⟩,U⟩,W⟩:=d;have J:e=#[u,v]:=by simpa using CK List.toArray G
  have L:ts=#[t,r]:=by simpa using CK List.toArray H
  subst J L;have T:E5 P t r E f B:=by
   cases k:P.info? E with
   |none=>simp[k]at j
   |some i=>
    simp only[k,As,CT,bne_iff_ne,ne_eq]at j;obtain⟨⟨⟨⟨⟨n,o⟩,M⟩,N⟩,O⟩,g⟩:=j;obtain⟨z,q⟩:=JE.1 O;rw[q]at g;simp at g;refine⟨?_,?_,⟨i,z,k,n,o,q,g⟩,by rw[<-o];exact M,by rw[<-n];exact N⟩
    ·revert Q;split<;>simp_all
    ·left;revert R;split<;>simp_all
  have r1:=A.Av p U;have r2:=A.Av p W;obtain⟨s,vs,X,l,hu,hx,Z⟩:=X74 (P:=P) r2 h;exact qX T r1 Y X l hu hx Z
 ·simp at d
def Eh{id E f:Nat}{xs:List D}(h:Qh w ρ id (.A9 E f xs)):Qh w ρ id (.Ao E f (xs.map .d)):=by
 rcases h with⟨e,rfl⟩|⟨b,c,g,o,e,i,j,k,l⟩
 ·exact .inl ⟨e,rfl⟩
 ·refine .inr ⟨b,c,g,o,by simpa using e,i,(JD _ _).2 j,λx m=>?_,l⟩;obtain⟨y,n,rfl⟩:=C9.1 m;simp[V.size,V.shape,CC,k y n]
def Ydt{l:Nat}{v:V}{x:Value}{K:List V->Prop}(T:OM w ρ ob)(g:v.An w ρ x)(h:M5 l K ob v):
 ∃c i,K c/\Br w ρ c i/\G8 c=true/\(∀y∈c,y.size=l)/\(∀f,(Builtin.lenOf x).run P f=.ok c.length f)/\∀f,f.heap=w.heap->(Builtin.firstCells l c.length x).run P f=.ok i.toArray f:=by
 have H:∀{c:List D}{i:List Value},Bb w (B2 ρ) c i->(∀y∈c,y.sz=l)->Br w ρ (c.map .d) i/\G8 (c.map .d)=true/\∀y∈c.map V.d,y.size=l:=by
  intro c i k t;refine⟨(JD _ _).2 k,?_,λy hy=>?_⟩
  ·clear k t;induction c with
   |nil=>rfl
   |cons y r O=>simp[G8,V.Eu,O]
  ·obtain⟨z,hz,rfl⟩:=C9.1 hy;simp[V.size,V.shape,CC,t z hz]
 have B2:∀{id:Nat}{E:Nat}{c:List V},Qh w ρ id (.Ao E l c)->(V.sl id c.length).An w ρ x->G8 c=true->K c->
  ∃c i,K c/\Br w ρ c i/\G8 c=true/\(∀y∈c,y.size=l)/\(∀f,(Builtin.lenOf x).run P f=.ok c.length f)/\∀f,f.heap=w.heap->(Builtin.firstCells l c.length x).run P f=.ok i.toArray f:=by
  intro id E c F g p m;rw[Yj]at g;obtain⟨o,s,g⟩:=g;rcases F with⟨k,rfl⟩|⟨b,U,G,sp,k,t,Q,R,h5⟩
  ·rw[s]at k;simp at k;subst k;obtain⟨_,rfl⟩:=g;exact⟨[],[],m,by simp[Br],rfl,by simp,λf=>by simp[Builtin.lenOf],λf _=>by simp[Builtin.firstCells]⟩
  ·rw[s]at k;simp at k;subst k;have hx:=g.2.2 rfl;subst hx;refine⟨c,G,m,Q,p,R,λf=>by simp[Builtin.lenOf],λf N=>?_⟩;have J:G.length=c.length*l:=by rw[MM _ _ Q,V.BZ,X3 _ R]
   simp only[Builtin.firstCells,<-J];exact run_loadCells_list f _ G (λj u hj=>by
    obtain⟨L,e⟩:=EK.1 hj;rw[Addr.Be rfl,cell?_congr (w:=w) (w':=f) (by rw[N])];simp[World.cell?,t,JH,L,e])
 unfold M5 at h;split at h
 next z c=>obtain⟨aa,i,m,M,hu,q,Z⟩:=X74 (P:=P) (K:=λc=>K (c.map .d)) g (by simpa only[JW]using h);obtain⟨W,X,Y⟩:=H M hu;exact⟨_,i,m,W,X,Y,λf=>by simpa using q f,λf N=>by simpa using Z f N⟩
 ·rw[W6]at g;subst g;exact⟨[],[],h,by simp[Br],rfl,by simp,λf=>by simp[Builtin.lenOf],λf _=>by simp[Builtin.firstCells]⟩
 ·rename_i id n;rcases h with⟨E,c,q,rfl,p,m⟩|⟨E,c,q,rfl,m⟩
  ·exact B2 (T.BU id _ q) g p m
  ·have F:Qh w ρ id (.Ao E l (c.map .d)):=Eh (T.BU id _ q);refine B2 F (by simpa using g) ?_ m;clear F q g m;induction c with
   |nil=>rfl
   |cons y r O=>simp[G8,V.Eu,O]
 ·cases h
def Yh7{u v:Operand}{t L E H B:Nat}{Z:V}{ys:List V}{Y:List Value}(T:E5 P t L E H B)(J:Z.An w ρ (a.eval u))(z:OM w ρ ob)(f:Hp E H B ob ys K Z)
 (p:G8 ys=true) (m:Br w ρ ys Y) (R:∀y∈ys,y.size=H) (U:∀e,(Builtin.lenOf (a.eval v)).run P e=.ok ys.length e)
 (N:∀e,e.heap=w.heap->(Builtin.firstCells H ys.length (a.eval v)).run P e=.ok Y.toArray e):Qc P a w ρ (.call {callee:=.builtin .append,args:=#[u,v],argTypes:=#[t,L] }) K Pn:=by
 have g:∀(e:World)(c:Value)(o:Oper),o.op=.call {callee:=.builtin .append,args:=#[u,v],argTypes:=#[t,L] }->(Builtin.append_ #[t,L] o.type #[a.eval u,a.eval v]).run P w=.ok c e->(execOp a.eval o).run P w=.ok (.value c) e:=by
  intro e c o l hr;simp only[execOp,l,resolve,invoke,builtin,Sem.run_bind,Sem.run_pure,Result.andThen_ok,List.map_toArray,Cg,HB,hr]
 unfold Hp at f;split at f
 ·rename_i id n;unfold Mf at f;split at f
  ·rename_i M q W i;obtain⟨rfl,rfl,rfl,x,f⟩:=f;intro o l next Q G _
   obtain⟨c,e,h,r,s,j,k⟩:=dj (ty:=o.type) T z i J p m R U N x;unfold Dw;rw[g e c o l r];exact G c _ _ e h f k j s
  ·rename_i M q W i;obtain⟨rfl,rfl,rfl,x,f⟩:=f;have o2:=z.swap i (Eh (z.BU id _ i));have O:AA (AG ob id (.Ao M q (W.map .d))) id=some (.Ao M q (W.map .d)):=by rw[Xc ob id id ⟨_,i⟩];simp
   intro o l next Q G _
   obtain⟨c,e,h,r,s,j,k⟩:=dj (ty:=o.type) T o2 O (by simpa using J) p m R U N (by simpa using x);rw[X4]at j;rw[List.length_map]at k;unfold Dw;rw[g e c o l r];exact G c _ _ e h f k j s
  ·cases f
 ·obtain⟨x,f⟩:=f;have i:=Xo ob;rw[W6]at J;have F:∀b,RO.B4.blk? = some b->w.heap.size<=b:=λb hb=>by simp[RO.blk?]at hb
  have X:=Vt w (Bv.refl w) (o:=.B4) (z.free i) F;have o1:OM w (ρ.BS (fresh ob) .B4) ((fresh ob,.Ao E H [])::ob):=z.BS (Bv.refl w) i F (.inl ⟨Yd,rfl⟩);have q1:(V.sl (fresh ob) ([]:List V).length).An w (ρ.BS (fresh ob) .B4) (a.eval u):=by
   rw[Yj];exact⟨_,Yd,rfl,J⟩
  intro o l next Q G _
  obtain⟨c,e,h,r,s,j,k⟩:=dj (ty:=o.type) (ys:=ys) T o1 (by simp[AA]) q1 p (G6 X _ _ m) R U N (by simpa using x);unfold Dw;rw[g e c o l r];simp only[AG,Cz,List.nil_append,List.length_nil,JG]at j k;exact G c _ _ e h f k j (X.trans s)
 ·cases f
def Yak(r:SM w ρ sl a)(q:OM w ρ ob){n:Op}{E f B:Nat}{x y:A}(d:I.Aa P n (.F7 E f B x y)=true)
 (h:M5 f (λG=>Hp E f B ob G K (x.ev sl)) ob (y.ev sl)):Qc P a w ρ n K Pn:=by
 cases n<;>simp only[I.Aa,BF]at d;rename_i c;obtain⟨H,e,ts⟩:=c;cases H<;>(try simp only[BF]at d);rename_i b;cases b<;>(try simp only[BF]at d);split at d
 ·rename_i u v t F J L;simp only[As]at d;obtain⟨⟨⟨⟨U,j⟩,W⟩,X⟩,Y⟩:=d;have M:e=#[u,v]:=by simpa using CK List.toArray J
  have N:ts=#[t,F]:=by simpa using CK List.toArray L
  subst M N;have T:E5 P t F E f B:=by
   cases k:P.info? E with
   |none=>simp[k]at j
   |some i=>
    simp only[k,As,CT,bne_iff_ne,ne_eq]at j;obtain⟨⟨⟨⟨⟨o,p⟩,O⟩,Q⟩,R⟩,g⟩:=j;obtain⟨z,s⟩:=JE.1 R;rw[s]at g;simp at g;refine⟨?_,?_,⟨i,z,k,o,p,s,g⟩,by rw[<-p];exact O,by rw[<-o];exact Q⟩
    ·revert U;split<;>simp_all
    ·left;revert W;split<;>simp_all
  have r1:=A.Av r X;have r2:=A.Av r Y;obtain⟨G,vs,Z,l,m,hu,hx,hf⟩:=Ydt (P:=P) q r2 h;exact Yh7 T r1 q Z m l hu hx hf
 ·simp at d
def wP(s:List UInt8):∀x∈A2 s,x.sz=1:=by
 induction s with
 |nil=>simp[A2]
 |cons b r c=>simp only[A2,DA];rintro x (rfl|h);exact rfl;exact c x h
def W0(s:List UInt8):(A2 s).length=s.length:=by
 induction s with
 |nil=>rfl
 |cons b r c=>simp[A2,c]
def Q4{d:Nat->Prop}:∀(s:List UInt8)(c:List Value),Bb w d (A2 s) c↔c=s.map λb=>.int .u8 b.toNat
|[],c=>by simp[A2,Bb]
|b::r,c=>by
 simp only[A2,Bb,D.An,Cg,Q4 r];constructor
 ·rintro⟨e,f,rfl,rfl,rfl⟩;rfl
 ·rintro rfl;exact⟨_,_,rfl,rfl,rfl⟩
def X1f(o:SM w ρ sl a)(X:OM w ρ ob){l:Op}{E B:Nat}{x y:A}(e:I.Aa P l (.ER E B x y)=true)
 (h:Lm (λys=>Ew E 1 B ob ys K (x.ev sl)) (y.ev sl)):Qc P a w ρ l K Pn:=by
 cases l<;>simp only[I.Aa,BF]at e;rename_i c;obtain⟨r,f,Z⟩:=c;cases r<;>(try simp only[BF]at e);rename_i b;cases b<;>(try simp only[BF]at e);split at e
 ·rename_i u v t q F G;simp only[As]at e;obtain⟨⟨⟨⟨Q,j⟩,R⟩,U⟩,W⟩:=e;have J:f=#[u,v]:=by simpa using CK List.toArray F
  have L:Z=#[t,q]:=by simpa using CK List.toArray G
  subst J L;have T:E5 P t q E 1 B:=by
   cases k:P.info? E with
   |none=>simp[k]at j
   |some i=>
    simp only[k,As,CT,bne_iff_ne,ne_eq]at j;obtain⟨⟨⟨⟨M,n⟩,N⟩,O⟩,g⟩:=j;obtain⟨z,p⟩:=JE.1 O;rw[p]at g;simp at g;refine⟨?_,?_,⟨i,z,k,M,n,p,g⟩,by rw[<-n];exact N,by omega⟩
    ·revert Q;split<;>simp_all
    ·right;revert R;split<;>simp_all
  have Y:=A.Av o U;have m:=A.Av o W;unfold Lm at h;split at h
  ·rename_i s H;rw[H,B7]at m;have d:(A2 s).length=s.length:=W0 s;refine qX T Y X h ((Q4 s _).2 rfl) (wP s) (λw'=>?_) (λw' _=>?_)
   ·rw[m,d];simp[Builtin.lenOf,UR]
   ·rw[m,d];simp only[Builtin.firstCells,Sem.run_pure];congr 1;apply Array.ext';simp[ByteArray.data_extract]
  ·cases h
 ·simp at e
def Yan(hs:SM w ρ sl a)(z:OM w ρ ob){Q:Op}{x:A}(F:I.Aa P Q (.Hy x)=true)(h:JJ ob K (x.ev sl)):Qc P a w ρ Q K Pn:=by
 cases Q<;>simp only[I.Aa,BF]at F;rename_i s t y;simp only[As,CT]at F;obtain⟨⟨rfl,u⟩,p⟩:=F;have r:=A.Av hs p;obtain⟨e,N,he⟩:∃e,P.underlying s=some (.slice e)/\P.underlying e=some (.int .u8):=by
  cases q:P.underlying s with
  |none=>simp[q]at u
  |some d=>
   cases d<;>simp[q]at u;rename_i e;refine⟨e,rfl,?_⟩;revert u;split<;>simp_all
 unfold JJ at h;split at h
 ·rename_i id n Z;unfold LW at h;split at h
  ·rename_i E R T J;obtain⟨k,rfl,L,hK⟩:=h;rw[Z]at r;have r3:=Ro z J k r;rw[Yj]at r;obtain⟨o,g,hv⟩:=r;rcases z.BU id _ J with⟨m,rfl⟩|⟨b,c,f,l,m,p,U,W,h5⟩
   ·exact absurd rfl L
   ·rw[g]at m;simp at m;subst m;have q:=hv.2.2 rfl;have hw:∃w2,w2.heap.size=w.heap.size/\(∀j,j≠b->w2.heap[j]? = w.heap[j]?)/\w2.heap[b]? = some (.cells (List.toArray (f++l)) E ((f++l).length,(f++l).length+1))/\w2.tape=w.tape/\w2.os=w.os/\w2.output=w.output/\w2.drawn=w.drawn/\(markStringish ⟨b,0,none⟩).run P w=.ok () w2:=by
     have O:w.shape? b=some (E,(f++l).length):=by simp[World.shape?,p]
     refine⟨w.freeze ⟨b,(f++l).length,none⟩ 1,by simp[World.freeze],λj H=>?_,?_,rfl,rfl,rfl,rfl,?_⟩
     ·simp only[World.freeze];simp[Nb,Ne.symm H]
     ·simp only[World.freeze];simp[Nb,p]
     ·simp only[markStringish,Sem.run_bind,run_shape,O,Result.andThen_ok,run_freeze]
    obtain⟨w2,q1,q2,X,q4,q5,q6,q8,q7⟩:=hw;obtain⟨Y,o1,M⟩:=UE z (w2:=w2) ⟨_,J⟩ q1 (λj H=>q2 j (λe=>H _ g (by rw[e];rfl))) q4 q5 q6 (by rw[q8];exact BV _);refine Xl (v:=.slice (some ⟨b,0,none⟩) T.length c) (λo ho=>?_) hK ?_ o1 Y
    ·simp only[execOp,ho,q,convert,Sem.run_bind,Xa N,Result.andThen_ok,beq_self_eq_true,Xa he,q7,Sem.run_pure]
    ·rw[Yq];refine .inr ⟨_,c,f,rfl,?_,⟨λ_=>⟨rfl,M b _ g rfl,Xi X⟩,λi hi=>?_⟩,Fy Y.mono _ _ U,W⟩
     ·have G:f.length=T.length*R:=by rw[Gf _ _ U,EO _ W]
      have:T.length*R<=c*R:=by rw[<-h5,<-G];simp
      exact QV this (Na k)
     ·simp[World.cell?,X,JH,hi]
  ·cases h
 ·cases h
def X1j(Z:SM w ρ sl a)(M:OM w ρ ob){U:Op}{E:Nat}{x y:A}(f:I.Aa P U (.EY E x y)=true)(h:IK E ob K (x.ev sl) (y.ev sl)):Qc P a w ρ U K Pn:=by
 cases U<;>simp only[I.Aa,BF]at f;rename_i c;obtain⟨ca,args,ts⟩:=c;cases ca<;>(try simp only[BF]at f);rename_i b;cases b<;>(try simp only[BF]at f);split at f
 ·rename_i u v t G e1 e2;have ea:args=#[u,v]:=by simpa using CK List.toArray e1
  have et:ts=#[t,G]:=by simpa using CK List.toArray e2
  subst ea et;simp only[As]at f;obtain⟨⟨k,l⟩,r⟩:=f;have z:=A.Av Z l;have F:=A.Av Z r;obtain⟨hp,N⟩:P.underlying t=some (.pointer E)/\P.cellsOf E=1:=by
   split at k
   next e he=>simp only[As,CT]at k;obtain⟨rfl,k⟩:=k;exact⟨he,k⟩
   ·simp at k
  have d:∀(W:World)(i:Value)(o:Oper),o.op=.call {callee:=.builtin .unsafeString,args:=#[u,v],argTypes:=#[t,G] }->(Builtin.unsafeString_ #[t,G] o.type #[a.eval u,a.eval v]).run P w=.ok i W->(execOp a.eval o).run P w=.ok (.value i) W:=by
   intro W i o p hr;simp only[execOp,p,resolve,invoke,builtin,Sem.run_bind,Sem.run_pure,Result.andThen_ok,List.map_toArray,Cg,HB,hr]
  unfold IK at h;split at h
  ·rename_i id n m H J;unfold LS at h;split at h
   ·rename_i E' sz xs Y;obtain⟨rfl,rfl,rfl,rfl,ab,g,s,rfl,L⟩:=h;rw[H,Ygo]at z;rw[J,X1]at F;obtain⟨o,q,hv⟩:=z;have T:s≠[]:=by intro e;subst e;exact g rfl
    rcases M.BU id _ Y with⟨l,hx⟩|⟨b,aa,cs,sp,l,r,X,h4,h5⟩
    ·exact absurd hx g
    ·rw[q]at l;simp at l;subst l;have hu:=hv.2.2 rfl (by simpa using g);rw[Q4]at X;subst X;have R:(A2 s).length=s.length:=W0 s;obtain⟨t1,o1,ac⟩:=UE M (w2:=w.freeze ⟨b,0,none⟩ s.length) ⟨_,Y⟩ (by unfold World.freeze;split<;>simp) (λj O=>by
      have:b≠j:=λe=>O _ q (by rw[e];rfl);unfold World.freeze;split
      ·rfl
      ·simp[Nb,this]) (by unfold World.freeze;split<;>rfl) (by unfold World.freeze;split<;>rfl) (by unfold World.freeze;split<;>rfl) (by unfold World.freeze;split<;>exact BV _)
     refine Xl (v:=.string ⟨s.toArray⟩) (λo p=>d _ _ o p ?_) L (B7.2 rfl) o1 t1;rw[hu,F,R];exact Lib.run_unsafeString_row (P:=P) (w:=w) t G _ E' hp N b ((s.map λb=>Value.int .u8 b.toNat)++sp).length (by simp[World.shape?,r]) s T (by simp) (by omega) (λj x O=>by
      obtain⟨Q,e⟩:=EK.1 O;rw[Addr.Be rfl];simp[World.cell?,r,JH,Q,e])
   ·cases h
  next m H J=>obtain⟨rfl,L⟩:=h;rw[H,fm]at z;rw[J,X1]at F;refine Xl (v:=.string .empty) (λo p=>d _ _ o p ?_) L (B7.2 rfl) M (Tr.refl _ _);rw[z,F];exact Lib.run_unsafeString_none _ _ _ _ _
  ·cases h
 ·simp at f
def yQ(hs:SM w ρ sl a)(O:OM w ρ ob){N:Op}{x:A}(R:I.Aa P N (.HQ x)=true)(h:Lz (λv=>K v ob) (x.ev sl)):IM P a w ρ N ob K:=by
 cases N<;>simp[I.Aa]at R;rename_i s t y;obtain⟨⟨Z,F⟩,h2⟩:=R;have W:=A.Av hs h2;have L:P.underlying s=some .string:=by revert Z;split<;>simp_all
 obtain⟨e,ht,he⟩:∃e,P.underlying t=some (.slice e)/\P.underlying e=some (.int .u8):=by
  cases U:P.underlying t with
  |none=>simp[U]at F
  |some d=>
   cases d<;>simp[U]at F;rename_i e;refine⟨e,rfl,?_⟩;revert F;split<;>simp_all
 unfold Lz at h;split at h
 ·rename_i f X;rw[X,B7]at W;have hq:(Question.appendCap f.length 0 e).forced=false:=rfl;generalize l:(Question.appendCap f.length 0 e).cut (w.tape w.drawn (.appendCap f.length 0 e))=c;have H:f.length<=c:=by rw[<-l];simp[Question.cut]
  let k:List Value:=(f.map λb=>Value.int .u8 b.toNat)++List.replicate (c-f.length) (.int .u8 0);let n:World:=EE {w with drawn:=w.drawn+1} (.cells k.toArray e);have r:k.length=c:=by simp[k];omega
  have g:Bv w n:=(Om w _).trans (Zj _ _);have T:n.heap[w.heap.size]? = some (.cells k.toArray e (0,0)):=Zt _ _;let m:World:=n.freeze ⟨w.heap.size,c,none⟩ 1;have u:m.heap[w.heap.size]? = some (.cells k.toArray e (c,c+1)):=by
   simp only[m,World.freeze];simp[Nb,T]
  have z:m.heap.size=n.heap.size:=by simp[m,World.freeze]
  have G:Bv w m:=by
   refine⟨by rw[z];exact g.size,λb Q=>?_,g.tape,g.os,g.CO,g.drawn⟩;rw[<-g.keep b Q];simp only[m,World.freeze];simp[Nb,Nat.ne_of_gt Q]
  refine⟨.slice (some ⟨w.heap.size,0,none⟩) f.length c,_,m,h,Yq.2 (.inr ⟨⟨w.heap.size,0,none⟩,c,f.map λb=>Value.int .u8 b.toNat,by rw[W0],by rw[W0];exact H,⟨λ_=>⟨rfl,?_,Xi u⟩,λi hi=>?_⟩,(Q4 f _).2 rfl,wP f⟩),G,λo ho=>?_⟩
  rotate_left 2
  ·simp only[execOp,ho,W,convert,Sem.run_bind,Xa L,Xa ht,Result.andThen_ok,Xa he,Conv.stringToBytes,UR,run_choose,hq,BF,Ci,l,newRow,run_newObj,Sem.run_pure];have Y:Array.map (λb:UInt8=>Value.int IntKind.u8 b.toNat) (ByteArray.mk f.toArray).data++Array.replicate (c-f.length) (Value.int IntKind.u8 0)=k.toArray:=by
    apply Array.ext';simp[k]
   rw[Y];have M:n.shape? w.heap.size=some (e,c):=by simp[World.shape?,T,r]
   have hm:(markStringish ⟨w.heap.size,0,none⟩).run P n=.ok () m:=by
    simp only[markStringish,Sem.run_bind,run_shape,M,Result.andThen_ok,run_freeze];rfl
   show((Sem.run P (markStringish ⟨w.heap.size,0,none⟩) n).andThen _).andThen _=_;rw[hm];simp
  ·rintro (⟨j,p,q1,q2⟩|q)
   ·have:=Uf O q1 q2;simp at this
   ·have:=O.D7 _ q;simp at this
  ·have J:i<f.length:=by simpa using hi
   simp[World.cell?,u,k,JH,J]
 ·cases h
def X1i(n:SM w ρ sl a)(f:OM w ρ ob){d:Op}{E e:Nat}{x:A}(g:I.Aa P d (.ET E e x)=true)(h:Li E e ob K (x.ev sl)):Qc P a w ρ d K Pn:=by
 unfold Li at h;split at h
 ·rename_i k;have i:=Xo ob;have c:∀b,RO.B4.blk? = some b->w.heap.size<=b:=λb l=>by simp[RO.blk?]at l
  have q:=Vt w (Bv.refl w) (o:=.B4) (f.free i) c;have p:OM w (ρ.BS (fresh ob) .B4) ((fresh ob,.A9 E e [])::ob):=f.BS (Bv.refl w) i c (.inl ⟨Yd,rfl⟩);cases d<;>simp[I.Aa]at g
  all_goals
   have j:=A.Av n g;rw[k,W6]at j;exact Xl (λo m=>by simp[execOp,m]) h (Yj.2 ⟨.B4,Yd,⟨rfl,j⟩⟩) p q
 ·cases h
def Yat(q:SM w ρ sl a)(p:OM w ρ ob){e:Op}{r:Option A}(b:I.Aa P e (.HP r)=true)(h:Ko sl r/\K (.mp (fresh ob)) ((fresh ob,.map [])::ob)):Qc P a w ρ e K Pn:=by
 cases e<;>simp only[I.Aa,BF]at b;rename_i t c;simp only[As]at b;obtain⟨d,m⟩:=h;obtain⟨i,f,s⟩:∃i f,P.underlying t=some (.map i f):=by
  have:=b.1;revert this;split<;>simp_all
 obtain⟨z,u,v⟩:=Ym8 p (Xo ob);refine Xl (λo g=>?_) m v u z;cases c with
 |none=>
  simp only[execOp,g,Option.map_none,Instr.makeMap,Sem.run_bind,run_newObj,Result.andThen_ok,Sem.run_pure];rfl
 |some x=>
  cases r with
  |none=>simp[FU]at b
  |some y=>
   simp only[FU]at b;have j:=A.Av q b.2;simp only[Ko]at d;unfold SG at d;split at d
   next k n l=>rw[l,X1]at j;simp only[execOp,g,Option.map_some,Instr.makeMap,Sem.run_bind,Xa s,run_newObj,Result.andThen_ok,Sem.run_pure,j,asInt];rfl
   ·cases d
def Xwx{x y:D}(h:LD x y=true):∃u v,x.Fp=some u/\y.Fp=some v:=by
 unfold LD at h;split at h<;>first|exact⟨_,_,rfl,rfl⟩|cases h
def vJ:∀{d e:List D},Ww d e=true->∃b c,Vm d=some b/\Vm e=some c
|[],[],_=>⟨[],[],rfl,rfl⟩
|x::r,y::s,h=>by
 simp only[Ww,As]at h;obtain⟨u,v,f,g⟩:=Xwx h.1;obtain⟨b,c,i,j⟩:=vJ h.2;exact⟨u::b,v::c,by simp only[Vm,f,i],by simp only[Vm,g,j]⟩
|[],_::_,h=>by cases h
|_::_,[],h=>by cases h
def di{k j:D}(h:Dy k j=true):∃u v,k.key=some u/\j.key=some v:=by
 unfold Dy at h;split at h<;>first|exact⟨_,_,rfl,rfl⟩|(cases h;done)|skip
 obtain⟨d,e,b,c⟩:=vJ h;exact⟨.agg d.toArray,.agg e.toArray,by simp only[D.key,b,XD],by simp only[D.key,c,XD]⟩
def D.NF:D->Bool
|.agg _=>false
|_=>true
def Xqi{b:TypeDesc}{k:D}(h:Qw b k=true):k.NF=true:=by
 unfold Qw at h;split at h<;>first|rfl|cases h
def vr{d:TypeDesc}{c k:D}(h:Qw d c=true)(b:Dy c k=true):Qw d k=true:=by
 unfold Qw at h;split at h
 ·cases k<;>simp[Dy]at b<;>rfl
 ·cases k<;>simp[Dy]at b<;>rfl
 ·cases k<;>simp[Dy]at b<;>rfl
 ·cases h
def Xx4{c:TypeDesc}{k j:D}{u v:Value}(e:Qw c k=true)(d:Dy k j=true)(f:k.key=some u)(g:j.key=some v):Instr.sameNow c u v=some (C8 k j):=by
 have b:=Xqi e;cases k<;>simp only[D.NF,BF]at b<;>cases j<;>simp only[Dy,BF,Bs]at d<;>simp only[D.key,Bu]at f g<;>subst f<;>subst g<;>cases c<;>simp only[Qw,BF]at e
 ·subst d;simp[Instr.sameNow,C8]
 ·simp[Instr.sameNow,C8]
 next s t=>simp only[Instr.sameNow,C8,Bu];rw[beq_toListBytes,xv,xv]
def X7h:∀{b c:List D}{d e:List Value},Ww b c=true->D.B8 b c=true->Vm b=some d->Vm c=some e->e=d:=by
 intro b c d e _ h f g;rw[D.By _ _ h]at f;rw[f]at g;exact(FQ g).symm
def fp{k j:D}{u v:Value}(d:Dy k j=true)(e:C8 k j=true)(b:k.key=some u)(c:j.key=some v):v=u:=by
 cases k<;>cases j<;>simp only[Dy,BF,Bs]at d<;>simp only[C8,CT]at e<;>simp only[D.key,Bu]at b c
 ·rw[<-b,<-c];simp_all
 ·rw[<-b,<-c];simp_all
 ·rw[<-b,<-c];simp_all
 ·obtain⟨h,f,rfl⟩:=Y6 b;obtain⟨i,g,rfl⟩:=Y6 c;rw[X7h d e f g]
def Ycq{x y:D}{u:Value}(c:x.Fp=some u)(b:y.Fp=some u)(d:LD x y=true):D.Bg x y=true:=by
 cases x<;>cases y<;>simp only[LD,BF,Bs]at d<;>simp only[D.Fp,Bu]at c b<;>rw[<-c]at b
 ·simp only[Value.int.injEq]at b;simp[D.Bg,b.1,b.2]
 ·simp only[Value.bool.injEq]at b;simp[D.Bg,b]
 ·simp only[Value.string.injEq,ByteArray.mk.injEq]at b;have b:=CK Array.toList b;simp only[List.toList_toArray]at b;simp[D.Bg,b]
def xN:∀{f g:List D}{e:List Value},Vm f=some e->Vm g=some e->Ww f g=true->D.B8 f g=true
|[],[],_,_,_,_=>rfl
|x::r,y::s,e,b,c,d=>by
 simp only[Ww,As]at d;simp only[Vm]at b c;split at b
 ·rename_i o m i j;split at c
  next p n k l=>cases b;cases c;simp only[D.B8,As];exact⟨Ycq i k d.1,xN j l d.2⟩
  ·cases c
 ·cases b
|[],_::_,_,_,_,h=>by cases h
|_::_,[],_,_,_,h=>by cases h
def gd{k j:D}{u:Value}(c:k.key=some u)(b:j.key=some u)(e:Dy k j=true):C8 k j=true:=by
 cases k<;>cases j<;>simp only[Dy,BF,Bs]at e<;>simp only[D.key,Bu]at c b
 ·rw[<-c]at b;simp only[Value.int.injEq]at b;simp[C8,b.2]
 ·rw[<-c]at b;simp only[Value.bool.injEq]at b;simp[C8,b]
 ·rw[<-c]at b;simp only[Value.string.injEq,ByteArray.mk.injEq]at b;have b:=CK Array.toList b;simp only[List.toList_toArray]at b;simp[C8,b]
 ·obtain⟨h,f,rfl⟩:=Y6 c;obtain⟨i,g,d⟩:=Y6 b;have d:h=i:=by simpa using d
  subst d;exact xN f g e
def zD{e:MapEntry}{l:List MapEntry}{u:Value}{j:Nat}(h:∀i,i<j->∀b,l[i]? = some b->b.key≠u)(d:e.key≠u):∀i,i<j+1->∀b,(e::l)[i]? = some b->b.key≠u
|0,_,b,c=>by simp at c;subst c;exact d
|i+1,f,b,c=>h i (by omega) b (by simpa using c)
def rj{q:TypeDesc}{k:D}{u:Value}(g:Qw q k=true)(m:k.key=some u):∀(f:List (D×V)) (l:List MapEntry) (i:Nat),X6 w ρ f l->(∀e∈f,Dy k e.1=true)->
 (Yh k f=none/\Instr.findNow q u l i=some none)\/∃v j e,Yh k f=some v/\Instr.findNow q u l i=some (some (i+j,e.val))/\l[j]? = some e/\v.An w ρ e.val/\e.key=u/\∀i,i<j->∀d,l[i]? = some d->d.key≠u
|[],l,i,h,_=>by
 simp only[X6]at h;subst h;exact .inl ⟨rfl,rfl⟩
|(j,v)::r,l,i,h,s=>by
 obtain⟨e,N,rfl,p,G,H⟩:=h;have b:=s (j,v) (by simp);have J:=Xx4 g b m p;simp only[Instr.findNow,Yh,J];cases c:C8 k j with
 |true=>
  exact .inr ⟨v,0,e,by simp,by simp,by simp,G,fp b c m p,λ_ h=>(by omega)⟩
 |false=>
  rcases rj g m r N (i+1) H (λx L=>s x (by simp[L])) with⟨n,o⟩|⟨O,M,d,n,o,t,y,z,F⟩
  ·exact .inl ⟨by simpa using n,by simpa using o⟩
  ·exact .inr ⟨O,M+1,d,by simpa using n,by simp only[o];congr 3;omega,by simpa using t,y,z,zD F λg=>by rw[gd m (by rw[p,g]) b]at c;cases c⟩
def u7{b:TypeId}{c:TypeDesc}(e:P.underlying b=some c){u:Value}{l:List MapEntry}{r:Option (Nat×Value)}(h:Instr.findNow c u l 0=some r)(d:World):(Instr.findKey b u l).run P d=.ok r d:=by
 simp[Instr.findKey,Xa e,h]
def Xml{d:TypeId}{e:TypeDesc}(g:P.underlying d=some e){k:D}(c:Qw e k=true)(u:Value)(b:Bool)(f:World):(Instr.checkKey b 10000 d u).run P f=.ok () f:=by
 unfold Instr.checkKey;simp only[Sem.run_bind,Xa g,Result.andThen_ok];unfold Qw at c;split at c<;>first|(cases c;done)|simp
def VP:∀{c d:List D},Ww c d=true->Gh (c.map IQ) d=true
|[],[],_=>rfl
|x::r,y::s,h=>by
 simp only[Ww,As]at h;simp only[Cg,Gh,As];refine⟨?_,VP h.2⟩;have b:=h.1;unfold LD at b;split at b
 ·simpa[IQ,KT.Bk]using b
 ·rfl
 ·rfl
 ·cases b
|[],_::_,h=>by cases h
|_::_,[],h=>by cases h
def zN:∀{kd:List D},NW (kd.map IQ)<=1
|[]=>by simp[NW]
|x::r=>by
 simp only[Cg,NW];have:=zN (kd:=r);have b:(IQ x).depth<=1:=by cases x<;>simp[IQ,KT.depth]
 omega
def Yjb{t:TypeId}{x:D}(c:(IQ x).Aa P t=true)(b:Bool)(u:Value)(n:Nat)(d:World):(Instr.checkKey b (n+1) t u).run P d=.ok () d:=by
 unfold Instr.checkKey;cases x<;>simp only[IQ,KT.Aa]at c<;>(split at c<;>first|(cases c;done)|(rename_i e;simp only[Sem.run_bind,Xa e,Result.andThen_ok];simp))
def wQ(b:Bool)(n:Nat):∀(u:List D)(c:List Field)(o:Nat)(e:List D)(d k:List Value),KT.Dc P (u.map IQ) c o=true->Gh (u.map IQ) e=true->Bb w (B2 ρ) e k->d.length=o->∀g,
 (forIn c PUnit.unit (λf (_:PUnit)=>(if f.name ≠ "_" then (do Instr.checkKey b (n+1) f.type (<-part f.type (d++k).toArray f.offset);pure (ForInStep.yield PUnit.unit)) else pure (ForInStep.yield PUnit.unit):Sem (ForInStep PUnit)))).run P g=.ok PUnit.unit g
|[],c,o,e,d,k,l,i,j,L,g=>by
 cases c<;>simp[KT.Dc]at l;simp
|t::r,c,o,e,d,k,l,i,j,L,g=>by
 cases c<;>simp only[Cg,KT.Dc,BF,As,bne_iff_ne,ne_eq,CT]at l;rename_i f G;cases e<;>simp only[Cg,Gh,BF,As]at i;rename_i x e;simp only[Bb]at j;obtain⟨z,q,rfl,y,j⟩:=j;obtain⟨⟨⟨⟨H,M⟩,p⟩,h⟩,m⟩:=l;have F:f.offset=d.length:=by omega
 have v:=Rk (c1:=d) (c3:=q) h p i.1 y g;rw[<-F]at v;have J:=G5 _ _ y;rw[MR _ x i.1]at J;have s:=wQ b n r G (o+(IQ t).cells) e (d++z) q m i.2 j (by simp;omega) g;simp only[Kk]at s;simp only[List.forIn_cons,Sem.run_bind,H,ne_eq,not_false_eq_true,Cz,v,Yjb h,Result.andThen_ok,Sem.run_pure];exact s
def Jy{l:TypeId}{j k:D}{u:Value}(c:Vz P l j=true)(f:Dy j k=true)(i:k.key=some u)(b:Bool)(d:World):(Instr.checkKey b 10000 l u).run P d=.ok () d:=by
 unfold Vz at c;split at c
 ·rename_i o;cases k<;>simp only[Dy,BF]at f;rename_i p;simp only[D.key]at i;obtain⟨n,m,rfl⟩:=Y6 i;simp only[KT.Aa]at c;split at c
  next e g=>simp only[As]at c;unfold Instr.checkKey;simp only[Sem.run_bind,Xa g,Result.andThen_ok];rw[<-Array.forIn_toList];have:=wQ (P:=P) (w:=d) (ρ:=⟨λ_=>none,λ_=>False,⟨λ_=>none,λ_ _ _ _ _=>False⟩⟩) b 9998 o e.toList 0 p [] n c.2 (VP f) (Qv m) rfl d;simp only[List.nil_append]at this;simp only[this,Result.andThen_ok,Sem.run_pure]
  ·cases c
 ·split at c
  next q h=>exact Xml h (vr c f) u b d
  ·cases c
def X2u{f:TypeId}{b c d:List D}{g h:List Value}(m:(KT.st (b.map IQ)).Aa P f=true)(k:Ww b c=true)(n:Ww c d=true)(l:Ww b d=true)(i:Vm c=some g)(j:Vm d=some h)(e:World):
 (Op.equal f (.agg g.toArray) (.agg h.toArray)).run P e=.ok (C8 (.agg c) (.agg d)) e:=by
 have:=KT.equal (P:=P) (w:=e) (ow:=λ_=>False) (KT.st (b.map IQ)) f (.agg c) (.agg d) g h 10000 m (by simp only[KT.Bk];exact VP k) (by simp only[KT.Bk];exact VP l) (by simp only[D.An];exact Qv i) (by simp only[D.An];exact Qv j) (by simp only[KT.depth];have:=zN (kd:=b);omega) e;simp only[Ez,D.isAgg,Cz,D.Bg]at this;exact this
def ui:∀{a b c:List D},Ww a b=true->Ww b c=true->Ww a c=true
|[],[],[],_,_=>rfl
|x::r,y::s,z::t,h,d=>by
 simp only[Ww,As]at h d⊢;refine⟨?_,ui h.2 d.2⟩;have e:=h.1;have f:=d.1;cases x<;>cases y<;>simp[LD]at e<;>cases z<;>simp[LD]at f<;>simp_all[LD]
|[],[],_::_,_,h=>by cases h
|[],_::_,_,h,_=>by cases h
|_::_,[],_,h,_=>by cases h
|_::_,_::_,[],_,h=>by cases h
def Yeh{s:TypeId}{k:D}{u:Value}(q:k.key=some u)(y:∀j v,Dy k j=true->j.key=some v->∀b,(Op.equal s u v).run P b=.ok (C8 k j) b):∀(m:List (D×V)) (l:List MapEntry) (i:Nat),X6 w ρ m l->(∀e∈m,Dy k e.1=true)->
 (Yh k m=none/\∀b,(Instr.findAsking s u l i).run P b=.ok none b)\/∃v j e,Yh k m=some v/\(∀b,(Instr.findAsking s u l i).run P b=.ok (some (i+j,e.val)) b)/\l[j]? = some e/\v.An w ρ e.val/\e.key=u/\∀i,i<j->∀g,l[i]? = some g->g.key≠u
|[],l,i,h,_=>by
 simp only[X6]at h;subst h;exact .inl ⟨rfl,λb=>by simp[Instr.findAsking]⟩
|(j,v)::r,l,i,h,t=>by
 obtain⟨e,Q,rfl,p,J,L⟩:=h;have d:=t (j,v) (by simp);have f:=y j _ d p;simp only[Yh];cases c:C8 k j with
 |true=>
  rw[c]at f;exact .inr ⟨v,0,e,by simp,λb=>by simp[Instr.findAsking,f],by simp,J,fp d c q p,λ_ h=>(by omega)⟩
 |false=>
  rw[c]at f;rcases Yeh q y r Q (i+1) L (λx N=>t x (by simp[N])) with⟨n,o⟩|⟨R,O,g,n,o,z,F,G,H⟩
  ·exact .inl ⟨by simpa using n,λb=>by simp[Instr.findAsking,f,o]⟩
  ·exact .inr ⟨R,O+1,g,by simpa using n,λb=>by simp only[Instr.findAsking,Sem.run_bind,f,Result.andThen_ok,BF,Ci,o];congr 3;omega,by simpa using z,F,G,zD H λM=>by rw[gd q (by rw[p,M]) d]at c;cases c⟩
def uz{d:TypeId}{b:Array Field}(c:P.underlying d=some (.struct b)){u:Value}{l:List MapEntry}(f:World):(Instr.findKey d u l).run P f=(Instr.findAsking d u l).run P f:=by
 cases l with
 |nil=>simp[Instr.findKey,Xa c,Instr.findNow,Instr.findAsking]
 |cons e r=>
  have:Instr.findNow (.struct b) u (e::r) 0=none:=by simp[Instr.findNow,Instr.sameNow]
  simp[Instr.findKey,Xa c,this]
def dV{q:TypeId}{F k:D}{u:Value}(c:Vz P q F=true)(d:Dy F k=true)(r:k.key=some u){es:List (D×V)}{l:List MapEntry}(h:X6 w ρ es l)(y:∀e∈es,Dy k e.1=true):
 (Yh k es=none/\∀b,(Instr.findKey q u l).run P b=.ok none b)\/∃v j e,Yh k es=some v/\(∀b,(Instr.findKey q u l).run P b=.ok (some (j,e.val)) b)/\l[j]? = some e/\v.An w ρ e.val/\e.key=u/\∀i,i<j->∀x,l[i]? = some x->x.key≠u:=by
 have L:=c;unfold Vz at c;split at c
 ·rename_i R;cases k<;>simp only[Dy,BF]at d;rename_i G;have t:=r;simp only[D.key]at r;obtain⟨N,H,rfl⟩:=Y6 r;have f:∃o,P.underlying q=some (.struct o):=by
   simp only[KT.Aa]at c;split at c
   ·exact⟨_,by assumption⟩
   ·cases c
  obtain⟨o,f⟩:=f;have M:∀j v,Dy (.agg G) j=true->j.key=some v->∀b,(Op.equal q (.agg N.toArray) v).run P b=.ok (C8 (.agg G) j) b:=by
   intro j v n z b;cases j<;>simp only[Dy,BF]at n;simp only[D.key]at z;obtain⟨Q,J,rfl⟩:=Y6 z;exact X2u c d n (ui d n) H J b
  rcases Yeh (w:=w) (ρ:=ρ) t M es l 0 h y with⟨g,m⟩|⟨v,j,e,g,m,s⟩
  ·exact .inl ⟨g,λb=>(uz f b).trans (m b)⟩
  ·exact .inr ⟨v,j,e,g,λb=>(uz f b).trans (by simpa using m b),s⟩
 ·split at c
  ·rename_i O p;rcases rj (vr c d) r es l 0 h y with⟨g,m⟩|⟨v,j,e,g,m,s⟩
   ·exact .inl ⟨g,λb=>u7 p m b⟩
   ·exact .inr ⟨v,j,e,g,λb=>u7 p (by simpa using m) b,s⟩
  ·cases c
def r9{w:World}{j:Nat->Prop}:∀{g:List D}{d c:List Value},Vm g=some d->Bb w j g c->c=d
|[],d,c,h,b=>by simp only[Vm,Bu]at h;simp only[Bb]at b;rw[b,h]
|x::r,d,c,h,b=>by
 simp only[Vm]at h;split at h
 next u l e i=>cases h;simp only[Bb]at b;obtain⟨m,n,rfl,f,k⟩:=b;rw[r9 i k];cases x<;>simp only[D.Fp,Bu,reduceCtorEq]at e<;>subst e<;>simp only[D.An]at f<;>rw[f]<;>rfl
 ·cases h
def aY{d:D}{u v:Value}(c:d.key=some u)(b:(V.d d).An w ρ v):v=u:=by
 cases d<;>simp only[D.key,Bu,reduceCtorEq]at c
 ·rw[X1]at b;rw[b,<-c]
 ·rw[BI]at b;rw[b,<-c]
 ·rw[B7]at b;rw[b,<-c]
 ·obtain⟨g,e,rfl⟩:=Y6 c;rw[IG]at b;rcases b with⟨_,f,rfl,b⟩|⟨b,_⟩
  ·simp only[D.An]at b;rw[r9 e b]
  ·cases b
def Yd5{i:TypeId}{z:D}(h:(match U2 P i with|some e=>D8 z e&&(((P.info? i).bind (·.zero)).map λv=>match v with|.agg _=>true|_=>false)==some (V.d z).isAgg|none=>false)=true):
 ∃f,(V.d z).An w ρ f/\∀m,(zeroValue i).run P m=.ok f m:=by
 cases c:U2 P i with
 |none=>simp[c]at h
 |some e=>
  simp only[c,As,CT]at h;obtain⟨k,b⟩:=h;obtain⟨f,g,o,l⟩:=U3 c;refine⟨f,?_,l⟩;have j:(V.d z).Ac w ρ e:=by simp only[V.Ac];exact MQ z e k
  rw[o]at b;simp only[Option.map_some,Bu]at b;cases f with
  |agg n=>
   simp only at b;refine .inr (.inl ⟨b.symm,e,?_,j⟩);simp only[Value.cells]at g;rw[<-g]
  |_=>
   simp only at b;refine .inr (.inr ⟨b.symm,?_⟩);simp only[Value.cells]at g;rw[<-g]at j;simpa using j
def Yas(hs:SM w ρ sl a)(M:OM w ρ ob){op:Op}{kd z:D}{ok:Bool}{m k:A}(hc:I.Aa P op (.Ib kd z ok m k)=true)(h:JN ob kd z ok (λv=>K v ob) (m.ev sl) (k.ev sl)):Qc P a w ρ op K Pn:=by
 cases op<;>simp only[I.Aa,BF]at hc;rename_i t x i o;simp only[As,CT]at hc;obtain⟨⟨⟨rfl,aa⟩,hx⟩,hi⟩:=hc;obtain⟨R,O,Q,F,hz⟩:∃R O,P.underlying t=some (.map R O)/\Vz P R kd=true/\(match U2 P O with|some cs=>D8 z cs&&(((P.info? O).bind (·.zero)).map λv=>match v with|.agg _=>true|_=>false)==some (V.d z).isAgg|none=>false)=true:=by
  revert aa;split
  next R O h=>intro h1;simp only[As]at h1;exact⟨R,O,h,h1.1,h1.2⟩
  ·intro h;cases h
 obtain⟨zv,H,G⟩:=Yd5 (w:=w) (ρ:=ρ) hz;have s:=A.Av hs hx;have W:=A.Av hs hi;have N:∀{v:V}{u:Value}(b:Bool),v.An w ρ u->(V.BE [v,.d (.bool b)]).An w ρ (.tuple #[u,.bool b]):=λb hv=>by
  rw[CJ];refine⟨[_,.bool b],rfl,?_⟩;simp only[V.A1];exact⟨_,_,rfl,hv,_,_,rfl,BI.2 rfl,rfl⟩
 unfold JN at h;split at h
 ·rename_i id kk Y Z;rw[Y]at s;rw[Z]at W;unfold Lb at h;split at h
  ·rename_i es hl;obtain⟨⟨c,U⟩,y⟩:=h;obtain⟨b,l,X,g1,g2,g3,_⟩:=M.BU id _ hl;rw[O9]at s;rcases s with⟨b',T,s⟩|⟨T,_⟩
   ·rw[g1]at T;cases T;obtain⟨_,ku,_,n⟩:=di c;have p:=aY n W;have g:=λb L=>Jy F c n b L;have q:(getObj b).run P w=.ok (.map l.toArray X) w:=by simp[getObj,Sem.run,g2]
    rcases dV F c n g3 U with⟨f1,J⟩|⟨v,j,e,f1,J,f3,f4,f5,_⟩
    ·rw[f1]at y;cases o
     ·exact Xl (λo r=>by simp[execOp,r,Instr.lookup,s,p,Xa Q,q,g,J,G]) y H M (Tr.refl _ _)
     ·exact Xl (λo r=>by simp[execOp,r,Instr.lookup,s,p,Xa Q,q,g,J,G]) y (N false H) M (Tr.refl _ _)
    ·rw[f1]at y;cases o
     ·exact Xl (λo r=>by simp[execOp,r,Instr.lookup,s,p,Xa Q,q,g,J]) y f4 M (Tr.refl _ _)
     ·exact Xl (λo r=>by simp[execOp,r,Instr.lookup,s,p,Xa Q,q,g,J]) y (N true f4) M (Tr.refl _ _)
   ·rw[g1]at T;cases T
  ·cases h
 ·rename_i kk Y Z;rw[Y,Ru]at s;rw[Z]at W;obtain⟨c,y⟩:=h;obtain⟨_,ku,_,n⟩:=di c;have p:=aY n W;have g:=λb L=>Jy F c n b L;have J:∀L,(Instr.findKey R ku ([]:List MapEntry)).run P L=.ok none L:=λL=>by
   rcases dV (w:=w) (ρ:=ρ) (es:=[]) (l:=[]) F c n rfl (by simp) with⟨_,f⟩|⟨_,_,_,f,_⟩
   ·exact f L
   ·cases f
  cases o
  ·exact Xl (λo r=>by simp[execOp,r,Instr.lookup,s,p,Xa Q,g,J,G]) y H M (Tr.refl _ _)
  ·exact Xl (λo r=>by simp[execOp,r,Instr.lookup,s,p,Xa Q,g,J,G]) y (N false H) M (Tr.refl _ _)
 ·cases h
def Yg8{k:D}{u:Value}{x:V}{i:Value}(f:k.key=some u)(g:x.An w ρ i)(b:Nat):∀(d:List (D×V)) (l:List MapEntry),X6 w ρ d l->Yh k d=none->X6 w ρ (EL k x d) (l++[{key:=u,val:=i,born:=b}])
|[],l,h,_=>by simp only[X6]at h;subst h;exact⟨_,[],rfl,f,g,rfl⟩
|(j,v)::r,l,h,c=>by
 obtain⟨e,q,rfl,m,n,o⟩:=h;simp only[Yh]at c;split at c
 ·cases c
 next p=>simp only[EL,p];exact⟨e,_,rfl,m,n,Yg8 f g b r q o c⟩
def uL{k:D}{u:Value}{x:V}{H:Value}(m:k.key=some u)(n:x.An w ρ H):∀(o:List (D×V)) (l:List MapEntry) (v:V) (j:Nat) (e:MapEntry),X6 w ρ o l->(∀e∈o,Dy k e.1=true)->(∀i,i<j->∀b,l[i]? = some b->b.key≠u)->l[j]? = some e->e.key=u->
 X6 w ρ (EL k x o) (l.modify j λe=>{e with key:=u,val:=H})
|[],l,v,j,e,h,_,_,c,_=>by simp only[X6]at h;subst h;simp at c
|(q,y)::r,l,v,0,e,h,g,_,c,s=>by
 obtain⟨b,z,rfl,f,F,p⟩:=h;simp only[List.getElem?_cons_zero,Bu]at c;subst c;have d:=gd m (by rw[f,s]) (g (q,y) (by simp));simp only[EL,d,Cz];exact⟨_,z,rfl,m,n,p⟩
|(q,y)::r,l,v,j+1,e,h,g,G,c,s=>by
 obtain⟨b,z,rfl,f,F,p⟩:=h;have t:=G 0 (by omega) b (by simp);have d:C8 k q=false:=by
  cases d:C8 k q with
  |false=>rfl
  |true=>exact absurd (fp (g (q,y) (by simp)) d m f) t
 simp only[EL,d,BF,Ci];exact⟨b,_,rfl,f,F,uL m n r z v j e p (λx n=>g x (by simp[n])) (λi M J L=>G (i+1) (by omega) J (by simpa using L)) (by simpa using c) s⟩
def uV{n:Nat}:∀{f:List D}{b:List Value},Vm f=some b->(b.zip b).all (λ(x,y)=>Instr.sameBits n x y)=true
|[],b,h=>by simp only[Vm,Bu]at h;subst h;rfl
|x::r,b,h=>by
 simp only[Vm]at h;split at h
 next u e c d=>cases h;simp only[List.zip_cons_cons,List.all_cons,As];refine⟨?_,uV d⟩;cases x<;>simp only[D.Fp,Bu,reduceCtorEq]at c<;>subst c<;>cases n<;>simp[Instr.sameBits,beq_toListBytes]
 ·cases h
def Xop{k:D}{u:Value}(h:k.key=some u):Instr.sameBits 10000 u u=true:=by
 cases k<;>simp only[D.key,Bu,reduceCtorEq]at h
 ·subst h;show(_==_&&_==_)=true;simp
 ·subst h;show(_==_)=true;simp
 ·subst h;show(_==_)=true;rw[beq_toListBytes];simp
 ·obtain⟨c,b,rfl⟩:=Y6 h;have:=uV (n:=9999) b;show(_==_&&_)=true;simpa using this
def qD:∀{l:List MapEntry}{n:Nat}{e:MapEntry},Gm n l->e.born=n+l.length->Gm n (l++[e])
|[],n,e,_,h=>⟨by simpa using h,trivial⟩
|x::r,n,e,h,b=>⟨h.1,qD h.2 (by simp at b;omega)⟩
def qE:∀{l:List MapEntry}{n:Nat},Gm n l->∀(j:Nat)(u v:Value),Gm n (l.modify j λe=>{e with key:=u,val:=v})
|[],n,h,j,u,v=>by simpa using h
|x::r,n,h,0,u,v=>⟨h.1,h.2⟩
|x::r,n,h,j+1,u,v=>⟨h.1,qE h.2 j u v⟩
def X1h(hs:SM w ρ sl a)(X:OM w ρ ob){L:Op}{R:D}{m k v:A}(g:I.Aa P L (.C7 R m k v)=true)(h:KI ob R (v.ev sl) K (m.ev sl) (k.ev sl)):Qc P a w ρ L K Pn:=by
 obtain⟨t,x,i,y,J,aa,hx,hi,hy⟩:∃t x i y,(L=.mapUpdate t x i y\/L=.insert t x i y)/\(match P.underlying t with|some (.map s _)=>Vz P s R|_=>false)=true/\A.Aa x m=true/\A.Aa i k=true/\A.Aa y v=true:=by
  cases L<;>simp only[I.Aa,BF,As]at g
  next t x i y=>exact⟨t,x,i,y,.inr rfl,g.1.1.1,g.1.1.2,g.1.2,g.2⟩
  next t x i y=>exact⟨t,x,i,y,.inl rfl,g.1.1.1,g.1.1.2,g.1.2,g.2⟩
 obtain⟨s,N,ht,H⟩:∃s N,P.underlying t=some (.map s N)/\Vz P s R=true:=by
  revert aa;split
  next s N h=>intro h1;exact⟨s,N,h,h1⟩
  ·intro h;cases h
 have u:=A.Av hs hx;have r2:=A.Av hs hi;have r3:=A.Av hs hy;unfold KI at h;split at h
 ·rename_i id kk e1 e2;rw[e1]at u;rw[e2]at r2;unfold LM at h;split at h
  ·rename_i es Z;obtain⟨⟨r,n⟩,ab,hK⟩:=h;obtain⟨b,l,c,Q,z,U,W,g6⟩:=X.BU id _ Z;rw[O9]at u;rcases u with⟨b',F,u⟩|⟨F,_⟩
   ·rw[Q]at F;cases F;obtain⟨_,q,_,d⟩:=di r;have M:=aY d r2;have G:=λb w'=>Jy H r d b w';have p:(getObj b).run P w=.ok (.map l.toArray c) w:=by simp[getObj,Sem.run,z]
    rcases dV H r d U n with⟨f0,T⟩|⟨v',j,e,f0,T,O,_,f3,f6⟩
    ·have O:=Yg8 d r3 c es l U f0;obtain⟨t1,o1⟩:=xU (clk':=c+1) X Z Q z O ⟨by simp[W],qD g6 (by simp[W])⟩;refine T1 (λo ho=>?_) hK o1 t1;have f:(setObj b (.map ((l++[(⟨q,a.eval y,c⟩:MapEntry)]).toArray) (c+1))).run P w=.ok () (EB w b (.map ((l++[(⟨q,a.eval y,c⟩:MapEntry)]).toArray) (c+1))):=by simp[setObj,Sem.run,z,EB]
     rcases J with rfl|rfl<;>simp[execOp,ho,Instr.mapUpdate,u,M,Xa ht,p,G,T]<;>(rw[f];simp)
    ·have f4:=uL d r3 es l v' j e U n f6 O f3;obtain⟨t1,o1⟩:=xU (clk':=c) X Z Q z f4 ⟨by simp[W],qE g6 j _ _⟩;refine T1 (λo ho=>?_) hK o1 t1;have Y:(Instr.keyThatStays e.key q).run P w=.ok q w:=by simp[Instr.keyThatStays,f3,Xop d]
     have hm:(l.toArray.modify j λe=>{e with key:=q,val:=a.eval y})=(l.modify j λe=>{e with key:=q,val:=a.eval y}).toArray:=by simp
     have f:(setObj b (.map (l.modify j λe=>{e with key:=q,val:=a.eval y}).toArray c)).run P w=.ok () (EB w b (.map (l.modify j λe=>{e with key:=q,val:=a.eval y}).toArray c)):=by simp[setObj,Sem.run,z,EB]
     rcases J with rfl|rfl<;>simp[execOp,ho,Instr.mapUpdate,u,M,Xa ht,p,G,T,O,Y]<;>(rw[f];simp)
   ·rw[Q]at F;cases F
  ·cases h
 ·cases h
def Yao{P:Az}(R:ρ.gl=P.g)(z:OM w ρ ob){op:Op}{g n:Nat}{ag:Bool}{x:D}(b:I.Aa P.p op (.KS g n ag x)=true)(h:Bj P g x/\x.sz=n/\(V.d x).isAgg=ag/\K (.d x) ob):Qc P.p a w ρ op K Pn:=by
 obtain⟨t,L,q,r,s⟩:∃t,op=.load t (.global g)/\X7 P.p t=some n/\(P.p.underlying t).isSome=true/\F6 P.p t=ag:=by
  simp only[I.Aa]at b;split at b
  next t H=>simp only[As,CT]at b;obtain⟨⟨⟨rfl,q⟩,r⟩,s⟩:=b;exact⟨t,rfl,q,r,s⟩
  ·cases b
 obtain⟨⟨m,T,f,G,Y⟩,O,F,Q⟩:=h;obtain⟨H,J⟩:=z.Dn g _ (by rw[R];exact G);have c:x.An w (B2 ρ) m:=MQ x m Y;have X:(V.d (.Bd x)).An w ρ (.pointer (some ⟨g,0,none⟩)):=LQ.2 ⟨⟨g,0,none⟩,m,rfl,rfl,⟨λ_=>⟨rfl,J,Xi H⟩,λi U=>by simp[World.cell?,H,U]⟩,c⟩;let l:Act:=⟨#[.pointer (some ⟨g,0,none⟩)],[]⟩
 have N:SM w ρ [(0,.d (.Bd x))] l:=by
  intro k;simp only[Ay];split
  next e=>subst e;exact X
  ·exact Qy
 obtain⟨v,y,u,M,j⟩:=Rx (P:=P.p) (K:=λv=>v=V.d x) (a:=l) (n:=n) (ag:=ag) (x:=.t 0) (op:=.load t (.tmp 0)) N z (by simp[C.Aa,q,r,s,A.Aa]) (by simp[A.ev,Ay,D4,O,F]);subst u;refine Xl (λo W=>?_) Q M z (Tr.refl _ _)
 have:=j ⟨none,.load t (.tmp 0),0, "", #[],none⟩ rfl w (λ_=>Bv.refl w)
 simp only[execOp,Act.eval,l]at this;simp only[execOp,W,L,Act.eval];simpa using this
def Ya0(Z:SM w ρ sl a)(l:OM w ρ ob){u:Op}{n z:Nat}{x:A}(d:I.Aa P u (.Ie n z x)=true)(h:KA ob n z K (x.ev sl)):Qc P a w ρ u K Pn:=by
 obtain⟨t,g,e,s,ht,U,hx⟩:∃t g e,u=.slice t g none none none/\P.underlying t=some (.array n e)/\X7 P e=some z/\A.Aa g x=true:=by
  simp only[I.Aa]at d;split at d
  ·rename_i t g;simp only[As]at d;obtain⟨c,R⟩:=d;split at c
   next m e hu=>simp only[As,CT]at c;obtain⟨rfl,c⟩:=c;exact⟨t,g,e,rfl,hu,c,R⟩
   ·cases c
  ·cases d
 have j:=A.Av Z hx;unfold KA at h;split at h
 ·rename_i id p N;rw[N]at j;unfold Ll at h;split at h
  ·rename_i xs q;obtain⟨X,hz,T⟩:=h;obtain⟨y,b',M,E,F,O,k,G,Q⟩:=Mb l q;obtain⟨b,sh,f,j⟩:=Bh l F j;rw[f]at k;simp only[Bu,RO.box.injEq]at k;obtain⟨rfl,rfl⟩:=k;obtain⟨J,o1,r⟩:=R6 l (id:=id) ⟨_,F⟩;obtain⟨c1,L,c3,q1,q2,H⟩:=JC p y _ M Q O;simp only[V.Ac,D.An]at H;refine Xl (v:=.slice (some ⟨b,y.shape.off p,none⟩) n n) (λo Y=>?_) T ?_ o1 J
   ·simp only[execOp,Y,s,j,Option.map_none,Instr.sliceAt,Sem.run_bind,Xa ht,Result.andThen_ok,Instr.sureAddr,Sem.run_pure,Instr.sliceBounds,Xq U];simp only[Nat.zero_mul,Nat.sub_zero];rw[Addr.Be rfl];simp
   ·rw[Yq];refine .inr ⟨⟨b,y.shape.off p,none⟩,n,L,by rw[X],by omega,⟨λ_=>⟨rfl,r b _ f rfl,Xi G⟩,λi W=>?_⟩,Fy J.mono _ _ H,hz⟩;rw[<-q2];simp[World.cell?,G,q1,JH,W]
  ·cases h
 ·cases h
def Yaz(J:SM w ρ sl a)(q:OM w ρ ob){F:Op}{n z:Nat}{x:A}{L G:Option A}(g:I.Aa P F (.HR n z x L G)=true)(h:L0 ob n z (L.map (A.ev sl)) (G.map (A.ev sl)) K (x.ev sl)):Qc P a w ρ F K Pn:=by
 cases F<;>simp only[I.Aa,BF]at g;rename_i t x1 l1 h1 m1;cases m1<;>simp only[BF]at g;simp only[As]at g;obtain⟨⟨⟨k,y⟩,u⟩,r⟩:=g;obtain⟨e,Y,T⟩:∃e,P.underlying t=some (.array n e)/\X7 P e=some z:=by
  revert k;split
  next m e Z=>simp only[As,CT];rintro⟨rfl,k⟩;exact⟨e,Z,k⟩
  ·simp
 have i:=A.Av J y;unfold L0 at h;split at h
 ·rename_i id p M;rw[M]at i;cases c:Cj ob id p with
  |none=>simp[c,Y4,Lk]at h
  |some v=>
   cases s:v.BM with
   |none=>simp[c,Y4,s,Lk]at h
   |some ks=>
    simp only[c,Y4,s,Lk]at h;obtain⟨H,hz,h⟩:=h;obtain⟨d,b',cs,E,N,O,j,g4,g5⟩:=Mb q c;obtain⟨b,sh,f,i⟩:=Bh q N i;rw[f]at j;simp only[Bu,RO.box.injEq]at j;obtain⟨rfl,rfl⟩:=j;obtain⟨l,Q,R,q1,q2,X⟩:=Q3 (P:=P) (cap:=n) (isS:=false) J (BV _) u r h;refine Xl (v:=.slice (some (if n=l then⟨b,d.shape.off p,none⟩ else (⟨b,d.shape.off p,none⟩:Addr).add (l*z))) (Q-l) (n-l)) (λo W=>?_) R ?_ q (Tr.refl _ _)
    ·simp only[execOp,W,i,Instr.sliceAt,Sem.run_bind,Xa Y,Result.andThen_ok,Instr.sureAddr,Sem.run_pure,Option.map_none,X,Xq T]
    ·rw[SP];refine .inl ⟨b,d.shape,n-l,if n=l then d.shape.off p else d.shape.off p+l*z,f,⟨by omega,λU=>?_⟩,?_⟩
     ·rw[Af (by omega),Oq _ p d v l rfl O,R8 s,X3 (z:=z) _ (λx y=>hz x (Fe y)),E9,Gi (by omega)]
     ·split
      ·rfl
      ·rw[Addr.Be rfl]
 ·cases h
def X0f(hO:OM w ρ ob){id c n z:Nat}{p:List Nat}{g:List D}{j:List Value}{r:V}{u:Value}(hu:(V.bs id p c n).An w ρ u)(s:Bb w (B2 ρ) g j)(hz:∀y∈g,y.sz=z)(hn:g.length<=n)
 (h:Hr ob id p c n z g r K (AA ob id)):∃b f k w' N,u=.slice (some ⟨b,f,none⟩) n k/\(storeCells ⟨b,f,none⟩ j).run P w=.ok () w'/\Tr w ρ w' ρ/\OM w' ρ N/\K r N:=by
 unfold Hr at h;split at h
 ·rename_i E t hl;unfold N2 at h;split at h
  ·rename_i l o;obtain⟨ai,q,af,t',L,hK⟩:=h;obtain⟨b,m,v,Z,g3⟩:=hO.BU id _ hl;rw[SP]at hu;rcases hu with⟨b',sh,k,f,O,⟨q2,q3⟩,q4⟩|⟨O,_⟩
   case inr=>rw[O]at v;cases v
   rw[v]at O;simp only[Bu,RO.box.injEq]at O;obtain⟨rfl,rfl⟩:=O;obtain⟨U,e,W,Q,X,R⟩:=JC p t _ m g3 o;simp only[V.Ac,D.An]at R;have M:j.length=g.length*z:=by rw[Gf _ _ s,EO _ hz]
   have aa:e.length=l.length*z:=by rw[Gf _ _ R,EO _ q]
   have tk:∀i,i<=l.length->Cf (l.take i)=i*z:=λi hi=>by
    rw[EO (sz:=z) _ (λy s=>q y (Fe s)),E9,Gi hi]
   have s1:=(MN l c e R).1;have s2:=(MN l (c+g.length) e R).2;rw[tk c (by omega)]at s1;rw[tk (c+g.length) (by omega)]at s2;have G:Bb w (B2 ρ) (Ho c l g) (e.take (c*z)++(j++e.drop ((c+g.length)*z))):=On s1 (On s s2);have ad:(c+g.length)*z<=e.length:=by rw[aa];exact O0 z (by omega)
   have F:c*z+j.length=(c+g.length)*z:=by rw[M,Fz]
   obtain⟨aj,Y,e5,T⟩:=Ol p t _ (.d (.agg (Ho c l g))) m _ g3 o (by simp only[V.Ac,D.An];exact G) (by simpa only[V.shape]using af);rw[L]at Y;simp only[Bu]at Y;subst Y;have e7:m.take (t.shape.off p)++(e.take (c*z)++(j++e.drop ((c+g.length)*z))++m.drop (t.shape.off p+(e.take (c*z)++(j++e.drop ((c+g.length)*z))).length))=U++((e.take (c*z)++(j++e.drop ((c+g.length)*z)))++W):=by
    have ac:(e.take (c*z)++(j++e.drop ((c+g.length)*z))).length=e.length:=by
     simp only[DV,E9,List.length_drop];omega
    rw[ac,<-X,Q,List.take_left,<-Kk U e W,<-DV,List.drop_left]
   rw[e7]at T;by_cases ae:n=0
   ·have ah:g=[]:=Tt (by omega);subst ah;have ag:j=[]:=Tt (by simpa using M);subst ag;have e8:U++((e.take (c*z)++([]++e.drop ((c+([]:List D).length)*z)))++W)=m:=by rw[Q];simp
    rw[e8]at T;exact⟨b,f,k,w,_,q4,by simp[storeCells],Tr.refl _ _,hO.swap hl (x':=.box E t') ⟨b,m,by rw[e5];exact v,Z,T⟩,hK⟩
   ·have hf:=q3 ae;have ab:(V.d (.agg l)).BM=some (l.map .d):=rfl;have H:t.shape.off (p++[c])=t.shape.off p+c*z:=by
     rw[Oq _ p t _ c rfl o,R8 ab,X3 (z:=z) _ (λx hx=>?_),E9,List.length_map,Gi (by omega)];obtain⟨y,s,rfl⟩:=C9.1 (Fe hx);simp[V.size,V.shape,CC,q y s]
    obtain⟨t1,o1⟩:=Dj hO hl v Z e5 T;have J:=run_storeCells_at (P:=P) b (t.shape.off p+c*z) E j 0 m.toArray w Z (by rw[Q,<-X];simp;omega) (Tl g j s);refine⟨b,f,k,_,_,q4,?_,t1,o1,hK⟩;rw[hf,H,J];congr 2;simp only[Nat.add_zero];rw[Q,<-X,QO,Kg,QQ,F,List.take_append_of_le_length (by omega),List.drop_append_of_le_length ad];simp
  ·cases h
 ·cases h
def Yam(hs:SM w ρ sl a)(hO:OM w ρ ob){W:Op}{z:Nat}{x y:A}(m:I.Aa P W (.I1 z x y)=true)(h:N7 z ob K (x.ev sl) (y.ev sl)):Qc P a w ρ W K Pn:=by
 cases W<;>simp only[I.Aa,BF]at m;rename_i c;obtain⟨ca,r,ts⟩:=c;cases ca<;>(try simp only[BF]at m);rename_i b;cases b<;>(try simp only[BF]at m);split at m
 ·rename_i u v t X e1 e2;simp only[As]at m;obtain⟨⟨h0,h1⟩,h2⟩:=m;have ea:r=#[u,v]:=by simpa using CK List.toArray e1
  have et:ts=#[t,X]:=by simpa using CK List.toArray e2
  subst ea et;obtain⟨e,ht,he,aa⟩:∃e,P.underlying t=some (.slice e)/\X7 P e=some z/\z≠0:=by
   revert h0;split<;>simp_all
  have r1:=A.Av hs h1;have l:=A.Av hs h2;unfold N7 at h;split at h
  ·rename_i id p lo n k d e3 e4;obtain⟨rfl,h⟩:=h;rw[e3]at r1;rw[e4,Yq]at l;have U:∃i,Bb w (B2 ρ) (d.take n) i/\(∀y∈d.take n,y.sz=k)/\(Builtin.lenOf (a.eval v)).run P w=.ok d.length w/\(Builtin.firstCells k (Nat.min d.length n) (a.eval v)).run P w=.ok i.toArray w:=by
    rcases l with⟨rfl,l⟩|⟨ad,J,i,l,Y,s,G,R⟩
    ·exact⟨[],by simp[Bb],by simp,by simp[l,Builtin.lenOf],by simp[l,Builtin.firstCells]⟩
    ·have s1:=(MN d n i G).1;have T:i.length=d.length*k:=by rw[Gf _ _ G,EO _ R]
     have tk:Cf (d.take n)=Nat.min d.length n*k:=by
      rw[EO (sz:=k) _ (λy H=>R y (Fe H)),E9,Nat.min_comm]
     rw[tk]at s1;refine⟨_,s1,λy H=>R y (Fe H),by simp[l,Builtin.lenOf],?_⟩;have g:(i.take (Nat.min d.length n*k)).length=Nat.min d.length n*k:=by
      rw[E9,T,Gi (O0 k (Nat.min_le_left _ _))]
     have Z:=run_loadCells_list (P:=P) (w:=w) ad (i.take (Nat.min d.length n*k)) (λj c hj=>by
      obtain⟨O,e⟩:=EK.1 hj;have F:j<i.length:=by rw[E9]at O;omega
      have Q:i≠[]:=by intro h;simp[h]at F
      rw[Addr.Be (s.1 Q).1,<-e,List.getElem_take];exact s.2 j F)
     rw[g]at Z;rw[l];simpa only[Builtin.firstCells]using Z
   obtain⟨i,H,hz,g,N⟩:=U;obtain⟨b,f,J,w',ab,q1,q2,t1,o1,hK⟩:=X0f (P:=P) hO r1 H hz (by rw[E9];omega) h;refine Xl (v:=.int .i64 (Nat.min d.length n:Nat)) (λo ho=>?_) hK (X1.2 rfl) o1 t1;have q:∀ty,(Builtin.copy_ #[t,X] ty #[a.eval u,a.eval v]).run P w=.ok (goInt (Nat.min d.length n)) w':=by
    intro ty;unfold Builtin.copy_;have e0:(#[t,X]:Array TypeId)[0]? = some t:=rfl;have L:(#[a.eval u,a.eval v]:Array Value)[0]? = some (a.eval u):=rfl;have M:(#[a.eval u,a.eval v]:Array Value)[1]? = some (a.eval v):=rfl;rw[e0,L,M,q1];simp only[Sem.run_bind,Xa ht,Result.andThen_ok,g,Xq he,N,q2,Sem.run_pure]
   simp only[execOp,ho,resolve,invoke,builtin,Sem.run_bind,Sem.run_pure,Result.andThen_ok,List.map_toArray,Cg,HB,q];rfl
  ·cases h
 ·simp at m
def Yal(hs:SM w ρ sl a)(Q:OM w ρ ob){Y:Op}{s:D}{z:Nat}{x:A}(k:I.Aa P Y (.IV s z x)=true)(h:N4 s z ob K (x.ev sl)):Qc P a w ρ Y K Pn:=by
 cases Y<;>simp only[I.Aa,BF]at k;rename_i c;obtain⟨ca,F,ts⟩:=c;cases ca<;>(try simp only[BF]at k);rename_i b;cases b<;>(try simp only[BF]at k);split at k
 ·rename_i u t e1 e2;simp only[As]at k;obtain⟨h0,h1⟩:=k;have ea:F=#[u]:=by simpa using CK List.toArray e1
  have et:ts=#[t]:=by simpa using CK List.toArray e2
  subst ea et;obtain⟨e,ht,he,aa,d,X,j⟩:∃e,P.underlying t=some (.slice e)/\X7 P e=some z/\z≠0/\∃d,U2 P e=some d/\D8 s d=true:=by
   revert h0;split
   ·rename_i e hu;simp only[As,CT,bne_iff_ne,ne_eq];rintro⟨⟨h2,h3⟩,O⟩;refine⟨e,hu,h2,h3,?_⟩;cases hz:U2 P e with
    |none=>simp[hz]at O
    |some d=>simp only[hz]at O;exact⟨d,rfl,O⟩
   ·simp
  obtain⟨zv,ez,_,q⟩:=U3 X;have r:=A.Av hs h1;unfold N4 at h;split at h
  ·rename_i id p lo n e3;rw[e3]at r;have Z:(#[t]:Array TypeId)[0]? = some t:=rfl;have G:(#[a.eval u]:Array Value)[0]? = some (a.eval u):=rfl;by_cases hn:n=0
   ·subst hn;obtain⟨⟨E,t0,hl⟩,h⟩:=h.1 rfl;refine Xl (v:=.tuple #[]) (λo T=>?_) h (CJ.2 ⟨[],rfl,rfl⟩) Q (Tr.refl _ _);have g:∀L,(Builtin.clear_ #[t] L #[a.eval u]).run P w=.ok (.tuple #[]) w:=by
     intro L;unfold Builtin.clear_;rw[Z,G];rw[SP]at r;rcases r with⟨b,sh,M,f,_,_,r⟩|⟨hg,_⟩
     ·rw[r];simp only[Sem.run_bind,Xa ht,Result.andThen_ok,Sem.run_pure]
     ·obtain⟨b,d,h5,_⟩:=Q.BU id _ hl;rw[hg]at h5;cases h5
    simp only[execOp,T,resolve,invoke,builtin,Sem.run_bind,Sem.run_pure,Result.andThen_ok,List.map_toArray,Cg,HB,g]
   ·obtain⟨⟨J,U⟩,h⟩:=h.2 hn;have l:∀m,Bb w (B2 ρ) (List.replicate m s) (List.replicate m d).flatten:=by
     intro m;induction m with
     |zero=>simp[Bb]
     |succ m ih=>simp only[List.replicate_succ,List.flatten_cons,Bb];exact⟨d,_,rfl,MQ s d j,ih⟩
    have H:=l n;obtain⟨b,f,M,w',ab,q1,q2,t1,o1,hK⟩:=X0f (P:=P) Q r H (λy hy=>by rw[List.eq_of_mem_replicate hy];exact J) (by simp) h;refine Xl (v:=.tuple #[]) (λo T=>?_) hK (CJ.2 ⟨[],rfl,rfl⟩) o1 t1;have g:∀L,(Builtin.clear_ #[t] L #[a.eval u]).run P w=.ok (.tuple #[]) w':=by
     intro L;unfold Builtin.clear_;rw[Z,G,q1];obtain⟨m,rfl⟩:∃m,n=m+1:=⟨n-1,by omega⟩
     have W:(Builtin.zeroCells zv.cells (m+1)).toList=(List.replicate (m+1) d).flatten:=by
      have R:d.length=1:=by rw[G5 _ _ (MQ (w:=w) (ρ:=ρ) s d j),J,U]
      obtain⟨c,rfl⟩:=LH.1 R;have N:zv.cells=#[c]:=by apply Array.ext';exact ez
      simp only[Builtin.zeroCells,N];apply List.ext_getElem
      ·simp
      ·intro i h1 h2;simp[Nat.mod_one]
     simp only[Sem.run_bind,Xa ht,Result.andThen_ok,q,W,q2,Sem.run_pure]
    simp only[execOp,T,resolve,invoke,builtin,Sem.run_bind,Sem.run_pure,Result.andThen_ok,List.map_toArray,Cg,HB,g]
  ·cases h
 ·simp at k
def y8{P:Az}(X:ρ.gl=P.g)(hs:SM w ρ sl a)(O:OM w ρ ob){op:Op}{g n z:Nat}{x:D}{i:A}(c:I.Aa P.p op (.Hz g n z x i)=true)(h:Bj P g x/\Mx n z (λv=>K v ob) x (i.ev sl)):IM P.p a w ρ op ob K:=by
 obtain⟨t,j,e,L,ht,W,Z⟩:∃t j e,op=.indexAddr t (.global g) j/\P.p.underlying t=some (.array n e)/\X7 P.p e=some z/\A.Aa j i=true:=by
  simp only[I.Aa]at c;split at c
  ·rename_i t H j;simp only[As,CT]at c;obtain⟨⟨rfl,b⟩,R⟩:=c;split at b
   next m e hu=>simp only[As,CT]at b;obtain⟨rfl,b⟩:=b;exact⟨t,j,e,rfl,hu,b,R⟩
   ·cases b
  ·cases c
 obtain⟨⟨u,T,f,G,hx⟩,h⟩:=h;obtain⟨H,J⟩:=O.Dn g _ (by rw[X];exact G);have l:x.An w (B2 ρ) u:=MQ x u hx;have hr:(V.d (.Bd x)).An w ρ (.pointer (some ⟨g,0,none⟩)):=LQ.2 ⟨⟨g,0,none⟩,u,rfl,rfl,⟨λ_=>⟨rfl,J,Xi H⟩,λi Y=>by simp[World.cell?,H,Y]⟩,l⟩;have r2:=A.Av hs Z;let s:Act:=⟨#[.pointer (some ⟨g,0,none⟩),a.eval j],[]⟩
 have N:SM w ρ [(0,.d (.Bd x)),(1,i.ev sl)] s:=by
  intro k;simp only[Ay];split
  next e=>subst e;exact hr
  ·split
   next e=>subst e;exact r2
   ·exact Qy
 unfold Mx at h;split at h
 ·rename_i r k m Q;obtain⟨hm,hl,hz,U⟩:=h;obtain⟨v,y,F,M,q⟩:=vy (P:=P.p) (K:=λv=>v=V.d (.Bd (r.getD m.toNat default))) (a:=s) (n:=n) (z:=z) (x:=.t 0) (y:=.t 1) (op:=.indexAddr t (.tmp 0) (.tmp 1)) N O (by simp[C.Aa,ht,W,A.Aa]) (by
   have q0:A.ev [(0,V.d (.Bd (.agg r))),(1,i.ev sl)] (.t 0)=.d (.Bd (.agg r)):=rfl;have q1:A.ev [(0,V.d (.Bd (.agg r))),(1,i.ev sl)] (.t 1)=.d (.int k m):=by rw[<-Q];rfl
   rw[q0,q1];exact⟨hm,hl,hz,rfl⟩)
  subst F;refine⟨_,_,w,U,M,Bv.refl w,λo ho=>?_⟩
  have:=q ⟨none,.indexAddr t (.tmp 0) (.tmp 1),0, "", #[],none⟩ rfl w (λ_=>Bv.refl w)
  simp only[execOp,Act.eval,s]at this;simp only[execOp,ho,L,Act.eval];simpa using this
 ·cases h
def X7d(b:List Value)(f:b.length≠0):∀n:Nat,((Array.range (n*b.length)).map (λi=>b.toArray[i % b.toArray.size]!))=((List.replicate n b).flatten).toArray:=by
 intro n;apply Array.ext';simp only[Array.toList_map,Array.toList_range,List.toList_toArray];induction n with
 |zero=>simp
 |succ n d=>
  rw[List.replicate_succ,List.flatten_cons,<-d,Nat.succ_mul,Nat.add_comm,List.range_add,Ij,List.map_map];congr 1
  ·apply List.ext_getElem
   ·simp
   ·intro i c e;simp only[List.length_map,List.length_range]at c;simp[Nat.mod_eq_of_lt c,c]
  ·apply List.map_congr_left;intro i _;simp
def Yau(hs:SM w ρ sl a)(hO:OM w ρ ob){U:Op}{E q B:Nat}{z:D}{l:A}(J:I.Aa P U (.I4 E q B z l)=true)(h:OD E q B z ob K (l.ev sl)):Qc P a w ρ U K Pn:=by
 cases U<;>simp only[I.Aa,BF]at J;rename_i t x y;simp only[As,bne_iff_ne,ne_eq,CT]at J;obtain⟨⟨⟨⟨⟨⟨⟨h1,h2⟩,h3⟩,h4⟩,Z⟩,h6⟩,h7⟩,h8⟩:=J;have ht:P.underlying t=some (.slice E):=by
  revert h3;split
  next e he=>intro h;simp at h;subst h;exact he
  ·intro h;cases h
 obtain⟨d,F,L,M⟩:∃d,P.info? E=some d/\d.size=q/\d.bytes=B:=by
  revert h4;split
  next i F=>intro h;simp at h;exact⟨i,F,h.1,h.2⟩
  ·intro h;cases h
 obtain⟨c,T,R,k⟩:∃c,U2 P E=some c/\D8 z c=true/\c.length=q:=by
  revert h7;split
  next c hz=>intro h;simp at h;exact⟨c,hz,h.1,h.2⟩
  ·intro h;cases h
 have r1:=A.Av hs h1;have r2:=A.Av hs h2;unfold OD at h;split at h
 ·rename_i m e1;obtain⟨u,ac,hK⟩:=h;rw[e1,X1]at r1 r2;have aa:m<=281474976710656:=by
   have:m*1<=m*(B:Int):=Int.mul_le_mul_of_nonneg_left (by omega) u;omega
  have Q:IntKind.i64.wrap m=m:=by
   have G:m % (2 ^ IntKind.i64.bits:Int)=m:=Int.emod_eq_of_lt u (by show m<2 ^ 64;omega);have e2:¬m≥(2 ^ (IntKind.i64.bits-1):Int):=by show ¬m≥2 ^ 63;omega
   simp only[IntKind.wrap,G,e2,decide_false,Bool.and_false,BF,Ci]
  obtain⟨X,ez,_,p⟩:=U3 T;have O:∀W,(typeInfo E).run P W=.ok d W:=λW=>by simp[typeInfo,F]
  have N:X7 P E=some q:=by simp[X7,F,L]
  have s:=Zj w (.cells ((List.replicate m.toNat c).flatten).toArray E);have r:∀b,(RO.A9 w.heap.size m.toNat m.toNat).blk? = some b->w.heap.size<=b:=λb hb=>by simp[RO.blk?]at hb;omega
  have f:=Xo ob;have t1:=Vt _ s (o:=.A9 w.heap.size m.toNat m.toNat) (hO.free f) r;have j:∀n,Bb w (B2 ρ) (List.replicate n z) (List.replicate n c).flatten:=by
   intro n;induction n with
   |zero=>simp[Bb]
   |succ n ih=>simp only[List.replicate_succ,List.flatten_cons,Bb];exact⟨c,_,rfl,MQ z c R,ih⟩
  refine Xl (v:=.slice (some ⟨w.heap.size,0,none⟩) m.toNat m.toNat) (λo ho=>?_) hK (Yj.2 ⟨_,by simp[A0.BS];rfl,?_⟩) (hO.BS s f r ?_) t1
  ·have ab:¬((B:Int)*m > 2 ^ 48):=by rw[Int.mul_comm];omega
   have hg:∀n,(Array.range n).map (λi=>X.cells[i % X.cells.size]!)=(Array.range n).map (λi=>c.toArray[i % c.toArray.size]!):=λn=>by
    have:X.cells=c.toArray:=by rw[<-ez]
    rw[this]
   have g:(decide (m<0)||decide ((B:Int)*m > 2 ^ 48)||decide (m<0)||decide (m > m))=false:=by
    simp only[FC,MV];omega
   simp only[execOp,ho,Instr.makeSlice,Sem.run_bind,Xa ht,Result.andThen_ok,r1,r2,asInt,asIntOf,Sem.run_pure,O,M,Q,g,BF,Ci,run_askRoom,Xq N];by_cases Y:m.toNat=0
   ·have G:(Array.map (λx=>(#[]:Array Value)[x % (#[]:Array Value).size]!) (Array.range 0))=(List.replicate 0 c).flatten.toArray:=by simp
    simp only[Y,Nat.zero_mul,Cz,Sem.run_pure,Result.andThen_ok,newRow,Sem.run_bind,run_newObj];rw[G];rfl
   ·have H:m.toNat*q≠0:=Nat.mul_ne_zero Y Z;simp only[H,Ci,Sem.run_bind,p,Result.andThen_ok,Sem.run_pure,newRow,run_newObj,hg];have:=X7d c (by rw[k];exact Z) m.toNat;rw[k]at this;rw[this];rfl
  ·simp[RO.slice]
  ·refine .inr ⟨w.heap.size,m.toNat,(List.replicate m.toNat c).flatten,[],by simp[A0.BS],by simpa using Zt w (.cells ((List.replicate m.toNat c).flatten).toArray E),Fy t1.mono _ _ (j _),λx hx=>by rw[List.eq_of_mem_replicate hx];exact h8,?_⟩;simp[k]
 ·cases h
def Yjl(h:OM w ρ ob){id E X k b g:Nat}{G:List D}(J:AA ob id=some (.A9 E X G))(N:ρ.m id=some (.A9 b G.length g))(hk:k<=G.length)(ab:X≠0):
 Tr w ρ w ((ρ.BS id .AY).BS (fresh ob) (.A9 b k g))/\OM w ((ρ.BS id .AY).BS (fresh ob) (.A9 b k g)) ((fresh ob,.A9 E X (G.take k))::AG ob id .AY):=by
 have U:id≠fresh ob:=λe=>by rw[e,Xo]at J;cases J
 have T:ρ.m (fresh ob)=none:=h.free (Xo ob);let f:=(ρ.BS id .AY).BS (fresh ob) (.A9 b k g);have z:f.m (fresh ob)=some (.A9 b k g):=by simp[f,A0.BS]
 have t:f.m id=some .AY:=by simp[f,A0.BS,U]
 have s:∀j,j≠fresh ob->j≠id->f.m j=ρ.m j:=λj d n=>by simp[f,A0.BS,d,n]
 have M:Tr w ρ w f:=by
  refine⟨BV _,λ_ _ _=>rfl,λc F=>.inl ?_,rfl,rfl,λj o H=>?_,rfl,rfl,rfl,BV _⟩
  ·obtain⟨j,o,d,n⟩:=F;by_cases r:j=fresh ob
   ·subst r;rw[z]at d;cases d;simp[RO.blk?]at n;subst n;exact⟨id,_,N,rfl⟩
   ·by_cases l:j=id
    ·subst l;rw[t]at d;cases d;simp[RO.blk?]at n
    ·rw[s j r l]at d;exact⟨j,o,d,n⟩
  ·by_cases r:j=fresh ob
   ·subst r;rw[T]at H;cases H
   ·by_cases l:j=id
    ·subst l;exact⟨_,t,.AY o⟩
    ·exact⟨o,by rw[s j r l];exact H,.refl o⟩
 refine⟨M,⟨λj y u=>?_,λj o H=>?_,λi j p q c d n h3 h4=>?_,h.D7,LO M h.Dn,λc F=>?_,⟨?_,h.CX.set⟩⟩⟩
 ·simp only[AA]at u;split at u
  ·rename_i e;subst e;simp only[Bu]at u;subst u;rcases h.BU id _ J with⟨q,_⟩|⟨b',Y,O,sp,Q,g2,g3,g4,g5⟩
   ·rw[N]at q;cases q
   ·rw[N]at Q;simp only[Bu,RO.A9.injEq]at Q;obtain⟨rfl,_,rfl⟩:=Q;have R:=Fy M.mono _ _ g3;have q1:=(MN G k O R).1;generalize aa:Cf (G.take k)=Z at q1;refine .inr ⟨b,g,O.take Z,O.drop Z++sp,by rw[z];simp[Gi hk],by rw[<-Kk,Kh];exact g2,q1,λx W=>g4 x (Fe W),by rw[<-Kk,Kh];exact g5⟩
  ·rename_i r;rw[Xc ob id j ⟨_,J⟩]at u;split at u
   next e=>subst e;simp at u;subst u;exact t
   next l=>exact Qh.tr M (h.BU j y u) (s j (λe=>r e.symm) l) (λ_ _ _ _=>rfl)
 ·simp only[AA];split
  ·exact⟨_,rfl⟩
  ·rename_i r;rw[Xc ob id j ⟨_,J⟩];split
   ·exact⟨_,rfl⟩
   next l=>exact h.D1 j o (by rw[<-s j (λe=>r e.symm) l];exact H)
 ·have v:∀{j:Nat}{o:RO}{c:Nat},f.m j=some o->o.blk? = some c->∃L o',ρ.m L=some o'/\o'.blk? = some c/\(j=if L=id then fresh ob else L):=by
   intro j o c d n;by_cases r:j=fresh ob
   ·subst r;rw[z]at d;cases d;simp[RO.blk?]at n;subst n;exact⟨id,_,N,rfl,by simp⟩
   ·by_cases l:j=id
    ·subst l;rw[t]at d;cases d;simp[RO.blk?]at n
    ·rw[s j r l]at d;exact⟨j,o,d,n,by simp[l]⟩
  obtain⟨i',p',a1,a2,a3⟩:=v d h3;obtain⟨L,q',b1,b2,b3⟩:=v n h4;have:=h.inj i' L p' q' c a1 b1 a2 b2;subst this;rw[a3,b3]
 ·rcases M.Cs c F with F|F
  ·exact h.DT c F
  ·intro W;have:=h.D7 c W;omega
 ·exact dr ob _ (Xo ob)
def Ya1(H:SM w ρ sl a)(u:OM w ρ ob){p:Op}{z:Nat}{x F:A}(d:I.Aa P p (.I9 z x F)=true)(h:Mz z ob K (x.ev sl) (F.ev sl)):Qc P a w ρ p K Pn:=by
 cases p<;>simp only[I.Aa,BF]at d;rename_i t x1 lo Y mx;cases lo<;>cases Y<;>cases mx<;>(try simp only[BF]at d)
 ·rename_i h1;simp only[As]at d;obtain⟨⟨W,hx⟩,hy⟩:=d;obtain⟨E,ht,g,hz⟩:∃E,P.underlying t=some (.slice E)/\X7 P E=some z/\z≠0:=by
   revert W;split
   next e g=>intro h;simp at h;exact⟨e,g,h.1,h.2⟩
   ·intro h;cases h
  have M:=A.Av H hx;have N:=A.Av H hy;unfold Mz at h;split at h
  ·rename_i id n m Q R;rw[Q,Yj]at M;rw[R,X1]at N;obtain⟨o,r,s⟩:=M;unfold XT at h;split at h
   ·rename_i E' q f G;obtain⟨rfl,rfl,j,⟨i,Z⟩,X⟩:=h;rcases u.BU id _ G with⟨_,L⟩|⟨b,c,O,sp,J,L,q3,q4,q5⟩
    ·exact absurd L j
    ·rw[r]at J;cases J;simp only[RO.slice]at s;have T:a.eval x1=.slice (some ⟨b,0,none⟩) f.length c:=by simpa using s.2.2
     have y:f.length<=c:=by
      have e4:O.length=f.length*q:=by rw[Gf _ _ q3,EO _ q4]
      have U:f.length*q<=c*q:=by rw[<-q5,DV];omega
      exact QV U (by omega)
     obtain⟨t1,o1⟩:=Yjl u (k:=m.toNat) G r (by omega) hz;refine Xl (v:=.slice (some ⟨b,0,none⟩) m.toNat c) (λo ho=>?_) X (Yj.2 ⟨.A9 b m.toNat c,by simp[A0.BS],?_⟩) o1 t1
     ·have l:(Instr.sliceBound (.int .i64 m) c .sliceAcap).run P w=.ok m.toNat w:=by
       simp only[Instr.sliceBound,asIntOf,Sem.run_bind,Sem.run_pure,Result.andThen_ok];rw[BL ⟨i,by omega⟩];simp
      simp[execOp,ho,Instr.sliceAt,Instr.slice,T,N,Xa ht,Instr.sliceBounds,l,Xq g,Addr.add]
     ·simp[RO.slice]
   ·cases h
  ·cases h
def I.Av{P:Az}(f:ρ.gl=P.g)(e:SM w ρ sl a)(d:OM w ρ ob){j:Op}:∀{i:I},i.Aa P.p j=true->i.wp P sl ob K Pn->Qc P.p a w ρ j K Pn
|.c _,b,h=>Ys0 e d b h
|.box _ _,b,h=>(wV e d b h).Dv
|.alloc _ _,b,h=>(uw d b h).Dv
|.GU _ _ _,b,h=>(yx e d b h).Dv d
|.GS _ _ _ _,b,h=>(wT e d b h).Dv
|.st _ _ _,b,h=>Yjq e d b h
|.I0 _ _ _ _ _,b,h=>Yaj e d b h
|.ER _ _ _ _,b,h=>X1f e d b h
|.call _ _,b,h=>X1g f e d b h
|.BX _ _,b,h=>(uv f e d b h).Dv d
|.Cq _ _,b,h=>Xxc f e d b h
|.panic _,b,h=>Xxd e d b h
|.HQ _,b,h=>(yQ e d b h).Dv d
|.ET _ _ _,b,h=>X1i e d b h
|.Kb _,b,h=>Yav e d b h
|.IZ _ _ _,b,h=>Yaq e d b h
|.H3 _ _ _ _ _,b,h=>Yaw e d b h
|.I5 _ _ _,b,h=>Yax e d b h
|.Hy _,b,h=>Yan e d b h
|.EY _ _ _,b,h=>X1j e d b h
|.HP _,b,h=>Yat e d b h
|.Ib _ _ _ _ _,b,h=>Yas e d b h
|.C7 _ _ _ _,b,h=>X1h e d b h
|.KS _ _ _ _,b,h=>Yao f d b h
|.Ie _ _ _,b,h=>Ya0 e d b h
|.Gx _ _ _ _,b,h=>(wU e d b h).Dv
|.F7 _ _ _ _ _,b,h=>Yak e d b h
|.gv _,b,_=>absurd b (by simp[I.Aa])
|.Ia _ _ _,b,h=>Yar e d b h
|.HR _ _ _ _ _,b,h=>Yaz e d b h
|.I1 _ _ _,b,h=>Yam e d b h
|.IV _ _ _,b,h=>Yal e d b h
|.Hz _ _ _ _ _,b,h=>(y8 f e d b h).Dv d
|.Ic _,b,h=>(wW e d b h).Dv
|.I6 _,b,h=>Yay e d b h
|.IW _,b,h=>(yy e d b h).Dv d
|.EI _,b,h=>(wH e d b h).Dv d
|.HO _ _ _,b,h=>(yP e d b h).Dv d
|.Dp _ _ _ _ _ _,b,h=>Yap f e d b h
|.I4 _ _ _ _ _,b,h=>Yau e d b h
|.I9 _ _ _,b,h=>Ya1 e d b h
|.Bx _ _,b,h=>(ux f e d b h).Dv
def I.kind:I->Nat
|.c b=>if b.Df then 5 else if b.ES then 1 else 0
|.GU _ _ _|.HQ _|.BX _ _|.Hz _ _ _ _ _|.IW _|.EI _|.HO _ _ _=>2
|.box _ _|.alloc _ _|.GS _ _ _ _|.Gx _ _ _ _|.Ic _|.Bx _ _=>4
|_=>3
def qF{P:Az}(k:ρ.gl=P.g)(f:SM w ρ sl a)(e:OM w ρ ob){l:Op}:∀{i:I},i.kind=2->i.Aa P.p l=true->i.wp P sl ob K Pn->SV P.p a w ρ l ob K
|.GU _ _ _,_,d,h=>(yx f e d h).FX
|.Hz _ _ _ _ _,_,d,h=>(y8 k f e d h).FX
|.HQ _,_,d,h=>(yQ f e d h).FX
|.BX _ _,_,d,h=>uv k f e d h
|.IW _,_,d,h=>(yy f e d h).FX
|.EI _,_,d,h=>(wH f e d h).FX
|.HO _ _ _,_,d,h=>(yP f e d h).FX
|.c j,b,_,_=>by exfalso;simp only[I.kind]at b;revert b;cases j.Df<;>cases j.ES<;>simp
|.Bx _ _,b,_,_|.Ic _,b,_,_|.I6 _,b,_,_|.Dp _ _ _ _ _ _,b,_,_|.I4 _ _ _ _ _,b,_,_|.I9 _ _ _,b,_,_|.box _ _,b,_,_|.alloc _ _,b,_,_|.GS _ _ _ _,b,_,_|.st _ _ _,b,_,_|.I0 _ _ _ _ _,b,_,_|.ER _ _ _ _,b,_,_|.call _ _,b,_,_|.Cq _ _,b,_,_|.panic _,b,_,_|.ET _ _ _,b,_,_|.Kb _,b,_,_|.IZ _ _ _,b,_,_|.H3 _ _ _ _ _,b,_,_|.I5 _ _ _,b,_,_|.Hy _,b,_,_|.EY _ _ _,b,_,_|.HP _,b,_,_|.Ib _ _ _ _ _,b,_,_|.C7 _ _ _ _,b,_,_|.KS _ _ _ _,b,_,_|.Ie _ _ _,b,_,_|.Gx _ _ _ _,b,_,_|.F7 _ _ _ _ _,b,_,_|.gv _,b,_,_|.Ia _ _ _,b,_,_|.HR _ _ _ _ _,b,_,_|.I1 _ _ _,b,_,_|.IV _ _ _,b,_,_=>by simp[I.kind]at b
def qG{P:Az}(l:ρ.gl=P.g)(f:SM w ρ sl a)(e:OM w ρ ob){k:Op}:∀{i:I},i.kind=4->i.Aa P.p k=true->i.wp P sl ob K Pn->Kz P.p a w ρ k K
|.Bx _ _,_,d,h=>ux l f e d h
|.box _ _,_,d,h=>wV f e d h
|.alloc _ _,_,d,h=>uw e d h
|.GS _ _ _ _,_,d,h=>wT f e d h
|.Gx _ _ _ _,_,d,h=>wU f e d h
|.Ic _,_,d,h=>wW f e d h
|.c j,b,_,_=>by exfalso;simp only[I.kind]at b;revert b;cases j.Df<;>cases j.ES<;>simp
|.I6 _,b,_,_|.IW _,b,_,_|.EI _,b,_,_|.HO _ _ _,b,_,_|.Dp _ _ _ _ _ _,b,_,_|.I4 _ _ _ _ _,b,_,_|.I9 _ _ _,b,_,_|.GU _ _ _,b,_,_|.HQ _,b,_,_|.BX _ _,b,_,_|.st _ _ _,b,_,_|.I0 _ _ _ _ _,b,_,_|.ER _ _ _ _,b,_,_|.call _ _,b,_,_|.Cq _ _,b,_,_|.panic _,b,_,_|.ET _ _ _,b,_,_|.Kb _,b,_,_|.IZ _ _ _,b,_,_|.H3 _ _ _ _ _,b,_,_|.I5 _ _ _,b,_,_|.Hy _,b,_,_|.EY _ _ _,b,_,_|.HP _,b,_,_|.Ib _ _ _ _ _,b,_,_|.C7 _ _ _ _,b,_,_|.KS _ _ _ _,b,_,_|.Ie _ _ _,b,_,_|.F7 _ _ _ _ _,b,_,_|.gv _,b,_,_|.Ia _ _ _,b,_,_|.HR _ _ _ _ _,b,_,_|.I1 _ _ _,b,_,_|.IV _ _ _,b,_,_|.Hz _ _ _ _ _,b,_,_=>by simp[I.kind]at b
end
end Go.Ab
