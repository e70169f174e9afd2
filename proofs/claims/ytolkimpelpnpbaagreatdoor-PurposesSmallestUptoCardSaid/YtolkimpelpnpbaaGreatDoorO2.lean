/- Texts of this claim joined by a program, part 2 of 20; the last is: That append does what Ab9 says of it. Over any program; no condition. -/
import Derived.Test.YtolkimpelpnpbaaGreatDoorO1
set_option linter.unusedSimpArgs false
set_option linter.unusedVariables false
set_option linter.unusedSectionVars false
set_option linter.defProp false
namespace Go.Ab
open Go

def Xa:Xb->Nat
 | []=>0
 | (j,_)::r=>if Xa r<=j then j+1 else Xa r
theorem X1:∀(ob:Xb) (j:Nat),Xa ob<=j->Xc ob j=none
 | [],_,_=>rfl
 | (i,o)::r,j,h=>by
  simp only[Xa]at h;simp only[Xc];split at h
  ·rw[Ubo (by omega)]; exact X1 r j (by omega)
  ·rw[Ubo (by omega)]; exact X1 r j h
theorem X2 (ob:Xb):Xc ob (Xa ob)=none:=X1 ob _ (Uak _)

def Yhv (ob:Xb)(id n:Nat):Option Ob->Option (D×Xb)
 | some (.arr _ sz xs)=>if sz ≠ 0/\n=xs.length then some (.list sz xs,setO ob id .gone) else none
 | _=>none
def X1s:Option (List D×Xb)->Option (D×Xb)
 | some (l,ob)=>some (.agg l,ob)
 | none=>none
def Yf6 (t:Nat):Option (D×Xb)->Option (D×Xb)
 | some (x,ob)=>some (.iface t x,ob)
 | none=>none
def fnG (f:Nat)(ob:Xb):Option (List D)->Option (List D)->Option (D×Xb)
 | some l,some m=>some (.fn f l m,ob)
 | _,_=>none
def Xbn (x:D):Option (List D×Xb)->Option (List D×Xb)
 | some (l,ob)=>some (x::l,ob)
 | none=>none
mutual
def V.giv (ob:Xb):V->Option (D×Xb)
 | .d x=>some (x,ob)
 | .sl id n=>Yhv ob id n (Xc ob id)
 | .agg xs=>X1s (V.givs ob xs)
 | .iface t x=>Yf6 t (V.giv ob x)
 | .fn f a b=>fnG f ob (V.allD a) (V.allD b)
 | _=>none
def V.givs (ob:Xb):List V->Option (List D×Xb)
 | []=>some ([],ob)
 | x::r=>match V.giv ob x with
  | some (y,ob1)=>Xbn y (V.givs ob1 r)
  | none=>none
end

section
variable {w:World}
theorem Xjg {ρ:Env}{f:Nat}{a b:List V}{ob ob':Xb}{d:D}{cs:List Value}(h:(V.fn f a b).repC w ρ cs)(e:fnG f ob (V.allD a) (V.allD b)=some (d,ob')):ob'=ob/\d.rep w (own ρ) cs/\d.isAgg=false:=by
 cases ha:V.allD a with
 | none=>simp[ha,fnG]at e
 | some l=>
  cases hb:V.allD b with
  | none=>simp[ha,hb,fnG]at e
  | some m=>
   simp only[ha,hb,fnG,Uaq,Ub0]at e;obtain⟨rfl,rfl⟩:=e;have h1:=V.allD_map ha;have h2:=V.allD_map hb;subst h1; subst h2;simp only[V.repC]at h;obtain⟨fs,gs,e1,h3,h4⟩:=h;exact⟨rfl,by simp only[D.rep]; exact⟨fs,gs,e1,Xbj.1 h3,Xbj.1 h4⟩,rfl⟩
mutual
theorem V.giv_sound:∀(v:V) (ob:Xb) (ρ:Env) (cs:List Value) (d:D) (ob':Xb),OM w ρ ob->v.repC w ρ cs->V.giv ob v=some (d,ob')->
  ∃ρ',Tr w ρ w ρ'/\OM w ρ' ob'/\d.rep w (own ρ') cs/\d.isAgg=v.isAgg
 | .d x,ob,ρ,cs,dd,ob',hO,h,e=>by
  simp only[V.giv,Uaq,Ub0]at e;obtain⟨rfl,rfl⟩:=e;exact⟨ρ,Tr.refl _ _,hO,by simpa only[V.repC]using h,by cases x<;>rfl⟩
 | .sl id n,ob,ρ,cs,dd,ob',hO,h,e=>by
  simp only[V.giv]at e;unfold Yhv at e;split at e
  ·rename_i E sz xs hl;split at e
   ·rename_i hc;simp only[Uaq,Ub0]at e;obtain⟨rfl,rfl⟩:=e;obtain⟨hsz,rfl⟩:=hc;obtain⟨t1,o1,_⟩:=Xgi hO ⟨_,hl⟩;have h0:=h;simp only[V.repC]at h0;obtain⟨o,u,h1,rfl,h2⟩:=h0;have:=Ji hO hl hsz (u:=u) (by rw[Yj]; exact⟨o,h1,h2⟩);refine⟨_,t1,o1,?_,rfl⟩;rw[Wa (by simp[V.isAgg]) (by simp)]at this;simpa only[V.repC]using this
   ·cases e
  ·cases e
 | .agg xs,ob,ρ,cs,dd,ob',hO,h,e=>by
  simp only[V.giv]at e;cases hg:V.givs ob xs with
  | none=>simp[hg,X1s]at e
  | some r=>
   obtain⟨l,ob1⟩:=r;simp only[hg,X1s,Uaq,Ub0]at e;obtain⟨rfl,rfl⟩:=e;simp only[V.repC]at h;obtain⟨ρ',t,o,hr⟩:=V.givs_sound xs ob ρ cs l ob1 hO h hg;exact⟨ρ',t,o,by simpa only[D.rep]using hr,rfl⟩
 | .iface t x,ob,ρ,cs,dd,ob',hO,h,e=>by
  simp only[V.giv]at e;cases hg:V.giv ob x with
  | none=>simp[hg,Yf6]at e
  | some r=>
   obtain⟨y,ob1⟩:=r;simp only[hg,Yf6,Uaq,Ub0]at e;obtain⟨rfl,rfl⟩:=e;simp only[V.repC]at h;obtain⟨u,e1,h1⟩:=h;rcases h1 with h1 | ⟨p,ds,q,r⟩ | ⟨p,r⟩
   ·subst h1; simp[V.giv]at hg
   ·obtain⟨ρ',t1,o,hr,ha⟩:=V.giv_sound x ob ρ ds y ob1 hO r hg;exact⟨ρ',t1,o,by simp only[D.rep]; exact⟨u,e1,.inl ⟨by rw[ha]; exact p,ds,q,hr⟩⟩,rfl⟩
   ·obtain⟨ρ',t1,o,hr,ha⟩:=V.giv_sound x ob ρ [u] y ob1 hO r hg;exact⟨ρ',t1,o,by simp only[D.rep]; exact⟨u,e1,.inr ⟨by rw[ha]; exact p,hr⟩⟩,rfl⟩
 | .fn f a b,ob,ρ,cs,dd,ob',hO,h,e=>by
  simp only[V.giv]at e;obtain⟨rfl,h1,h2⟩:=Xjg h e;exact⟨ρ,Tr.refl _ _,hO,h1,by rw[h2]; rfl⟩
 | .ptr _ _,_,_,_,_,_,_,_,e | .sd _ _,_,_,_,_,_,_,_,e | .mp _,_,_,_,_,_,_,_,e | .hd _ _,_,_,_,_,_,_,_,e | .ep _ _ _ _ _ _,_,_,_,_,_,_,_,e | .bs _ _ _ _,_,_,_,_,_,_,_,e | .tup _,_,_,_,_,_,_,_,e | .undef,_,_,_,_,_,_,_,e | .any,_,_,_,_,_,_,_,e=>by simp[V.giv]at e
theorem V.givs_sound:∀(vs:List V) (ob:Xb) (ρ:Env) (cs:List Value) (l:List D) (ob':Xb),OM w ρ ob->V.repCs w ρ vs cs->V.givs ob vs=some (l,ob')->
  ∃ρ',Tr w ρ w ρ'/\OM w ρ' ob'/\D.repL w (own ρ') l cs
 | [],ob,ρ,cs,l,ob',hO,h,e=>by
  simp only[V.givs,Uaq,Ub0]at e;obtain⟨rfl,rfl⟩:=e;exact⟨ρ,Tr.refl _ _,hO,by simpa only[V.repCs,D.repL]using h⟩
 | x::r,ob,ρ,cs,l,ob',hO,h,e=>by
  simp only[V.givs]at e;simp only[V.repCs]at h;obtain⟨c1,c2,rfl,h1,h2⟩:=h;split at e
  ·rename_i dd ob1 hg;obtain⟨ρ1,t1,o1,hr,_⟩:=V.giv_sound x ob ρ c1 dd ob1 hO h1 hg;cases hg2:V.givs ob1 r with
   | none=>simp[hg2,Xbn]at e
   | some q=>
    obtain⟨l2,ob2⟩:=q;simp only[hg2,Xbn,Uaq,Ub0]at e;obtain⟨rfl,rfl⟩:=e;obtain⟨ρ2,t2,o2,hr2⟩:=V.givs_sound r ob1 ρ1 c2 l2 ob2 o1 (V.repCs_tr t1 _ _ h2) hg2;exact⟨ρ2,t1.trans t2,o2,by simp only[D.repL]; exact⟨c1,c2,rfl,D.rep_mono t2.mono _ _ hr,hr2⟩⟩
  ·cases e
end
theorem Xb3 {ρ:Env}{ob ob':Xb}{v:V}{d:D}{u:Value}(hO:OM w ρ ob)(h:v.rep w ρ u)(e:V.giv ob v=some (d,ob')):∃ρ',Tr w ρ w ρ'/\OM w ρ' ob'/\(V.d d).rep w ρ' u:=by
 rcases h with h | ⟨p,ds,q,r⟩ | ⟨p,r⟩
 ·subst h; simp[V.giv]at e
 ·obtain⟨ρ',t1,o,hr,ha⟩:=V.giv_sound v ob ρ ds d ob' hO r e;exact⟨ρ',t1,o,J2.2 (.inl ⟨by rw[ha]; exact p,ds,q,hr⟩)⟩
 ·obtain⟨ρ',t1,o,hr,ha⟩:=V.giv_sound v ob ρ [u] d ob' hO r e;exact⟨ρ',t1,o,J2.2 (.inr ⟨by rw[ha]; exact p,hr⟩)⟩
end

def gvL (g:Xb->V->Option (D×Xb)):Xb->List V->Option (List D×Xb)
 | ob,[]=>some ([],ob)
 | ob,x::r=>match g ob x with
  | some (y,ob1)=>Xbn y (gvL g ob1 r)
  | none=>none
def gvT (id sz:Nat)(l:List D)(ob:Xb):Option Ob->Option (D×Xb)
 | some (.vec _ _ _)=>some (.list sz l,setO ob id .gone)
 | _=>none
def gvS (id sz:Nat):Option (List D×Xb)->Option (D×Xb)
 | some (l,ob1)=>gvT id sz l ob1 (Xc ob1 id)
 | none=>none
def Y3a (g:Xb->V->Option (D×Xb))(ob:Xb)(id n:Nat):Option Ob->Option (D×Xb)
 | some (.arr _ sz xs)=>if sz ≠ 0/\n=xs.length then some (.list sz xs,setO ob id .gone) else none
 | some (.vec _ sz xs)=>if sz ≠ 0/\n=xs.length then gvS id sz (gvL g ob xs) else none
 | _=>none
def V.gvF:Nat->Xb->V->Option (D×Xb)
 | 0,_,_=>none
 | k+1,ob,v=>match v with
  | .d x=>some (x,ob)
  | .sl id n=>Y3a (V.gvF k) ob id n (Xc ob id)
  | .agg xs=>X1s (gvL (V.gvF k) ob xs)
  | .iface t x=>Yf6 t (V.gvF k ob x)
  | .fn f a b=>fnG f ob (V.allD a) (V.allD b)
  | _=>none
section
variable {w:World}
def Y2c (g:Xb->V->Option (D×Xb))(w:World):Prop:=∀(v:V) (ob:Xb) (ρ:Env) (cs:List Value) (d:D) (ob':Xb),OM w ρ ob->v.repC w ρ cs->g ob v=some (d,ob')->
  (∃ρ',Tr w ρ w ρ'/\OM w ρ' ob'/\d.rep w (own ρ') cs/\d.isAgg=v.isAgg)/\∀j,Xc ob' j=Xc ob j\/Xc ob' j=some .gone
theorem Xj9 {ob:Xb}{id j:Nat}{x:Ob}(hl:Xc ob id=some x):Xc (setO ob id .gone) j=Xc ob j\/Xc (setO ob id .gone) j=some .gone:=by
 rw[Xs ob id j ⟨_,hl⟩];split
 ·exact .inr rfl
 ·exact .inl rfl
theorem Xc7 {g:Xb->V->Option (D×Xb)}(hg:Y2c g w):∀(vs:List V) (ob:Xb) (ρ:Env) (cs:List Value) (l:List D) (ob':Xb),OM w ρ ob->V.repCs w ρ vs cs->gvL g ob vs=some (l,ob')->
  (∃ρ',Tr w ρ w ρ'/\OM w ρ' ob'/\D.repL w (own ρ') l cs/\l.map D.sz=vs.map V.size)/\∀j,Xc ob' j=Xc ob j\/Xc ob' j=some .gone
 | [],ob,ρ,cs,l,ob',hO,h,e=>by
  simp only[gvL,Uaq,Ub0]at e;obtain⟨rfl,rfl⟩:=e;exact⟨⟨ρ,Tr.refl _ _,hO,by simpa only[V.repCs,D.repL]using h,rfl⟩,fun _=>.inl rfl⟩
 | x::r,ob,ρ,cs,l,ob',hO,h,e=>by
  simp only[gvL]at e;simp only[V.repCs]at h;obtain⟨c1,c2,rfl,h1,h2⟩:=h;split at e
  ·rename_i dd ob1 hq;obtain⟨⟨ρ1,t1,o1,hr,_⟩,k1⟩:=hg x ob ρ c1 dd ob1 hO h1 hq;cases hg2:gvL g ob1 r with
   | none=>simp[hg2,Xbn]at e
   | some q=>
    obtain⟨l2,ob2⟩:=q;simp only[hg2,Xbn,Uaq,Ub0]at e;obtain⟨rfl,rfl⟩:=e;obtain⟨⟨ρ2,t2,o2,hr2,hs2⟩,k2⟩:=Xc7 hg r ob1 ρ1 c2 l2 ob2 o1 (V.repCs_tr t1 _ _ h2) hg2;refine⟨⟨ρ2,t1.trans t2,o2,by simp only[D.repL]; exact⟨c1,c2,rfl,D.rep_mono t2.mono _ _ hr,hr2⟩,?_⟩,fun j=>?_⟩
    ·simp only[Uam,hs2,Ua1,Ua2];rw[<-D.rep_len _ _ hr,V.repC_len _ _ h1]; rfl
    ·rcases k2 j with k2 | k2
     ·rw[k2]; exact k1 j
     ·exact .inr k2
  ·cases e
theorem Xq6 {ρ:Env}{id n:Nat}{cs:List Value}(h:(V.sl id n).repC w ρ cs):∃o u,ρ.m id=some o/\cs=[u]/\o.slice n u:=by
 simpa only[V.repC]using h
theorem Xjp:∀(k:Nat),Y2c (V.gvF k) w
 | 0=>fun v ob ρ cs d ob' _ _ e=>by simp[V.gvF]at e
 | k+1=>fun v ob ρ cs dd ob' hO h e=>by
  have ih:=Xjp k;cases v with
  | d x=>
   simp only[V.gvF,Uaq,Ub0]at e;obtain⟨rfl,rfl⟩:=e;exact⟨⟨ρ,Tr.refl _ _,hO,by simpa only[V.repC]using h,by cases x<;>rfl⟩,fun _=>.inl rfl⟩
  | agg xs=>
   simp only[V.gvF]at e;cases hg:gvL (V.gvF k) ob xs with
   | none=>simp[hg,X1s]at e
   | some r=>
    obtain⟨l,ob1⟩:=r;simp only[hg,X1s,Uaq,Ub0]at e;obtain⟨rfl,rfl⟩:=e;simp only[V.repC]at h;obtain⟨⟨ρ',t,o,hr,_⟩,hk⟩:=Xc7 ih xs ob ρ cs l ob1 hO h hg;exact⟨⟨ρ',t,o,by simpa only[D.rep]using hr,rfl⟩,hk⟩
  | iface t x=>
   simp only[V.gvF]at e;cases hg:V.gvF k ob x with
   | none=>simp[hg,Yf6]at e
   | some r=>
    obtain⟨y,ob1⟩:=r;simp only[hg,Yf6,Uaq,Ub0]at e;obtain⟨rfl,rfl⟩:=e;simp only[V.repC]at h;obtain⟨u,e1,h1⟩:=h;rcases h1 with h1 | ⟨p,ds,q,r⟩ | ⟨p,r⟩
    ·subst h1; cases k<;>simp[V.gvF]at hg
    ·obtain⟨⟨ρ',t1,o,hr,ha⟩,hk⟩:=ih x ob ρ ds y ob1 hO r hg;exact⟨⟨ρ',t1,o,by simp only[D.rep]; exact⟨u,e1,.inl ⟨by rw[ha]; exact p,ds,q,hr⟩⟩,rfl⟩,hk⟩
    ·obtain⟨⟨ρ',t1,o,hr,ha⟩,hk⟩:=ih x ob ρ [u] y ob1 hO r hg;exact⟨⟨ρ',t1,o,by simp only[D.rep]; exact⟨u,e1,.inr ⟨by rw[ha]; exact p,hr⟩⟩,rfl⟩,hk⟩
  | fn f a b=>
   simp only[V.gvF]at e;obtain⟨rfl,h1,h2⟩:=Xjg h e;exact⟨⟨ρ,Tr.refl _ _,hO,h1,by rw[h2]; rfl⟩,fun _=>.inl rfl⟩
  | sl id n=>
   simp only[V.gvF]at e;unfold Y3a at e;split at e
   ·rename_i E sz xs hl;split at e
    ·rename_i hc;simp only[Uaq,Ub0]at e;obtain⟨rfl,rfl⟩:=e;obtain⟨hsz,rfl⟩:=hc;obtain⟨t1,o1,_⟩:=Xgi hO ⟨_,hl⟩;obtain⟨o,u,h1,rfl,h2⟩:=Xq6 h;have:=Ji hO hl hsz (u:=u) (by rw[Yj]; exact⟨o,h1,h2⟩);refine⟨⟨_,t1,o1,?_,rfl⟩,fun j=>Xj9 hl⟩;rw[Wa (by simp[V.isAgg]) (by simp)]at this;simpa only[V.repC]using this
    ·cases e
   ·rename_i E sz xs hl;split at e
    ·rename_i hc;obtain⟨hsz,rfl⟩:=hc;cases hg:gvL (V.gvF k) ob xs with
     | none=>simp[hg,gvS]at e
     | some r=>
      obtain⟨l,ob1⟩:=r;simp only[hg,gvS]at e;unfold gvT at e;split at e
      ·rename_i E' sz' xs' hl1;simp only[Uaq,Ub0]at e;obtain⟨rfl,rfl⟩:=e;obtain⟨o,u,h1,rfl,h2⟩:=Xq6 h;have fin:∀(ρ1:Env),Tr w ρ w ρ1->OM w ρ1 ob1->V6 w ρ1 id (.arr E sz l)->l.length=xs.length->(∀j,Xc ob1 j=Xc ob j\/Xc ob1 j=some .gone)->
         (∃ρ',Tr w ρ w ρ'/\OM w ρ' (setO ob1 id .gone)/\(D.list sz l).rep w (own ρ') [u]/\(D.list sz l).isAgg=(V.sl id xs.length).isAgg)/\∀j,Xc (setO ob1 id .gone) j=Xc ob j\/Xc (setO ob1 id .gone) j=some .gone:=by
        intro ρ1 t1 o1 hm hlen hk;have o2:=o1.swap hl1 hm;have hl2:Xc (setO ob1 id (.arr E sz l)) id=some (.arr E sz l):=by rw[Xs ob1 id id ⟨_,hl1⟩]; simp
        obtain⟨t3,o3,_⟩:=Xgi o2 ⟨_,hl2⟩;rw[Xdu]at o3;have hv:(V.sl id l.length).rep w ρ1 u:=V.rep_tr t1 (by rw[hlen,Yj]; exact⟨o,h1,h2⟩);have h4:=Ji o2 hl2 hsz hv;refine⟨⟨_,t1.trans t3,o3,?_,rfl⟩,fun j=>?_⟩
        ·rw[Wa (by simp[V.isAgg]) (by simp)]at h4;simpa only[V.repC]using h4
        ·rcases Xj9 (j:=j) hl1 with h5 | h5
         ·rw[h5]; exact hk j
         ·exact .inr h5
       rcases hO.one id _ hl with⟨hvi,rfl⟩ | ⟨b,cap,cs,sp,g1,g2,g3,g4,g5⟩
       ·simp only[gvL,Uaq,Ub0]at hg;obtain⟨rfl,rfl⟩:=hg;exact fin ρ (Tr.refl _ _) hO (.inl ⟨hvi,rfl⟩) rfl (fun _=>.inl rfl)
       ·obtain⟨⟨ρ1,t1,o1,hr,hs⟩,hk⟩:=Xc7 ih xs ob ρ cs l ob1 hO g3 hg;have hlen:l.length=xs.length:=by simpa using Ua4 List.length hs
        have hx':(Ob.vec E' sz' xs')=.vec E sz xs:=by
         rcases hk id with h5 | h5
         ·rw[hl1,hl]at h5; exact Ub1 h5
         ·rw[hl1]at h5; cases h5
        cases hx';obtain⟨o',p1,p2⟩:=t1.same id _ g1;have hρ1:ρ1.m id=some (.arr b xs.length cap):=by
         cases p2 with
         | refl=>exact p1
         | gone=>rcases o1.one id _ hl1 with⟨q1,_⟩ | ⟨_,_,_,_,q1,_⟩<;>(rw[p1]at q1; cases q1)
         | grow hlt hh=>
          rcases hh with⟨hq,_⟩ | ⟨b2,c2,hq⟩
          ·cases hq
          ·simp only[RO.arr.injEq]at hq;rcases o1.one id _ hl1 with⟨q1,_⟩ | ⟨_,_,_,_,q1,_⟩
           ·rw[p1]at q1; cases q1
           ·rw[p1]at q1;simp only[Uaq,RO.arr.injEq]at q1;omega
        refine fin ρ1 t1 o1 (.inr ⟨b,cap,cs,sp,by rw[hlen]; exact hρ1,g2,hr,fun x hx=>?_,g5⟩) hlen hk;have h6:x.sz∈l.map D.sz:=List.mem_map_of_mem hx;rw[hs]at h6;obtain⟨y,hy,h7⟩:=Ua5.1 h6;rw[<-h7]; exact g4 y hy
      ·cases e
    ·cases e
   ·cases e
  | _=>simp[V.gvF]at e
end

inductive Out where
 | ret (v:V)
 | panic (v:V)

def Xa4 (w:World)(ρ:Env):Ending->Out->Prop
 | .returned u,.ret v=>v.rep w ρ u
 | .panicked ch,.panic v=>∃u,ch=[{ v:=u,recovered:=false }]/\v.rep w ρ u
 | _,_=>False

structure Prg where
 p:Program
 g:Gl

structure ACall (P:Prg)(f:Nat)(vs:List V)(ob:Xb)(K:Out->Xb->Prop):Prop where
 run:∀w ρ args,OM w ρ ob->ρ.gl=P.g->V.reps w ρ vs args->Calls P.p f args.toArray w (fun e w'=>∃out ob' ρ',K out ob'/\Xa4 w' ρ' e out/\OM w' ρ' ob'/\Tr w ρ w' ρ')

theorem ACall.mono {P:Prg}{f:Nat}{vs:List V}{ob:Xb}{K K':Out->Xb->Prop}(h:ACall P f vs ob K)(hk:∀o b,K o b->K' o b):ACall P f vs ob K':=
 ⟨fun w ρ args ho hg hr=>(h.run w ρ args ho hg hr).mono fun _ _ ⟨out,ob',ρ',k,r⟩=>⟨out,ob',ρ',hk _ _ k,r⟩⟩

structure PCall (P:Prg)(f:Nat)(vs:List V)(ob:Xb)(K:V->Prop):Prop where
 run:∀w ρ args,OM w ρ ob->ρ.gl=P.g->V.reps w ρ vs args->Calls P.p f args.toArray w (fun e w'=>∃v u,K v/\e=.returned u/\v.rep w' ρ u/\Ext w w')

structure XCall (P:Prg)(f:Nat)(vs:List V)(ob:Xb)(K:V->Xb->Prop):Prop where
 run:∀w ρ args,OM w ρ ob->ρ.gl=P.g->V.reps w ρ vs args->Calls P.p f args.toArray w (fun e w'=>∃v ob' ρ' u,K v ob'/\e=.returned u/\v.rep w' ρ' u/\OM w' ρ' ob'/\Tr w ρ w' ρ'/\Ext w w')
theorem XCall.mono {P:Prg}{f:Nat}{vs:List V}{ob:Xb}{K K':V->Xb->Prop}(h:XCall P f vs ob K)(hk:∀v b,K v b->K' v b):XCall P f vs ob K':=
 ⟨fun w ρ args ho hg hr=>(h.run w ρ args ho hg hr).mono fun _ _ ⟨v,b,ρ',u,k,r⟩=>⟨v,b,ρ',u,hk v b k,r⟩⟩
theorem PCall.mono {P:Prg}{f:Nat}{vs:List V}{ob:Xb}{K K':V->Prop}(h:PCall P f vs ob K)(hk:∀v,K v->K' v):PCall P f vs ob K':=
 ⟨fun w ρ args ho hg hr=>(h.run w ρ args ho hg hr).mono fun _ _ ⟨v,u,k,r⟩=>⟨v,u,hk v k,r⟩⟩

theorem PCall.acall {P:Prg}{f:Nat}{vs:List V}{ob:Xb}{K:Out->Xb->Prop}(h:PCall P f vs ob fun v=>K (.ret v) ob):ACall P f vs ob K:=
 ⟨fun w ρ args ho hg hr=>(h.run w ρ args ho hg hr).mono fun e w' ⟨v,u,k,he,r,x⟩=>by subst he; exact⟨.ret v,ob,ρ,k,r,ho.ext x,x.tr⟩⟩

structure AYield (P:Prg)(id:Nat)(vs:List V)(ob:Xb)(K:Out->Xb->Prop):Prop where
 run:∀w ρ args b,OM w ρ ob->ρ.gl=P.g->V.reps w ρ vs args->ρ.m id=some (.map b)->
  ∃fn tmps assign body,(Instr.yield b args.toArray).run P.p w=.ok (.round b fn tmps assign body) w/\
   RoundIn Fence.wide 0 P.p b fn tmps assign body w (fun e w'=>∃out ob' ρ',K out ob'/\Xa4 w' ρ' e out/\OM w' ρ' ob'/\Tr w ρ w' ρ')
theorem AYield.mono {P:Prg}{id:Nat}{vs:List V}{ob:Xb}{K K':Out->Xb->Prop}(h:AYield P id vs ob K)(hk:∀o b,K o b->K' o b):AYield P id vs ob K':=
 ⟨fun w ρ args b ho hg hr hb=>let ⟨fn,tm,a1,a2,h1,h2⟩:=h.run w ρ args b ho hg hr hb; ⟨fn,tm,a1,a2,h1,h2.mono fun _ _ ⟨out,ob',ρ',k,r⟩=>⟨out,ob',ρ',hk _ _ k,r⟩⟩⟩
def Yf7:Option Ob->Prop
 | some (.lp _ _ _)=>True
 | _=>False

def Xm (P:Program)(f:Nat):Bool:=match P.funcs[f]? with
 | some fn=>fn.name != "runtime.NumGoroutine" &&fn.body.isSome
 | none=>false

def Xb6 (K Pn:V->Xb->Prop):Out->Xb->Prop
 | .ret v,ob=>K v ob
 | .panic v,ob=>Pn v ob

def Xtf (E:Nat)(ob:Xb)(K:V->Xb->Prop)(v:V):Prop:=v.sto=true/\K (.ptr (Xa ob) []) ((Xa ob,.box E v)::ob)
def Xlq (ob:Xb)(K:V->Xb->Prop):V->Prop
 | .d x=>K (.d (.ref x)) ob
 | _=>False
def X0o (ob:Xb)(id:Nat)(p:List Nat)(n E:Nat)(v t:V)(K:V->Xb->Prop):Option V->Prop
 | some old=>v.shape=old.shape/\old.size=n/\v.sto=true/\∃t',t.set p v=some t'/\K .undef (setO ob id (.box E t'))
 | none=>False
def X0n (ob:Xb)(id:Nat)(p:List Nat)(n:Nat)(v:V)(K:V->Xb->Prop):Option Ob->Prop
 | some (.box E t)=>X0o ob id p n E v t K (t.at p)
 | _=>False
def Yrt (ob:Xb)(id i n:Nat)(o:Ob)(v v0:V)(p:List Nat)(K:V->Xb->Prop):Option V->Prop
 | some old=>v.shape=old.shape/\old.size=n/\v.sto=true/\∃t',v0.set p v=some t'/\K .undef (setO ob id (Xn7 o i t'))
 | none=>False
def Ysw (ob:Xb)(id i n:Nat)(o:Ob)(v:V)(z f:Nat)(p:List Nat)(K:V->Xb->Prop):Option V->Prop
 | some v0=>(z=v0.size/\f=v0.shape.off p)/\Yrt ob id i n o v v0 p K (v0.at p)
 | none=>False
def Yrs (ob:Xb)(id m z i f:Nat)(p:List Nat)(n:Nat)(v:V)(K:V->Xb->Prop):Option Ob->Prop
 | some o=>Ysw ob id i n o v z f p K (Vk m i (some o))
 | none=>False
def stK (ob:Xb)(n:Nat)(v:V)(K:V->Xb->Prop):V->Prop
 | .ptr id p=>X0n ob id p n v K (Xc ob id)
 | .ep id m z i f p=>Yrs ob id m z i f p n v K (Xc ob id)
 | _=>False
def dK (K:List D->Prop):Option (List D)->Prop
 | some l=>K l
 | none=>False
def Wt (P:Prg)(args:List V)(ob:Xb)(K Pn:V->Xb->Prop):V->Prop
 | .fn f fi ca=>Xm P.p f=true/\ACall P f (fi++args++ca) ob (Xb6 K Pn)
 | .d (.fn f fi ca)=>Xm P.p f=true/\ACall P f (fi.map .d++args++ca.map .d) ob (Xb6 K Pn)
 | .hd true id=>Yf7 (Xc ob id)/\AYield P id args ob (Xb6 K Pn)
 | _=>False
def Jw (ob:Xb)(Pn:V->Xb->Prop):V->Prop
 | .iface t v=>Pn (.iface t v) ob
 | .d (.iface t v)=>Pn (.d (.iface t v)) ob
 | _=>False
def X0k (sz:Nat)(K:List D->Prop):V->Prop
 | .d (.list z ys)=>z=sz/\K ys
 | .d .nils=>K []
 | _=>False
def Xd8 (id E sz B n:Nat)(ob:Xb)(ys:List D)(K:V->Xb->Prop):Option Ob->Prop
 | some (.arr E' sz' xs)=>E'=E/\sz'=sz/\n=xs.length/\(2*(xs.length+ys.length)+192)*B<=281474976710656/\K (.sl id (xs.length+ys.length)) (setO ob id (.arr E sz (xs++ys)))
 | _=>False
def Xel (E sz B:Nat)(ob:Xb)(ys:List D)(K:V->Xb->Prop):V->Prop
 | .sl id n=>Xd8 id E sz B n ob ys K (Xc ob id)
 | .d .nils=>(2*ys.length+192)*B<=281474976710656/\K (.sl (Xa ob) ys.length) ((Xa ob,.arr E sz ys)::ob)
 | _=>False
def Zn:List UInt8->List D
 | []=>[]
 | b::r=>.int .u8 b.toNat::Zn r
def Ysc (K:V->Prop):V->Prop
 | .d (.list sz xs)=>sz=1/\∃s,xs=Zn s/\K (.d (.str s))
 | .d .nils=>K (.d (.str []))
 | _=>False

inductive I where
 | c (x:C)
 | box (E:Nat) (x:A)
 | alloc (E:Nat) (z:D)
 | bls (sz:Nat) (z:List D) (parts:List (Nat×A))
 | blo (E sz:Nat) (z:List D) (parts:List (Nat×A))
 | st (n:Nat) (x v:A)
 | app (E sz B:Nat) (x y:A)
 | appS (E B:Nat) (x y:A)
 | call (f:Nat) (args:List A)
 | pcall (f:Nat) (args:List A)
 | callv (x:A) (args:List A)
 | panic (x:A)
 | b2s (x:A)
 | s2b (x:A)
 | nilo (E sz:Nat) (x:A)
  | mvf (x:A)
  | ldf (n:Nat) (ag:Bool) (x:A)
  | mvg (E sz:Nat) (y x:A) (p:List Nat)
  | mvn (y x:A) (l:List (Nat×Nat×List Nat))
  | cvb (x:A)
  | ustr (E:Nat) (x y:A)
  | mkm (r:Option A)
  | lkp (kd z:D) (ok:Bool) (m k:A)
  | mset (kd:D) (m k v:A)
  | gld (g n:Nat) (ag:Bool) (x:D)
  | slg (n z:Nat) (x:A)
  | blv (E sz:Nat) (z:List D) (parts:List (Nat×A))
  | apv (E sz B:Nat) (x y:A)
  | gv (x:A)
  | ldg (n:Nat) (ag:Bool) (x:A)
  | slb (n z:Nat) (x:A) (lo hi:Option A)
  | cpy (z:Nat) (x y:A)
 | clr (z0:D) (z:Nat) (x:A)
  | gix (g n z:Nat) (x:D) (i:A)
  | rng (x:A)
 | nxt (x:A)
 | ety (x:A)
  | lenM (x:A)
  | isn (e m:Bool) (x:A)
  | inv (nm:String) (t f:Nat) (fl:Option (Nat×Nat×Nat×Bool)) (x:A) (args:List A)
  | mks (E sz B:Nat) (z:D) (l:A)
  | trn (z:Nat) (x:A) (h:A)
  | xcall (f:Nat) (args:List A)
  | boxr (E:Nat) (x:A)

def Xhn (E sz:Nat)(ob:Xb)(K:V->Xb->Prop):V->Prop
 | .d .nils=>K (.sl (Xa ob) 0) ((Xa ob,.arr E sz [])::ob)
 | _=>False
def Xp5 (K:V->Xb->Prop):Option (D×Xb)->Prop
 | some (d,ob)=>K (.d d) ob
 | none=>False
def Xmh (n:Nat)(ag:Bool)(ob:Xb)(K:V->Xb->Prop):Option V->Prop
 | some v=>v.size=n/\v.isAgg=ag/\Xp5 K (V.giv ob v)
 | none=>False
def X4x (n:Nat)(ag:Bool)(ob:Xb)(K:V->Xb->Prop):V->Prop
 | .ptr id p=>Xmh n ag ob K (atO ob id p)
 | _=>False
def X4y (ob:Xb)(id:Nat)(p:List Nat)(x:D)(K:V->Xb->Prop):Option Ob->Prop
 | some (.box E t)=>∃t',t.set p (.d x)=some t'/\K (.d x) (setO ob id (.box E t'))
 | _=>False
def Xxp (v:V)(id:Nat)(p:List Nat)(K:V->Xb->Prop):Option (D×Xb)->Prop
 | some (x,ob)=>x.shape=v.shape/\X4y ob id p x K (Xc ob id)
 | none=>False
def Xxq (n:Nat)(ag:Bool)(ob:Xb)(id:Nat)(p:List Nat)(K:V->Xb->Prop):Option V->Prop
 | some v=>v.size=n/\v.isAgg=ag/\Xxp v id p K (V.gvF 40000 ob v)
 | none=>False
def Yf9 (n:Nat)(ag:Bool)(ob:Xb)(K:V->Xb->Prop):V->Prop
 | .ptr id p=>Xxq n ag ob id p K (atO ob id p)
 | _=>False
def Xke (ob:Xb)(id E0 E sz:Nat)(y:V)(K:V->Xb->Prop):Option V->Prop
 | some t=>K y ((Xa ob,.arr E sz [])::setO ob id (.box E0 t))
 | none=>False
def Xed (ob:Xb)(id:Nat)(p:List Nat)(E sz:Nat)(y:V)(K:V->Xb->Prop):Option Ob->Prop
 | some (.box E0 t)=>(t.at p=some (.d .nils)/\Xke ob id E0 E sz y K (t.set p (.sl (Xa ob) 0)))\/((∃i n,t.at p=some (.sl i n))/\K y ob)
 | _=>False
def Xkc (ob:Xb)(E sz:Nat)(p:List Nat)(y:V)(K:V->Xb->Prop):V->Prop
 | .ptr id q=>Xed ob id (q++p) E sz y K (Xc ob id)
 | _=>False
def Xsi (y:V)(K:V->Xb->Prop)(x:V):List (Nat×Nat×List Nat)->Xb->Prop
 | [],ob=>K y ob
 | e::l,ob=>Xkc ob e.1 e.2.1 e.2.2 y (fun _ ob'=>Xsi y K x l ob') x
def Xf9 (id n:Nat)(ob:Xb)(K:V->Xb->Prop):Option Ob->Prop
 | some (.arr _ sz xs)=>sz ≠ 0/\n=xs.length/\xs ≠ []/\K (.d (.list sz xs)) (setO ob id .gone)
 | _=>False
def Xvg (ob:Xb)(K:V->Xb->Prop):V->Prop
 | .sl id n=>Xf9 id n ob K (Xc ob id)
 | _=>False
def Xla (id n:Nat)(m:Int)(E:Nat)(ob:Xb)(K:V->Xb->Prop):Option Ob->Prop
 | some (.arr E' sz xs)=>E'=E/\sz=1/\n=xs.length/\m=n/\n<=9223372036854775807/\xs ≠ []/\∃s,xs=Zn s/\K (.d (.str s)) (setO ob id .gone)
 | _=>False
def Xs8 (E:Nat)(ob:Xb)(K:V->Xb->Prop):V->V->Prop
 | .sd id n,.d (.int .i64 m)=>Xla id n m E ob K (Xc ob id)
 | .d .nilp,.d (.int .i64 m)=>m=0/\K (.d (.str [])) ob
 | _,_=>False
def X5w (K:List D->Prop):V->Prop
 | .d (.str s)=>K (Zn s)
 | _=>False
def Ysu (K:V->Prop):V->Prop
 | .d (.str s)=>K (.d (.list 1 (Zn s)))
 | _=>False

def D.alike0:D->D->Bool
 | .int k _,.int k' _=>decide (k=k')
 | .bool _,.bool _=>true
 | .str _,.str _=>true
 | _,_=>false
def Zv:List D->List D->Bool
 | [],[]=>true
 | x::r,y::s=>D.alike0 x y&&Zv r s
 | _,_=>false
def D.alike:D->D->Bool
 | .int k _,.int k' _=>decide (k=k')
 | .bool _,.bool _=>true
 | .str _,.str _=>true
 | .agg xs,.agg ys=>Zv xs ys
 | _,_=>false
def D.sameKey:D->D->Bool
 | .int _ a,.int _ b=>a==b
 | .bool a,.bool b=>a==b
 | .str a,.str b=>a==b
 | .agg xs,.agg ys=>D.eqbs xs ys
 | _,_=>false
def Wu (k:D):List (D×V)->Option V
 | []=>none
 | (j,v)::r=>if D.sameKey k j then some v else Wu k r
def Xk9 (k:D)(x:V):List (D×V)->List (D×V)
 | []=>[(k,x)]
 | (j,v)::r=>if D.sameKey k j then (k,x)::r else (j,v)::Xk9 k x r
def Xc8 (kd k:D)(es:List (D×V)):Prop:=D.alike kd k=true/\∀e∈es,D.alike k e.1=true
def X46 (z:D):Bool->Option V->V
 | true,some v=>.tup [v,.d (.bool true)]
 | true,none=>.tup [.d z,.d (.bool false)]
 | false,some v=>v
 | false,none=>.d z
def Xgl (kd z:D)(ok:Bool)(k:D)(K:V->Prop):Option Ob->Prop
 | some (.map es)=>Xc8 kd k es/\K (X46 z ok (Wu k es))
 | _=>False
def Xxu (ob:Xb)(kd z:D)(ok:Bool)(K:V->Prop):V->V->Prop
 | .mp id,.d k=>Xgl kd z ok k K (Xc ob id)
 | .d .nilm,.d k=>D.alike kd k=true/\K (X46 z ok none)
 | _,_=>False
def Jr (ob:Xb)(id:Nat)(kd k:D)(v:V)(K:V->Xb->Prop):Option Ob->Prop
 | some (.map es)=>Xc8 kd k es/\v.sto=true/\K .undef (setO ob id (.map (Xk9 k v es)))
 | _=>False
def Xde (ob:Xb)(kd:D)(v:V)(K:V->Xb->Prop):V->V->Prop
 | .mp id,.d k=>Jr ob id kd k v K (Xc ob id)
 | _,_=>False
def Xjv:V->Prop
 | .d (.int _ _)=>True
 | _=>False
def X05 (sl:Xf):Option A->Prop
 | none=>True
 | some x=>Xjv (x.ev sl)
def Xz0 (n z:Nat)(K:D->Prop):Option V->Prop
 | some (.d (.agg xs))=>xs.length=n/\(∀x∈xs,x.sz=z)/\K (.list z xs)
 | _=>False
def Ygd (ob:Xb)(n z:Nat)(K:V->Xb->Prop):V->Prop
 | .ptr id p=>Xz0 n z (fun x=>K (.d x) (setO ob id .gone)) (atO ob id p)
 | _=>False
def Yfo (id:Nat)(p:List Nat)(n z:Nat)(lo hi:Option V)(K:V->Prop):Option (List V)->Prop
 | some ks=>ks.length=n/\(∀k∈ks,k.size=z)/\Xab n (fun l h=>K (.bs id p l (h-l))) lo hi
 | none=>False
def Ysv (ob:Xb)(n z:Nat)(lo hi:Option V)(K:V->Xb->Prop):V->Prop
 | .ptr id p=>Yfo id p n z lo hi (fun v=>K v ob) (Zu (atO ob id p))
 | _=>False
def Xdj (lo:Nat)(xs ys:List D):List D:=xs.take lo++(ys++xs.drop (lo+ys.length))
def Yt7 (ob:Xb)(id E:Nat)(t:V)(p:List Nat)(lo n z:Nat)(ys:List D)(r:V)(K:V->Xb->Prop):Option V->Prop
 | some (.d (.agg xs))=>lo+n<=xs.length/\(∀x∈xs,x.sz=z)/\(D.agg (Xdj lo xs ys)).shape=(D.agg xs).shape/\∃t',t.set p (.d (.agg (Xdj lo xs ys)))=some t'/\K r (setO ob id (.box E t'))
 | _=>False
def X6f (ob:Xb)(id:Nat)(p:List Nat)(lo n z:Nat)(ys:List D)(r:V)(K:V->Xb->Prop):Option Ob->Prop
 | some (.box E t)=>Yt7 ob id E t p lo n z ys r K (t.at p)
 | _=>False
def Y2n (z:Nat)(ob:Xb)(K:V->Xb->Prop):V->V->Prop
 | .bs id p lo n,.d (.list z' ys)=>z'=z/\X6f ob id p lo n z (ys.take n) (.d (.int .i64 (min ys.length n:Nat))) K (Xc ob id)
 | _,_=>False
def Y2k (z0:D)(z:Nat)(ob:Xb)(K:V->Xb->Prop):V->Prop
 | .bs id p lo n=>(n=0->(∃E t,Xc ob id=some (.box E t))/\K (.tup []) ob)/\(n ≠ 0->(z0.sz=z/\z=1)/\X6f ob id p lo n z (List.replicate n z0) (.tup []) K (Xc ob id))
 | _=>False
def Y28 (n z:Nat)(K:V->Prop):D->V->Prop
 | .agg xs,.d (.int _ m)=>(0<=m/\m<n)/\xs.length=n/\(∀x∈xs,x.sz=z)/\K (.d (.ref (xs.getD m.toNat default)))
 | _,_=>False
def Yge (sz:Nat)(K:List V->Prop)(ob:Xb):V->Prop
 | .d (.list z ys)=>z=sz/\K (ys.map .d)
 | .d .nils=>K []
 | .sl id n=>(∃E ys,Xc ob id=some (.vec E sz ys)/\n=ys.length/\V.stos ys=true/\K ys)\/∃E ys,Xc ob id=some (.arr E sz ys)/\n=ys.length/\K (ys.map .d)
 | _=>False
def Xro (id E sz B n:Nat)(ob:Xb)(ys:List V)(K:V->Xb->Prop):Option Ob->Prop
 | some (.vec E' sz' xs)=>E'=E/\sz'=sz/\n=xs.length/\(2*(xs.length+ys.length)+192)*B<=281474976710656/\K (.sl id (xs.length+ys.length)) (setO ob id (.vec E sz (xs++ys)))
 | some (.arr E' sz' xs)=>E'=E/\sz'=sz/\n=xs.length/\(2*(xs.length+ys.length)+192)*B<=281474976710656/\K (.sl id (xs.length+ys.length)) (setO ob id (.vec E sz (xs.map .d++ys)))
 | _=>False
def Xtd (E sz B:Nat)(ob:Xb)(ys:List V)(K:V->Xb->Prop):V->Prop
 | .sl id n=>Xro id E sz B n ob ys K (Xc ob id)
 | .d .nils=>(2*ys.length+192)*B<=281474976710656/\K (.sl (Xa ob) ys.length) ((Xa ob,.vec E sz ys)::ob)
 | _=>False
def GlobIs (P:Prg)(g:Nat)(x:D):Prop:=∃cs T f,P.g g=some (.cells (List.toArray cs) T f)/\D.isC x cs=true

def Yfm (ob:Xb)(K:V->Xb->Prop):V->Option Ob->Prop
 | .mp id,some (.map es)=>K (.hd false (Xa ob)) ((Xa ob,.it (some id) es.length [])::ob)
 | .d .nilm,_=>K (.hd false (Xa ob)) ((Xa ob,.it none 0 [])::ob)
 | _,_=>False
def X65:V->Nat
 | .mp id=>id
 | _=>0
def Xsm (ob:Xb)(id j n:Nat)(seen:List Nat)(K:V->Xb->Prop):Option Ob->Prop
 | some (.map es)=>es.length=n/\((List.range n).all (fun i=>seen.contains i)=true->K (.tup [.d (.bool false)]) ob)/\
   ∀i,i<n->seen.contains i=false->K (.tup [.d (.bool true),.d (es.getD i default).1,(es.getD i default).2]) (setO ob id (.it (some j) n (seen++[i])))
 | _=>False
def Xko (ob:Xb)(id:Nat)(K:V->Xb->Prop):Option Ob->Prop
 | some (.it none _ _)=>K (.tup [.d (.bool false)]) ob
 | some (.it (some j) n seen)=>Xsm ob id j n seen K (Xc ob j)
 | _=>False
def X5c (ob:Xb)(K:V->Xb->Prop):V->Prop
 | .hd false id=>Xko ob id K (Xc ob id)
 | _=>False
def Xrv (i n:Nat)(K:V->Prop):Option Ob->Prop
 | some (.map es)=>i<n/\es.length=n/\K (.tup [.d (es.getD i default).1,(es.getD i default).2])
 | _=>False
def Xlz (ob:Xb)(K:V->Prop):Option Ob->Prop
 | some (.it (some j) n seen)=>seen ≠ []/\Xrv (seen.getLastD 0) n K (Xc ob j)
 | _=>False
def X3g (ob:Xb)(K:V->Prop):V->Prop
 | .hd false id=>Xlz ob K (Xc ob id)
 | _=>False
def Ych (K:V->Prop):Option Ob->Prop
 | some (.map es)=>K (.d (.int .i64 es.length))
 | _=>False
def Xsf (ob:Xb)(K:V->Prop):V->Prop
 | .mp id=>Ych K (Xc ob id)
 | .d .nilm=>K (.d (.int .i64 0))
 | _=>False
def Yvx (e:Bool)(n:Nat)(K:V->Prop):Option Ob->Prop
 | some (.arr _ _ xs)=>n=xs.length/\xs ≠ []/\K (.d (.bool !e))
 | some (.vec _ _ xs)=>n=xs.length/\xs ≠ []/\K (.d (.bool !e))
 | _=>False
def Yvw (e:Bool)(K:V->Prop):Option Ob->Prop
 | some (.map _)=>K (.d (.bool !e))
 | _=>False
def Xxf (ob:Xb)(e:Bool)(K:V->Prop):Bool->V->Prop
 | true,.mp id=>Yvw e K (Xc ob id)
 | true,.d .nilm=>K (.d (.bool e))
 | false,.d .nils=>K (.d (.bool e))
 | false,.d (.list _ xs)=>K (.d (.bool !e))/\(xs=[]->K (.d (.bool e)))
 | false,.sl id n=>Yvx e n K (Xc ob id)
 | _,_=>False
def X5l (ob:Xb)(K:V->Prop)(v:V):Option (Nat×Nat×Nat×Bool)->Prop
 | none=>K v
 | some (fi,fo,n,ag)=>Ub ob fi fo (fun u=>ldK ob n ag K u) v
def Ysl (P:Prg)(t f:Nat)(fl:Option (Nat×Nat×Nat×Bool))(args:List V)(ob:Xb)(K Pn:V->Xb->Prop):V->Prop
 | .iface t' (.ptr id p)=>t'=t/\Xm P.p f=true/\X5l ob (fun r=>ACall P f (r::args) ob (Xb6 K Pn)) (.ptr id p) fl
 | _=>False
def Ysm (E sz B:Nat)(z:D)(ob:Xb)(K:V->Xb->Prop):V->Prop
 | .d (.int .i64 n)=>0<=n/\n*B<=281474976710656/\K (.sl (Xa ob) n.toNat) ((Xa ob,.arr E sz (List.replicate n.toNat z))::ob)
 | _=>False
def Ysy (id n z:Nat)(h:Int)(ob:Xb)(K:V->Xb->Prop):Option Ob->Prop
 | some (.arr E sz xs)=>sz=z/\n=xs.length/\xs ≠ []/\(0<=h/\h<=n)/\K (.sl (Xa ob) h.toNat) ((Xa ob,.arr E sz (xs.take h.toNat))::setO ob id .gone)
 | _=>False
def X51 (z:Nat)(ob:Xb)(K:V->Xb->Prop):V->V->Prop
 | .sl id n,.d (.int .i64 h)=>Ysy id n z h ob K (Xc ob id)
 | _,_=>False

def I.wp (P:Prg)(sl:Xf)(ob:Xb)(K Pn:V->Xb->Prop):I->Prop
 | .c x=>x.wp sl ob (fun v=>K v ob)
 | .box E x=>Xtf E ob K (x.ev sl)
 | .alloc E z=>Xtf E ob K (.d z)
 | .bls sz z parts=>Jc (z.map .d) (parts.map fun (i,x)=>(i,x.ev sl)) fun ks=>dK (fun l=>K (.d (.list sz l)) ob) (V.allD ks)
 | .blo E sz z parts=>Jc (z.map .d) (parts.map fun (i,x)=>(i,x.ev sl)) fun ks=>dK (fun l=>K (.sl (Xa ob) l.length) ((Xa ob,.arr E sz l)::ob)) (V.allD ks)
 | .st n x v=>stK ob n (v.ev sl) K (x.ev sl)
 | .app E sz B x y=>X0k sz (fun ys=>Xel E sz B ob ys K (x.ev sl)) (y.ev sl)
 | .appS E B x y=>X5w (fun ys=>Xel E 1 B ob ys K (x.ev sl)) (y.ev sl)
 | .call f args=>ACall P f (args.map (A.ev sl)) ob (Xb6 K Pn)
 | .pcall f args=>PCall P f (args.map (A.ev sl)) ob fun v=>K v ob
 | .callv x args=>Wt P (args.map (A.ev sl)) ob K Pn (x.ev sl)
 | .panic x=>Jw ob Pn (x.ev sl)
 | .b2s x=>Ysc (fun v=>K v ob) (x.ev sl)
 | .s2b x=>Ysu (fun v=>K v ob) (x.ev sl)
 | .nilo E sz x=>Xhn E sz ob K (x.ev sl)
 | .mvf x=>Xp5 K (V.giv ob (x.ev sl))
 | .ldf n ag x=>X4x n ag ob K (x.ev sl)
 | .mvg E sz y x p=>Xkc ob E sz p (y.ev sl) K (x.ev sl)
 | .mvn y x l=>Xsi (y.ev sl) K (x.ev sl) l ob
 | .cvb x=>Xvg ob K (x.ev sl)
 | .ustr E x y=>Xs8 E ob K (x.ev sl) (y.ev sl)
 | .mkm r=>X05 sl r/\K (.mp (Xa ob)) ((Xa ob,.map [])::ob)
 | .lkp kd z ok m k=>Xxu ob kd z ok (fun v=>K v ob) (m.ev sl) (k.ev sl)
 | .mset kd m k v=>Xde ob kd (v.ev sl) K (m.ev sl) (k.ev sl)
 | .gld g n ag x=>GlobIs P g x/\x.sz=n/\(V.d x).isAgg=ag/\K (.d x) ob
 | .slg n z x=>Ygd ob n z K (x.ev sl)
 | .blv E sz z parts=>Jc (z.map .d) (parts.map fun (i,x)=>(i,x.ev sl)) fun ks=>K (.sl (Xa ob) ks.length) ((Xa ob,.vec E sz ks)::ob)
 | .apv E sz B x y=>Yge sz (fun ys=>Xtd E sz B ob ys K (x.ev sl)) ob (y.ev sl)
 | .gv x=>Xp5 K (V.gvF 40000 ob (x.ev sl))
 | .ldg n ag x=>Yf9 n ag ob K (x.ev sl)
 | .slb n z x lo hi=>Ysv ob n z (lo.map (A.ev sl)) (hi.map (A.ev sl)) K (x.ev sl)
 | .cpy z x y=>Y2n z ob K (x.ev sl) (y.ev sl)
 | .clr z0 z x=>Y2k z0 z ob K (x.ev sl)
 | .gix g n z x i=>GlobIs P g x/\Y28 n z (fun v=>K v ob) x (i.ev sl)
 | .rng x=>Yfm ob K (x.ev sl) (Xc ob (X65 (x.ev sl)))
 | .nxt x=>X5c ob K (x.ev sl)
 | .ety x=>X3g ob (fun v=>K v ob) (x.ev sl)
 | .lenM x=>Xsf ob (fun v=>K v ob) (x.ev sl)
 | .isn e m x=>Xxf ob e (fun v=>K v ob) m (x.ev sl)
 | .inv _ t f fl x args=>Ysl P t f fl (args.map (A.ev sl)) ob K Pn (x.ev sl)
 | .mks E sz B z l=>Ysm E sz B z ob K (l.ev sl)
 | .trn z x h=>X51 z ob K (x.ev sl) (h.ev sl)
 | .xcall f args=>XCall P f (args.map (A.ev sl)) ob K
 | .boxr _ x=>Xlq ob K (x.ev sl)

def Xd4 (P:Program)(e:TypeId)(len size:Nat):Option (List Value):=
 if len*size=0 then some [] else (Ql P e).map fun z=>((Array.range (len*size)).map (z.toArray[· % z.toArray.size]!)).toList

def Xep (P:Program)(op:Op)(E? : Option Nat)(sz:Nat)(z:List D)(parts:List (Nat×A)):Bool:=match op with
 | .buildSlice t len ps=>Wn ps.toList parts&&(match P.underlying t with
  | some (.slice e)=>(match E? with | some E=>e==E | none=>true)&&Ye P e==some sz&&z.length==len&&decide (len*sz<=2 ^ 24)&&z.all (fun x=>x.sz==sz)&&(match Xd4 P e len sz with | some cs=>D.isCs z cs | none=>false)
  | _=>false)
 | _=>false

def Us:TypeDesc->D->Bool
 | .int _,.int _ _=>true
 | .string,.str _=>true
 | .bool,.bool _=>true
 | _,_=>false
def Xse:D->KT
 | .int k _=>.int k
 | .bool _=>.bool
 | _=>.str
def Vb (P:Program)(t:TypeId):D->Bool
 | .agg xs=>(KT.st (xs.map Xse)).chk P t
 | kd=>match P.underlying t with
  | some d=>Us d kd
  | none=>false

def Yh0 (P:Program)(t:TypeId)(nm:String)(f:Nat)(fl:Option (Nat×Nat×Nat×Bool)):Bool:=match (P.info? t).bind (fun i=>i.methods.find? (·.name==nm)) with
 | some m=>(match fl,m.func with
  | none,some (g,true)=>g==f&&m.path.isEmpty&&(P.underlying t matches some (.pointer _))
  | some (fi,fo,n,ag),some (g,false)=>g==f&&(match m.path.toList with
   | [s]=>s.deref&&s.index==fi&&(match P.underlying s.struct with
    | some (.struct fields)=>(match fields[fi]? with
     | some fd=>fd.offset==fo&&Ye P fd.type==some n&&n != 0&&agT P fd.type==ag&&!(P.underlying fd.type matches some (.pointer _))&&(P.underlying fd.type).isSome
     | none=>false)
    | _=>false)
   | _=>false)
  | _,_=>false)
 | none=>false
def Ymh:Bool->Option TypeDesc->Operand->Bool
 | false,some (.slice _),.const (.slice none n m)=>n==0&&m==0
 | true,some (.map _ _),.const (.map none)=>true
 | _,_,_=>false
def Ycc:BinOp->Bool->Bool
 | .eql,e=>e
 | .neq,e=>!e
 | _,_=>false

def I.chk (P:Program)(op:Op):I->Bool
 | .c x=>x.chk P op
 | .box E y=>match op with
  | .box e x=>e==E&&A.chk x y
  | _=>false
 | .boxr E y=>match op with
  | .box e x=>e==E&&A.chk x y
  | _=>false
 | .alloc E z=>match op with
  | .alloc e=>e==E&&match Ql P e with
   | some cs=>D.isC z cs
   | none=>false
  | _=>false
 | .bls sz z parts=>Xep P op none sz z parts
 | .blo E sz z parts=>Xep P op (some E) sz z parts
 | .blv E sz z parts=>Xep P op (some E) sz z parts
 | .st n x v=>match op with
  | .store t y u=>Ye P t==some n&&A.chk y x&&A.chk u v
  | _=>false
 | .app E sz B x y=>match op with
  | .call { callee:=.builtin .append,args:=args,argTypes:=ts }=>match args.toList,ts.toList with
   | [u,v],[t,t2]=>(match P.underlying t with | some (.slice e)=>e==E | _=>false)&&(match P.info? E with | some i=>i.size==sz&&i.bytes==B&&i.bytes != 0&&i.size != 0&&i.zero.isSome&&(i.zero.map (·.cells.size))==some sz | none=>false)&&
    (P.underlying t2 matches some (.slice _))&&A.chk u x&&A.chk v y
   | _,_=>false
  | _=>false
 | .apv E sz B x y=>match op with
  | .call { callee:=.builtin .append,args:=args,argTypes:=ts }=>match args.toList,ts.toList with
   | [u,v],[t,t2]=>(match P.underlying t with | some (.slice e)=>e==E | _=>false)&&(match P.info? E with | some i=>i.size==sz&&i.bytes==B&&i.bytes != 0&&i.size != 0&&i.zero.isSome&&(i.zero.map (·.cells.size))==some sz | none=>false)&&
    (P.underlying t2 matches some (.slice _))&&A.chk u x&&A.chk v y
   | _,_=>false
  | _=>false
 | .appS E B x y=>false
 | .call f args=>match op with
  | .call { callee:=.value (.func g),args:=as,.. }=>f==g&&Xm P f&&Xbm as.toList args
  | _=>false
 | .xcall f args=>match op with
  | .call { callee:=.value (.func g),args:=as,.. }=>f==g&&Xm P f&&Xbm as.toList args
  | _=>false
 | .pcall f args=>match op with
  | .call { callee:=.value (.func g),args:=as,.. }=>f==g&&Xm P f&&Xbm as.toList args
  | _=>false
 | .callv y args=>match op with
  | .call { callee:=.value x,args:=as,.. }=>A.chk x y&&Xbm as.toList args
  | _=>false
 | .panic y=>match op with
  | .panic x=>A.chk x y
  | _=>false
 | .b2s y=>false
 | .s2b y=>false
 | .nilo _ _ y=>match op with
  | .move x | .assign x=>A.chk x y
  | _=>false
 | .mvf y=>match op with
  | .move x | .assign x=>A.chk x y
  | _=>false
 | .gv y=>false
 | .ldf n ag y=>match op with
  | .load t x=>Ye P t==some n&&(P.underlying t).isSome&&agT P t==ag&&A.chk x y
  | _=>false
 | .ldg n ag y=>match op with
  | .load t x=>Ye P t==some n&&(P.underlying t).isSome&&agT P t==ag&&A.chk x y
  | _=>false
 | .mvg _ _ y _ _=>match op with
  | .move x | .assign x=>A.chk x y
  | _=>false
 | .mvn y _ _=>match op with
  | .move x | .assign x=>A.chk x y
  | _=>false
 | .cvb y=>match op with
  | .convert s t x=>s==t&&(match P.underlying s with | some (.slice e)=>(P.underlying e matches some (.int .u8)) | _=>false)&&A.chk x y
  | _=>false
 | .ustr E y z=>false
 | .mkm r=>match op with
  | .makeMap t h=>(P.underlying t matches some (.map _ _))&&Xib h r
  | _=>false
 | .lkp kd z ok m k=>match op with
  | .lookup t x i o=>o==ok&&(match P.underlying t with
   | some (.map kt et)=>Vb P kt kd&&(match Ql P et with | some cs=>D.isC z cs&&(((P.info? et).bind (·.zero)).map fun v=>match v with | .agg _=>true | _=>false)==some (V.d z).isAgg | none=>false)
   | _=>false)&&A.chk x m&&A.chk i k
  | _=>false
 | .mset kd m k v=>match op with
  | .mapUpdate t x i y=>(match P.underlying t with | some (.map kt _)=>Vb P kt kd | _=>false)&&A.chk x m&&A.chk i k&&A.chk y v
  | .insert t x i y=>(match P.underlying t with | some (.map kt _)=>Vb P kt kd | _=>false)&&A.chk x m&&A.chk i k&&A.chk y v
  | _=>false
 | .gld g n ag _=>match op with
  | .load t (.global h)=>h==g&&Ye P t==some n&&(P.underlying t).isSome&&agT P t==ag
  | _=>false
 | .slg n z y=>false
 | .slb n z y lo hi=>false
 | .cpy z y s=>false
 | .clr z0 z y=>false
 | .gix g n z _ j=>false
 | .rng y=>match op with
  | .range t x=>(P.underlying t matches some (.map _ _))&&A.chk x y
  | _=>false
 | .nxt y=>match op with
  | .next x false=>A.chk x y
  | _=>false
 | .ety y=>match op with
  | .entry x=>A.chk x y
  | _=>false
 | .lenM y=>match op with
  | .call { callee:=.builtin .len,args:=args,argTypes:=ts }=>match args.toList,ts.toList with
   | [u],[t]=>(P.underlying t matches some (.map _ _))&&A.chk u y
   | _,_=>false
  | _=>false
 | .isn e m y=>match op with
  | .binOp o t x cc _=>Ycc o e&&A.chk x y&&Ymh m (P.underlying t) cc
  | _=>false
 | .inv nm t f fl y args=>match op with
  | .call { callee:=.invoke x m,args:=as,.. }=>m==nm&&A.chk x y&&Xbm as.toList args&&Yh0 P t nm f fl
  | _=>false
 | .mks E sz B z l=>match op with
  | .makeSlice t x cc=>A.chk x l&&A.chk cc l&&(match P.underlying t with | some (.slice e)=>e==E | _=>false)&&(match P.info? E with | some i=>i.size==sz&&i.bytes==B | none=>false)&&sz != 0&&B != 0&&(match Ql P E with | some cs=>D.isC z cs&&cs.length==sz | none=>false)&&z.sz==sz
  | _=>false
 | .trn z y h=>match op with
  | .slice t x none (some hh) none=>(match P.underlying t with | some (.slice e)=>Ye P e==some z&&z != 0 | _=>false)&&A.chk x y&&A.chk hh h
  | _=>false
end Go.Ab
namespace Go.Ab
open Go

def Qr (P:Program)(a:Act)(w:World)(ρ:Env)(op:Op)(K Pn:V->Xb->Prop):Prop:=
 ∀(o:Oper),o.op=op->∀(next:Act->World->Prop) (Q:Exit->Act->World->Prop),
  (∀v x ob' w' ρ',K x ob'->x.rep w' ρ' v->OM w' ρ' ob'->Tr w ρ w' ρ'->next (a.put o.dst v) w')->
  (∀u x ob' w' ρ',Pn x ob'->x.rep w' ρ' u->OM w' ρ' ob'->Tr w ρ w' ρ'->Q (.panic [{ v:=u,recovered:=false }]) a w')->
  wpA P o a w next Q

def Xtc (P:Program)(a:Act)(w:World)(ρ:Env)(op:Op)(ob:Xb)(K:V->Xb->Prop):Prop:=
 ∃v x w',K x ob/\x.rep w' ρ v/\Ext w w'/\∀(o:Oper),o.op=op->(execOp a.eval o).run P w=.ok (.value v) w'

section
variable {P:Program} {a:Act} {w:World} {ρ:Env} {sl:Xf} {ob:Xb} {K Pn:V->Xb->Prop}

theorem X0 {op:Op}{v:Value}{x:V}{ob':Xb}{w':World}{ρ':Env}(hr:∀o:Oper,o.op=op->(execOp a.eval o).run P w=.ok (.value v) w')
  (hK:K x ob') (h1:x.rep w' ρ' v) (h2:OM w' ρ' ob') (h3:Tr w ρ w' ρ'):Qr P a w ρ op K Pn:=by
 intro o ho next Q hn _
 unfold wpA;rw[hr o ho];exact hn v x ob' w' ρ' hK h1 h2 h3

theorem Xtc.does {op:Op}(h:Xtc P a w ρ op ob K)(hO:OM w ρ ob):Qr P a w ρ op K Pn:=by
 obtain⟨v,x,w',hK,h1,h2,h3⟩:=h;exact X0 h3 hK h1 (hO.ext h2) h2.tr

def Xtm (P:Program)(a:Act)(w:World)(ρ:Env)(op:Op)(ob:Xb)(K:V->Xb->Prop):Prop:=
 ∀(o:Oper),o.op=op->∀(next:Act->World->Prop) (Q:Exit->Act->World->Prop),
  (∀v x w',K x ob->x.rep w' ρ v->Ext w w'->next (a.put o.dst v) w')->wpA P o a w next Q

theorem Xtc.doesE {op:Op}(h:Xtc P a w ρ op ob K):Xtm P a w ρ op ob K:=by
 obtain⟨v,x,w',hK,h1,h2,h3⟩:=h;intro o ho next Q hn
 unfold wpA;rw[h3 o ho];exact hn v x w' hK h1 h2

theorem Xtm.does {op:Op}(h:Xtm P a w ρ op ob K)(hO:OM w ρ ob):Qr P a w ρ op K Pn:=fun o ho next Q hn _=>
 h o ho next Q fun v x w' hK h1 h2=>hn v x ob w' ρ hK h1 (hO.ext h2) h2.tr

def Xd6 (P:Program)(a:Act)(w:World)(ρ:Env)(op:Op)(K:V->Xb->Prop):Prop:=
 ∀(o:Oper),o.op=op->∀(next:Act->World->Prop) (Q:Exit->Act->World->Prop),
  (∀v x ob' w' ρ',K x ob'->x.rep w' ρ' v->OM w' ρ' ob'->Tr w ρ w' ρ'->Ext w w'->next (a.put o.dst v) w')->wpA P o a w next Q
theorem Xd6.does {op:Op}(h:Xd6 P a w ρ op K):Qr P a w ρ op K Pn:=fun o ho next Q hn _=>
 h o ho next Q fun v x ob' w' ρ' h0 h1 h2 h3 _=>hn v x ob' w' ρ' h0 h1 h2 h3
theorem Zy {op:Op}{v:Value}{x:V}{ob':Xb}{w':World}{ρ':Env}(hr:∀o:Oper,o.op=op->(execOp a.eval o).run P w=.ok (.value v) w')
  (hK:K x ob') (h1:x.rep w' ρ' v) (h2:OM w' ρ' ob') (h3:Tr w ρ w' ρ') (h4:Ext w w'):Xd6 P a w ρ op K:=by
 intro o ho next Q hn
 unfold wpA;rw[hr o ho];exact hn v x ob' w' ρ' hK h1 h2 h3 h4

theorem Jd {op:Op}{ob':Xb}{w':World}{ρ':Env}(hr:∀o:Oper,o.op=op->(execOp a.eval o).run P w=.ok .skip w')
  (hK:K .undef ob') (h2:OM w' ρ' ob') (h3:Tr w ρ w' ρ'):Qr P a w ρ op K Pn:=by
 intro o ho next Q hn _
 unfold wpA;rw[hr o ho];exact hn undef .undef ob' w' ρ' hK (Y2.2 rfl) h2 h3

theorem Yha (hs:SM w ρ sl a)(hO:OM w ρ ob){op:Op}{x:C}(hc:x.chk P op=true)(h:x.wp sl ob (fun v=>K v ob)):Qr P a w ρ op K Pn:=by
 obtain⟨v,y,hK,h1,h2⟩:=C.sound hs hO hc h;exact X0 (fun o ho=>h2 o ho w (fun _=>Ext.refl w)) hK h1 hO (Tr.refl _ _)

theorem Xi6 (hs:SM w ρ sl a)(hO:OM w ρ ob){op:Op}{E:Nat}{x:A}(hc:I.chk P op (.box E x)=true)(h:Xtf E ob K (x.ev sl)):Xd6 P a w ρ op K:=by
 cases op<;>simp[I.chk]at hc;rename_i E' y;obtain⟨rfl,hc⟩:=hc;obtain⟨h2,hK⟩:=h;have h1:=X2 ob;have r1:=A.sound hs hc;have hre:=Wb (V.sto_any h2) r1;obtain⟨t1,o1,p1⟩:=Xxm hO h1 hre E';refine Zy (fun o ho=>?_) hK p1 o1 t1 (Zd w _);simp only[execOp,ho,Instr.box,newVar,newRow,Sem.run_bind,run_newObj,Result.andThen_ok,Sem.run_pure,Array.toArray_toList];rfl

theorem Xij (hs:SM w ρ sl a)(hO:OM w ρ ob){op:Op}{E:Nat}{x:A}(hc:I.chk P op (.boxr E x)=true)(h:Xlq ob K (x.ev sl)):Xtc P a w ρ op ob K:=by
 cases op<;>simp[I.chk]at hc;rename_i E' y;obtain⟨rfl,hc⟩:=hc;have r1:=A.sound hs hc;unfold Xlq at h;split at h
 ·rename_i d e1;rw[e1]at r1;have hre:=Wb (V.sto_any (v:=.d d) rfl) r1;have he:=Zd w (.cells (a.eval y).cells E');have hno:¬own ρ w.heap.size:=by
   rintro (⟨id,o,h1,h2⟩ | h1)
   ·have:=Wl hO h1 h2; omega
   ·have:=hO.xlt _ h1; omega
  have hre':(V.d d).repC (Xaa w (.cells (a.eval y).cells E')) ρ (a.eval y).cells.toList:=V.repC_tr he.tr _ _ hre;refine⟨.pointer (some ⟨w.heap.size,0,none⟩),.d (.ref d),Xaa w (.cells (a.eval y).cells E'),h,?_,he,fun o ho=>?_⟩
  ·refine Ux.2 ⟨_,(a.eval y).cells.toList,rfl,rfl,⟨fun _=>⟨rfl,hno,?_⟩,fun i hi=>?_⟩,by simpa[V.repC]using hre'⟩
   ·show w.heap.size<(w.heap.push _).size;simp
   ·have:=Zm w (.cells (a.eval y).cells E');simp only[World.cell?,this];simp
  ·simp only[execOp,ho,Instr.box,newVar,newRow,Sem.run_bind,run_newObj,Result.andThen_ok,Sem.run_pure,Array.toArray_toList];rfl
 ·exact h.elim

theorem Xcw (hO:OM w ρ ob){op:Op}{E0:Nat}{z:D}(hc:I.chk P op (.alloc E0 z)=true)(h:Xtf E0 ob K (.d z)):Xd6 P a w ρ op K:=by
 cases op<;>simp only[I.chk,Uah]at hc;rename_i E;simp only[Uai,Ubn]at hc;obtain⟨rfl,hc⟩:=hc;obtain⟨h2,hK⟩:=h;have h1:=X2 ob;cases hz:Ql P E with
 | none=>simp[hz]at hc
 | some cs=>
  simp only[hz]at hc;obtain⟨v,e1,_,hzr⟩:=Qh hz;have hre:(V.d z).repC w ρ cs:=by simp only[V.repC]; exact D.isC_rep z cs hc
  obtain⟨t1,o1,p1⟩:=Xxm hO h1 hre E;refine Zy (fun o ho=>?_) hK p1 o1 t1 (Zd w _);simp only[execOp,ho,Instr.alloc,newVar,newRow,Sem.run_bind,hzr,run_newObj,Result.andThen_ok,Sem.run_pure];rw[<-e1,Array.toArray_toList];rfl

theorem X93 (hs:SM w ρ sl a)(hO:OM w ρ ob){op:Op}{n:Nat}{x v:A}(hc:I.chk P op (.st n x v)=true)(h:stK ob n (v.ev sl) K (x.ev sl)):Qr P a w ρ op K Pn:=by
 cases op<;>simp[I.chk]at hc;rename_i t y u;obtain⟨⟨hn,h1⟩,h2⟩:=hc;have r1:=A.sound hs h1;have r2:=A.sound hs h2;unfold stK at h;split at h
 ·rename_i id p e1;rw[e1]at r1;unfold X0n at h;split at h
  ·rename_i E t0 hl;obtain⟨b,sh,hρ,r1⟩:=Y1 hO hl r1;cases hat:t0.at p with
   | none=>simp[hat,X0o]at h
   | some old=>
    simp only[hat,X0o]at h;obtain⟨hsh,hsz,hst,t',hset,hK⟩:=h;obtain⟨b',cs,g1,g2,g3⟩:=hO.one id _ hl;rw[hρ]at g1;simp only[Uaq,RO.box.injEq]at g1;obtain⟨rfl,rfl⟩:=g1;have hre:=Wb (V.sto_any hst) r2;obtain⟨t'',e2,e3,h4⟩:=V.repC_set p t0 old _ cs _ g3 hat hre hsh;rw[hset]at e2;simp only[Uaq]at e2;subst e2;obtain⟨t1,o1⟩:=Xld hO hl hρ g2 e3 h4;obtain⟨c1,c2,c3,q1,q2,q3⟩:=V.repC_at p t0 old cs g3 hat;have hlen:=V.repC_len _ _ hre;have hl2:=V.repC_len _ _ q3;refine Jd (fun o ho=>?_) hK o1 t1;have hsize:(a.eval u).cells.size=n:=by
     rw[<-hsz]; unfold V.size; rw[<-hsh,<-hlen]; simp
    have hrun:=run_storeCells_at (P:=P) b (t0.shape.off p) E (a.eval u).cells.toList 0 cs.toArray w g2 (by
     rw[hlen,hsh,<-hl2,<-q2,q1]; simp) (V.one _ _ hst hre)
    simp only[execOp,ho,Instr.storeAt,Instr.sureAddr,storeVar,r1,Sem.run_bind,Sem.run_pure,Result.andThen_ok,Xu hn,hsize,ne_eq,not_true,Uay];rw[hrun];simp
  ·exact h.elim
 ·rename_i id m z i f p e1;rw[e1]at r1;unfold Yrs at h;split at h
  ·rename_i ox hl;unfold Ysw at h;split at h
   ·rename_i v0 hel;obtain⟨⟨hs1,hs2⟩,h⟩:=h;cases hat:v0.at p with
    | none=>simp[hat,Yrt]at h
    | some old=>
     simp only[hat,Yrt]at h;obtain⟨hsh,hsz,hst,t',hset,hK⟩:=h;obtain⟨b,cap,E,c1,c2,c3,g1,g2,g3,g4,g5⟩:=Xta hO hl hel;rw[Xk0]at r1;obtain⟨o,q1,q2⟩:=r1;rw[g1]at q1;simp only[Uaq]at q1;subst q1;have r1:=q2.2.2 rfl;have hre:=Wb (V.sto_any hst) r2;obtain⟨t'',e2,e3,h4⟩:=V.repC_set p v0 old _ c2 _ g4 hat hre hsh;rw[hset]at e2;simp only[Uaq]at e2;subst e2;obtain⟨t1,o1⟩:=g5 t' _ e3 h4;obtain⟨d1,d2,d3,z1,z2,z3⟩:=V.repC_at p v0 old c2 g4 hat;have hlen:=V.repC_len _ _ hre;have hl2:=V.repC_len _ _ z3;refine Jd (fun o ho=>?_) hK o1 t1;have hsize:(a.eval u).cells.size=n:=by
      rw[<-hsz]; unfold V.size; rw[<-hsh,<-hlen]; simp
     have eoff:i*z+f=c1.length+v0.shape.off p:=by rw[hs1,hs2,g3]
     have hl3:(a.eval u).cells.toList.length=d2.length:=by rw[hlen,hsh,<-hl2]
     have hrun:=run_storeCells_at (P:=P) b (c1.length+v0.shape.off p) E (a.eval u).cells.toList 0 (c1++(c2++c3)).toArray w g2 (by
      rw[hl3,<-z2,z1]; simp; omega) (V.one _ _ hst hre)
     simp only[execOp,ho,Instr.storeAt,Instr.sureAddr,storeVar,r1,Sem.run_bind,Sem.run_pure,Result.andThen_ok,Xu hn,hsize,ne_eq,not_true,Uay,eoff];rw[hrun];have e7:(c1++(c2++c3)).take (c1.length+v0.shape.off p)=c1++c2.take (v0.shape.off p):=by
      rw[Uad,List.take_append_of_le_length (by rw[z1,<-z2]; simp)]
     have e8:(c1++(c2++c3)).drop (c1.length+v0.shape.off p+(a.eval u).cells.toList.length)=c2.drop (v0.shape.off p+(a.eval u).cells.toList.length)++c3:=by
      rw[Uag,Uae,List.drop_append_of_le_length (by rw[z1,<-z2,hl3]; simp)]
     simp only[Sem.run_pure,Result.andThen_ok];congr 2;simp only[Nat.add_zero,List.toList_toArray]at e7 e8⊢;rw[e7,e8];simp only[Uav]
   ·exact h.elim
  ·exact h.elim
 ·exact h.elim

theorem Xru (hs:SM w ρ sl a)(hO:OM w ρ ob){op:Op}{x:A}(hc:I.chk P op (.panic x)=true)(h:Jw ob Pn (x.ev sl)):Qr P a w ρ op K Pn:=by
 cases op<;>simp[I.chk]at hc;have r1:=A.sound hs hc;unfold Jw at h;split at h
 ·rename_i t v e1;rw[e1]at r1;have r2:=r1;rw[Wa (by simp[V.isAgg]) (by simp)]at r2;simp only[V.repC,Ua1,Ua2]at r2;obtain⟨c,r2,_⟩:=r2;intro o ho next Q _ hq
  unfold wpA;have:(execOp a.eval o).run P w=.halt (.panic (.iface t c)) w:=by simp[execOp,ho,Instr.panic,r2]
  rw[this];rw[r2]at r1;exact hq _ _ _ _ _ h r1 hO (Tr.refl _ _)
 ·rename_i t v e1;rw[e1]at r1;have r2:=r1;rw[J3]at r2;obtain⟨c,r2,_⟩:=r2;intro o ho next Q _ hq
  unfold wpA;have:(execOp a.eval o).run P w=.halt (.panic (.iface t c)) w:=by simp[execOp,ho,Instr.panic,r2]
  rw[this];rw[r2]at r1;exact hq _ _ _ _ _ h r1 hO (Tr.refl _ _)
 ·exact h.elim

theorem reps_append {w:World}{ρ:Env}:∀{xs ys:List V} {us vs:List Value},V.reps w ρ xs us->V.reps w ρ ys vs->V.reps w ρ (xs++ys) (us++vs)
 | [],ys,us,vs,h1,h2=>by simp only[V.reps]at h1; subst h1; simpa using h2
 | x::r,ys,us,vs,h1,h2=>by
  simp only[V.reps]at h1;obtain⟨u,us',rfl,h3,h4⟩:=h1;simp only[List.cons_append,V.reps];exact⟨u,us'++vs,rfl,h3,reps_append h4 h2⟩

theorem U2 {P:Prg}(hg:ρ.gl=P.g){op:Op}{f:Nat}{vs:List V}{args:List Value}(hr:∀o:Oper,o.op=op->(execOp a.eval o).run P.p w=.ok (.enter f args.toArray) w)
  (h:ACall P f vs ob (Xb6 K Pn)) (hO:OM w ρ ob) (h1:V.reps w ρ vs args):Qr P.p a w ρ op K Pn:=by
 intro o ho next Q hn hq
 unfold wpA;rw[hr o ho];simp only[Xby];refine (h.run w ρ args hO hg h1).mono fun e w' ⟨out,ob',ρ',k,r,o1,t1⟩=>?_;cases e with
 | returned u=>
  cases out with
  | ret v=>exact hn u v ob' w' ρ' k r o1 t1
  | panic v=>exact r.elim
 | panicked ch=>
  cases out with
  | ret v=>exact r.elim
  | panic v=>obtain⟨u,rfl,r⟩:=r; exact hq u v ob' w' ρ' k r o1 t1
 | outgrown=>cases out<;>exact r.elim

theorem Yl {f:Nat}(h:Xm P f=true)(args:Array Value)(w:World):(callFunc f args).run P w=.ok (.enter f args) w:=by
 unfold Xm at h;split at h
 ·rename_i fn hf;simp only[Uai,bne_iff_ne,ne_eq]at h;obtain⟨b,hb⟩:=Ua3.1 h.2;simp[callFunc,hf,h.1,hb]
 ·simp at h

theorem Xvi {P:Prg}(hg:ρ.gl=P.g)(hs:SM w ρ sl a)(hO:OM w ρ ob){op:Op}{f:Nat}{args:List A}(hc:I.chk P.p op (.call f args)=true)(h:ACall P f (args.map (A.ev sl)) ob (Xb6 K Pn)):Qr P.p a w ρ op K Pn:=by
 cases op<;>simp only[I.chk,Uah]at hc;rename_i c;obtain⟨ca,as,ts⟩:=c;cases ca<;>(try simp only[Uah]at hc);rename_i g;cases g<;>(try simp only[Uah]at hc);simp only[Uai,Ubn]at hc;obtain⟨⟨rfl,h1⟩,h2⟩:=hc;refine U2 hg (args:=as.toList.map a.eval) (fun o ho=>?_) h hO (Y9 hs h2);have:a.eval (.func f)=.func (.func f) #[] #[]:=rfl;simp only[execOp,ho,resolve,this,Deferred.ofValue,Sem.run_bind,Sem.run_pure,Result.andThen_ok,invoke,Yl h1,Y8];simp

theorem Xcv {P:Prg}(hg:ρ.gl=P.g)(hs:SM w ρ sl a)(hO:OM w ρ ob){op:Op}{f:Nat}{args:List A}(hc:I.chk P.p op (.pcall f args)=true)(h:PCall P f (args.map (A.ev sl)) ob fun v=>K v ob):Xtm P.p a w ρ op ob K:=by
 cases op<;>simp only[I.chk,Uah]at hc;rename_i c;obtain⟨ca,as,ts⟩:=c;cases ca<;>(try simp only[Uah]at hc);rename_i g;cases g<;>(try simp only[Uah]at hc);simp only[Uai,Ubn]at hc;obtain⟨⟨rfl,h1⟩,h2⟩:=hc;intro o ho next Q hn
 have hrun:(execOp a.eval o).run P.p w=.ok (.enter f (as.toList.map a.eval).toArray) w:=by
  have:a.eval (.func f)=.func (.func f) #[] #[]:=rfl;simp only[execOp,ho,resolve,this,Deferred.ofValue,Sem.run_bind,Sem.run_pure,Result.andThen_ok,invoke,Yl h1,Y8];simp
 unfold wpA;rw[hrun];simp only[Xby];refine (h.run w ρ _ hO hg (Y9 hs h2)).mono fun e w' ⟨v,u,k,he,r,x⟩=>?_;subst he;exact hn u v w' k r x

theorem Xcx {P:Prg}(hg:ρ.gl=P.g)(hs:SM w ρ sl a)(hO:OM w ρ ob){op:Op}{f:Nat}{args:List A}(hc:I.chk P.p op (.xcall f args)=true)(h:XCall P f (args.map (A.ev sl)) ob K):Xd6 P.p a w ρ op K:=by
 cases op<;>simp only[I.chk,Uah]at hc;rename_i c;obtain⟨ca,as,ts⟩:=c;cases ca<;>(try simp only[Uah]at hc);rename_i g;cases g<;>(try simp only[Uah]at hc);simp only[Uai,Ubn]at hc;obtain⟨⟨rfl,h1⟩,h2⟩:=hc;intro o ho next Q hn
 have hrun:(execOp a.eval o).run P.p w=.ok (.enter f (as.toList.map a.eval).toArray) w:=by
  have:a.eval (.func f)=.func (.func f) #[] #[]:=rfl;simp only[execOp,ho,resolve,this,Deferred.ofValue,Sem.run_bind,Sem.run_pure,Result.andThen_ok,invoke,Yl h1,Y8];simp
 unfold wpA;rw[hrun];simp only[Xby];refine (h.run w ρ _ hO hg (Y9 hs h2)).mono fun e w' ⟨v,b,ρ',u,k,he,r,o,t,x⟩=>?_;subst he;exact hn u v b w' ρ' k r o t x

theorem Xrt {P:Prg}(hg:ρ.gl=P.g)(hs:SM w ρ sl a)(hO:OM w ρ ob){op:Op}{x:A}{args:List A}(hc:I.chk P.p op (.callv x args)=true)(h:Wt P (args.map (A.ev sl)) ob K Pn (x.ev sl)):Qr P.p a w ρ op K Pn:=by
 cases op<;>simp only[I.chk,Uah]at hc;rename_i c;obtain⟨ca,as,ts⟩:=c;cases ca<;>(try simp only[Uah]at hc);rename_i g;simp only[Uai]at hc;obtain⟨h1,h2⟩:=hc;have r1:=A.sound hs h1;unfold Wt at h;split at h
 ·rename_i f fi ca e1;rw[e1,Xbi]at r1;obtain⟨fs,gs,r1,r2,r3⟩:=r1;refine U2 hg (args:=fs++as.toList.map a.eval++gs) (fun o ho=>?_) h.2 hO (reps_append (reps_append r2 (Y9 hs h2)) r3);simp only[execOp,ho,resolve,r1,Deferred.ofValue,Sem.run_bind,Sem.run_pure,Result.andThen_ok,invoke,Yl h.1,Y8];simp
 ·rename_i f fi ca e1;rw[e1,Xdo]at r1;obtain⟨fs,gs,r1,r2,r3⟩:=r1;refine U2 hg (args:=fs++as.toList.map a.eval++gs) (fun o ho=>?_) h.2 hO (reps_append (reps_append r2 (Y9 hs h2)) r3);simp only[execOp,ho,resolve,r1,Deferred.ofValue,Sem.run_bind,Sem.run_pure,Result.andThen_ok,invoke,Yl h.1,Y8];simp
 ·rename_i id e1;rw[e1,J4]at r1;obtain⟨hl,hy⟩:=h;rcases r1 with⟨b,hb,r1⟩ | ⟨hb,_⟩
  ·simp only[hdV]at r1;obtain⟨fn,tm,ca,cb,hyd,hrd⟩:=hy.run w ρ _ b hO hg (Y9 hs h2) hb;intro o ho next Q hn hq
   have hrun:(execOp a.eval o).run P.p w=.ok (.round b fn tm ca cb) w:=by
    simp only[execOp,ho,resolve,r1,Deferred.ofValue,Sem.run_bind,Sem.run_pure,Result.andThen_ok,invoke];simpa[Y8]using hyd
   unfold wpA;rw[hrun];simp only[Xby];refine hrd.mono fun e w' ⟨out,ob',ρ',k,r,o1,t1⟩=>?_;cases e with
   | returned u=>
    cases out with
    | ret v=>exact hn u v ob' w' ρ' k r o1 t1
    | panic v=>exact r.elim
   | panicked ch=>
    cases out with
    | ret v=>exact r.elim
    | panic v=>obtain⟨u,rfl,r⟩:=r; exact hq u v ob' w' ρ' k r o1 t1
   | outgrown=>cases out<;>exact r.elim
  ·exfalso;unfold Yf7 at hl; split at hl
   ·rename_i hlk;obtain⟨b,_,_,_,_,_,_,h5,_⟩:=hO.one id _ hlk;rw[hb]at h5; cases h5
   ·exact hl
 ·exact h.elim

theorem X2p (hs:SM w ρ sl a)(hO:OM w ρ ob){op:Op}{x:A}(hc:I.chk P op (.mvf x)=true)(h:Xp5 K (V.giv ob (x.ev sl))):Qr P a w ρ op K Pn:=by
 cases hg:V.giv ob (x.ev sl) with
 | none=>simp[hg,Xp5]at h
 | some q=>
  obtain⟨d,ob'⟩:=q;simp only[hg,Xp5]at h;cases op<;>simp[I.chk]at hc
  all_goals
   have r1:=A.sound hs hc;obtain⟨ρ',t1,o1,r2⟩:=Xb3 hO r1 hg;exact X0 (fun o ho=>by simp[execOp,ho]) h r2 o1 t1

theorem X2k (hs:SM w ρ sl a)(hO:OM w ρ ob){op:Op}{n:Nat}{ag:Bool}{x:A}(hc:I.chk P op (.ldf n ag x)=true)(h:X4x n ag ob K (x.ev sl)):Qr P a w ρ op K Pn:=by
 have hc':C.chk P op (.ld n ag x)=true:=hc;unfold X4x at h;split at h
 ·rename_i id p e1;cases hat:atO ob id p with
  | none=>simp[hat,Xmh]at h
  | some v=>
   simp only[hat,Xmh]at h;obtain⟨h1,h2,h⟩:=h;cases hg:V.giv ob v with
   | none=>simp[hg,Xp5]at h
   | some q=>
    obtain⟨d,ob'⟩:=q;simp only[hg,Xp5]at h;obtain⟨u,y,hy,hr,hrun⟩:=Qe (K:=fun y=>y=v) hs hO hc' (by rw[e1]; simp only[ldK,hat,Xj3]; exact⟨h1,h2,trivial⟩);subst hy;obtain⟨ρ',t1,o1,r2⟩:=Xb3 hO hr hg;exact X0 (fun o ho=>hrun o ho w (fun _=>Ext.refl w)) h r2 o1 t1
 ·exact h.elim

theorem X2l (hs:SM w ρ sl a)(hO:OM w ρ ob){op:Op}{n:Nat}{ag:Bool}{x:A}(hc:I.chk P op (.ldg n ag x)=true)(h:Yf9 n ag ob K (x.ev sl)):Qr P a w ρ op K Pn:=by
 cases op<;>simp[I.chk]at hc;rename_i t y;obtain⟨⟨⟨hn,hu⟩,hag⟩,h1⟩:=hc;have r1:=A.sound hs h1;unfold Yf9 at h;split at h
 ·rename_i id p e1;rw[e1]at r1;cases hat:atO ob id p with
  | none=>simp[hat,Xxq]at h
  | some v=>
   simp only[hat,Xxq]at h;obtain⟨h2,h3,h⟩:=h;cases hg:V.gvF 40000 ob v with
   | none=>simp[hg,Xxp]at h
   | some q=>
    obtain⟨d,ob1⟩:=q;simp only[hg,Xxp]at h;obtain⟨hsh,h⟩:=h;obtain⟨t0,b',cs,E,g1,g2,g3,g4,g5⟩:=Xcp hO hat;obtain⟨b,sh,hρ,r1⟩:=Y1 hO g1 r1;rw[hρ]at g3;simp only[Uaq,RO.box.injEq]at g3;obtain⟨rfl,rfl⟩:=g3;obtain⟨c1,c2,c3,e2,e3,h4⟩:=V.repC_at p t0 v cs g5 g2;obtain⟨⟨ρ',t1,o1,hx,hxa⟩,hk⟩:=Xjp 40000 v ob ρ c2 d ob1 hO h4 hg;have hlk:Xc ob1 id=some (.box E t0):=by
     rcases hk id with h5 | h5
     ·rw[h5,g1]
     ·rw[h5]at h; exact h.elim
    rw[hlk]at h;simp only[X4y]at h;obtain⟨t',hset,hK⟩:=h;have hρ':ρ'.m id=some (.box b t0.shape):=by
     obtain⟨o',p1,p2⟩:=t1.same id _ hρ;obtain⟨b2,cs2,q1,_⟩:=o1.one id _ hlk;rw[p1]at q1;cases p2 with
     | refl=>exact p1
     | gone=>cases q1
     | grow _ hh=>rcases hh with⟨hq,_⟩ | ⟨_,_,hq⟩<;>cases hq
    have g5':=V.repC_tr t1 _ _ g5;obtain⟨t'',e4,e5,h6⟩:=V.repC_set p t0 v (.d d) cs c2 g5' g2 (by simpa only[V.repC]using hx) (by simpa only[V.shape]using hsh);rw[hset]at e4;simp only[Uaq]at e4;subst e4;have e7:cs.take (t0.shape.off p)++(c2++cs.drop (t0.shape.off p+c2.length))=cs:=by
     rw[<-e3,e2]; simp
    rw[e7]at h6;have o2:=o1.swap hlk (x':=.box E t') ⟨b,cs,by rw[e5]; exact hρ',g4,h6⟩;have hl:c2.length=n:=by rw[V.repC_len _ _ h4,<-h2]; rfl
    have hrun:=Xgm (P:=P) (t:=t) (n:=n) hn hu (b:=b) (off:=t0.shape.off p) (cs:=c2) hl (w':=w) (fun i hi=>by
     rw[<-e3];simp[World.cell?,g4,e2,Ubc,hi]) (fun h4=>by rw[hag]at h4; rw[h4]at h3; rw[<-h2]; exact Z8 h3)
    have hre:=W8 (w:=w) (ρ:=ρ') (v:=.d d) (cs:=c2) (by simpa only[V.repC]using hx);have hda:(V.d d).isAgg=ag:=by
     rw[<-h3,<-hxa]; cases d<;>rfl
    rw[hda]at hre;refine X0 (fun o ho=>?_) hK hre o2 t1;simp only[execOp,ho,r1,Sem.run_bind,hrun,Result.andThen_ok,Sem.run_pure,hag]
 ·exact h.elim

theorem Xqv (hO:OM w ρ ob){E sz:Nat}{y x:V}{p:List Nat}(h:Xkc ob E sz p y K x):∃ρ' ob',Tr w ρ w ρ'/\OM w ρ' ob'/\K y ob':=by
 unfold Xkc at h;split at h
 ·rename_i id q;unfold Xed at h;split at h
  ·rename_i E0 t hl;rcases h with⟨hat,h⟩ | ⟨_,h⟩
   case inr=>exact⟨ρ,ob,Tr.refl w ρ,hO,h⟩
   obtain⟨b,cs,g1,g2,g3⟩:=hO.one id _ hl;have hne:id ≠ Xa ob:=by intro e; subst e; rw[X2]at hl; cases hl
   have hbl:∀b,RO.virt.blk? = some b->w.heap.size<=b:=fun b hb=>by simp[RO.blk?]at hb
   have t1:=W6 w (Ext.refl w) (o:=.virt) (hO.free (X2 ob)) hbl;have o1:OM w (ρ.ins (Xa ob) .virt) ((Xa ob,.arr E sz [])::ob):=hO.ins (Ext.refl w) (X2 ob) hbl (.inl ⟨by simp[Env.ins],rfl⟩);have g3':=V.repC_tr t1 _ _ g3;obtain⟨c1,c2,c3,e2,e3,h4⟩:=V.repC_at (q++p) t (.d .nils) cs g3' hat;simp only[V.repC,D.rep]at h4;subst h4;obtain⟨t',e4,e5,h6⟩:=V.repC_set (q++p) t (.d .nils) (.sl (Xa ob) 0) cs [.slice none 0 0] g3' hat (by simp only[V.repC]; exact⟨.virt,_,by simp[Env.ins],rfl,rfl,rfl⟩) (by simp[V.shape,D.shape]);rw[e4]at h;simp only[Xke]at h;have e7:cs.take (t.shape.off (q++p))++([Value.slice none 0 0]++cs.drop (t.shape.off (q++p) + [Value.slice none 0 0].length))=cs:=by
    rw[<-e3,e2]; simp
   rw[e7]at h6;have hl1:Xc ((Xa ob,Ob.arr E sz [])::ob) id=some (.box E0 t):=by simp[Xc,hne.symm,hl]
   obtain⟨t2,o2⟩:=Xld o1 (t':=t') hl1 (by simp[Env.ins,hne,g1]) g2 e5 h6;have hw:w.setRow b cs.toArray=w:=by
    have:w.heap[b]? = some (.cells cs.toArray E0 (0,0)):=g2;obtain⟨hb,hb'⟩:=Array.getElem?_eq_some_iff.1 this;unfold World.setRow;have hh:(w.heap.modify b fun o=>match o with | .cells _ e f=>.cells cs.toArray e f | o=>o)=w.heap:=by
     apply Array.ext_getElem?;intro j;rw[Ub2];split
     ·rename_i e; subst e; rw[this]; simp
     ·rfl
    cases w;simp only[World.mk.injEq,Ua2,true_and];exact hh
   rw[hw]at t2 o2;simp only[setO,hne.symm,Uay]at o2;exact⟨_,_,t1,o2,h⟩
  ·exact h.elim
 ·exact h.elim

theorem Xqw {y x:V}:∀{l:List (Nat×Nat×List Nat)} {ρ ob},OM w ρ ob->Xsi y K x l ob->∃ρ' ob',Tr w ρ w ρ'/\OM w ρ' ob'/\K y ob'
 | [],ρ,ob,hO,h=>⟨ρ,ob,Tr.refl w ρ,hO,h⟩
 | e::l,ρ,ob,hO,h=>by
  obtain⟨ρ1,ob1,t1,o1,h1⟩:=Xqv hO h;obtain⟨ρ2,ob2,t2,o2,h2⟩:=Xqw o1 h1;exact⟨ρ2,ob2,t1.trans t2,o2,h2⟩

theorem X2q (hs:SM w ρ sl a)(hO:OM w ρ ob){op:Op}{E sz:Nat}{y x:A}{p:List Nat}(hc:I.chk P op (.mvg E sz y x p)=true)(h:Xkc ob E sz p (y.ev sl) K (x.ev sl)):Qr P a w ρ op K Pn:=by
 obtain⟨ρ',ob',t1,o1,h1⟩:=Xqv hO h;cases op<;>simp[I.chk]at hc
 all_goals
  have r1:=A.sound hs hc;exact X0 (fun o ho=>by simp[execOp,ho]) h1 (V.rep_tr t1 r1) o1 t1

theorem X2r (hs:SM w ρ sl a)(hO:OM w ρ ob){op:Op}{y x:A}{l:List (Nat×Nat×List Nat)}(hc:I.chk P op (.mvn y x l)=true)(h:Xsi (y.ev sl) K (x.ev sl) l ob):Qr P a w ρ op K Pn:=by
 obtain⟨ρ',ob',t1,o1,h1⟩:=Xqw hO h;cases op<;>simp[I.chk]at hc
 all_goals
  have r1:=A.sound hs hc;exact X0 (fun o ho=>by simp[execOp,ho]) h1 (V.rep_tr t1 r1) o1 t1
end
end Go.Ab
namespace Go.Ab
open Go
section
variable {P:Program} {a:Act} {w:World} {ρ:Env} {sl:Xf} {ob:Xb} {K Pn:V->Xb->Prop}

theorem Xn6 (hs:SM w ρ sl a){z:List D}{parts:List (Nat×A)}{t e:TypeId}{len sz:Nat}{ps:Array (Nat×Operand)}{K:List V->Prop}(hst:P.underlying t=some (.slice e))(he:Ye P e=some sz)
  (hp:Wn ps.toList parts=true) (hl:z.length=len) (h24:len*sz<=2 ^ 24) (hu:∀x∈z,x.sz=sz) (hz:(match Xd4 P e len sz with | some cs=>D.isCs z cs | none=>false)=true)
  (h:Jc (z.map .d) (parts.map fun (i,x)=>(i,x.ev sl)) K) :
  ∃ks cs,K ks/\V.repCs w ρ ks cs/\ks.map V.shape=(z.map V.d).map V.shape/\∀o:Oper,o.op=.buildSlice t len ps->(execOp a.eval o).run P w=.ok (.value (.slice (some ⟨w.heap.size,0,none⟩) len len)) (Xaa w (.cells cs.toArray e)):=by
 cases hzr:Xd4 P e len sz with
 | none=>simp[hzr]at hz
 | some cs=>
  simp only[hzr]at hz;have hrep:V.repCs w ρ (z.map .d) cs:=(V.repCs_d z cs).2 (D.isCs_rep z cs hz);have hplace:∀i,i<((z.map V.d).map V.shape).length->(fun i=>some (i*sz,sz)) i=some (Sh.sizes (((z.map V.d).map V.shape).take i),(((z.map V.d).map V.shape).getD i .leaf).size):=by
   intro i hi;have hi':i<z.length:=by simpa using hi
   have hx:z[i].shape.size=sz:=by rw[D.size_shape]; exact hu _ (Uba hi')
   rw[<-Xra,D.szs_uniform (sz:=sz) _ (fun x hx=>hu x (Ua6 hx)),Ua7,Ua8 (by omega)];simp[hi',V.shape,hx]
  have hkeep:∀(ks:List V) (ps:List (Nat×V)) (K:List V->Prop),Jc ks ps K->Jc ks ps (fun ks'=>K ks'/\ks'.map V.shape=ks.map V.shape):=by
   intro ks ps;induction ps generalizing ks with
   | nil=>intro K h; exact⟨h,rfl⟩
   | cons p r ih=>
    obtain⟨i,v⟩:=p;intro K h;simp only[Jc]at h⊢;obtain⟨h1,h2,h3,h4⟩:=h;refine⟨h1,h2,h3,?_⟩;have h5:=ih (ks.set i v) K h4;have e:(ks.set i v).map V.shape=ks.map V.shape:=by
     rw[Uas,h2];apply Uat;intro j;by_cases hj:i=j
     ·subst hj; rw[Uau]; simp[h1]
     ·rw[Uau]; simp[hj]
    rw[e]at h5;exact h5
  obtain⟨ks',cs',⟨hK,hsh⟩,hR,hF⟩:=Xge (sl:=sl) hs (fun i=>some (i*sz,sz)) ((z.map V.d).map V.shape) hplace ps.toList parts (z.map .d) cs _ hp hrep rfl (hkeep _ _ _ h);refine⟨ks',cs',hK,hR,hsh,fun o ho=>?_⟩;have hparts:∀ρ':Operand->Value,(ps.map fun (i,x)=>(i,ρ' x)).toList=ps.toList.map fun (i,x)=>(i,ρ' x):=fun ρ'=>by simp
  simp only[execOp,ho,Instr.buildSlice,Sem.run_bind,Xd hst,Xu he,Result.andThen_ok,hparts];rw[Ubo (by omega)];unfold Xd4 at hzr;by_cases h0:len*sz=0
  ·simp only[h0,Ubb,Uaq]at hzr;subst hzr;simp only[h0,Ubb,Sem.run_pure];have:(Array.map (fun x=>(#[]:Array Value)[x % (#[]:Array Value).size]!) (Array.range 0))=([]:List Value).toArray:=by simp
   simp only[this,hF,newRow,Sem.run_bind,run_newObj,Result.andThen_ok,Sem.run_pure];rfl
  ·simp only[h0,Uay]at hzr⊢;cases hzt:Ql P e with
   | none=>simp[hzt]at hzr
   | some zc=>
    simp only[hzt,Option.map_some,Uaq]at hzr;obtain⟨zv,e1,_,hzrun⟩:=Qh hzt;have e2:zv.cells=zc.toArray:=by rw[<-e1]
    have e3:Array.map (fun x=>zv.cells[x % zv.cells.size]!) (Array.range (len*sz))=cs.toArray:=by
     rw[e2,<-hzr,Array.toArray_toList]
    simp only[Sem.run_bind,hzrun,Result.andThen_ok,Sem.run_pure,e3,hF,newRow,run_newObj];rfl

theorem Xbk {l z:List D}{sz:Nat}(h:(l.map V.d).map V.shape=(z.map V.d).map V.shape)(hu:∀x∈z,x.sz=sz):l.length=z.length/\∀x∈l,x.sz=sz:=by
 have hlen:l.length=z.length:=by simpa using Ua4 List.length h
 refine⟨hlen,fun x hx=>?_⟩;obtain⟨i,hi,rfl⟩:=List.getElem_of_mem hx;have h1:=Ua4 (fun s:List Sh=>(s.getD i .leaf).size) h;simp only[Ub3,List.getElem?_map,Ubf hi,Ubf (hlen▸hi),Option.map_some,Option.getD_some,V.shape,D.size_shape]at h1;rw[h1]; exact hu _ (Uba _)

theorem Xlx {z:List D}{parts:List (Nat×A)}{op:Op}{sz:Nat}{E? : Option Nat}
  (hc:Xep P op E? sz z parts=true) :
  ∃t len ps e,op=.buildSlice t len ps/\P.underlying t=some (.slice e)/\(∀E,E? = some E->e=E)/\Ye P e=some sz/\Wn ps.toList parts=true/\z.length=len/\len*sz<=2 ^ 24/\(∀x∈z,x.sz=sz)/\(match Xd4 P e len sz with | some cs=>D.isCs z cs | none=>false)=true:=by
 cases op<;>simp only[Xep,Uah]at hc;rename_i t len ps;simp only[Uai]at hc;obtain⟨hp,hc⟩:=hc;split at hc
 ·rename_i e hst;simp only[Uai,Ubn,Ubp,Ubt]at hc;obtain⟨⟨⟨⟨⟨h0,h1⟩,h2⟩,h3⟩,h4⟩,h5⟩:=hc;refine⟨t,len,ps,e,rfl,hst,fun E hE=>?_,h1,hp,h2,h3,h4,h5⟩;subst hE; simpa using h0
 ·simp at hc

theorem Xou (hs:SM w ρ sl a)(hO:OM w ρ ob){op:Op}{sz:Nat}{z:List D}{parts:List (Nat×A)}(hc:I.chk P op (.bls sz z parts)=true)
  (h:Jc (z.map .d) (parts.map fun (i,x)=>(i,x.ev sl)) fun ks=>dK (fun l=>K (.d (.list sz l)) ob) (V.allD ks)):Xtc P a w ρ op ob K:=by
 obtain⟨t,len,ps,e,rfl,hst,_,he,hp,hl,h24,hu,hz⟩:=Xlx (P:=P) (op:=op) (z:=z) (parts:=parts) (sz:=sz) (E?:=none) hc;obtain⟨ks,cs,hK,hR,hsh,hrun⟩:=Xn6 hs hst he hp hl h24 hu hz h;cases ha:V.allD ks with
 | none=>simp[ha,dK]at hK
 | some l=>
  simp only[ha,dK]at hK;have e1:=V.allD_map ha;subst e1;rw[V.repCs_d]at hR;obtain⟨g1,g2⟩:=Xbk hsh hu;have he2:=Zd w (.cells cs.toArray e);refine⟨_,_,_,hK,Za.2 (.inr ⟨_,len,cs,by rw[g1,hl],by omega,?_,D.repL_mono (he2.tr (ρ:=ρ)).mono _ _ hR,g2⟩),he2,hrun⟩;refine⟨fun _=>⟨rfl,?_,?_⟩,fun i hi=>?_⟩
  ·rintro (⟨id,o,h1,h2⟩ | h1)
   ·have:=Wl hO h1 h2; simp at this
   ·have:=hO.xlt _ h1; simp at this
  ·have:=Zm w (.cells cs.toArray e); exact Xi this
  ·simp[World.cell?,Zm,hi]

theorem Xi4 (hs:SM w ρ sl a)(hO:OM w ρ ob){op:Op}{E sz:Nat}{z:List D}{parts:List (Nat×A)}(hc:I.chk P op (.blo E sz z parts)=true)
  (h:Jc (z.map .d) (parts.map fun (i,x)=>(i,x.ev sl)) fun ks=>dK (fun l=>K (.sl (Xa ob) l.length) ((Xa ob,.arr E sz l)::ob)) (V.allD ks)):Xd6 P a w ρ op K:=by
 have hfree:=X2 ob;obtain⟨t,len,ps,e,rfl,hst,hE,he,hp,hl,h24,hu,hz⟩:=Xlx (P:=P) (op:=op) (z:=z) (parts:=parts) (sz:=sz) (E?:=some E) hc;obtain rfl:=hE E rfl;obtain⟨ks,cs,hK,hR,hsh,hrun⟩:=Xn6 hs hst he hp hl h24 hu hz h;cases ha:V.allD ks with
 | none=>simp[ha,dK]at hK
 | some l=>
  simp only[ha,dK]at hK;have e1:=V.allD_map ha;subst e1;rw[V.repCs_d]at hR;obtain⟨g1,g2⟩:=Xbk hsh hu;have he2:=Zd w (.cells cs.toArray e);have hbl:∀b,(RO.arr w.heap.size l.length l.length).blk? = some b->w.heap.size<=b:=fun b hb=>by simp[RO.blk?]at hb; omega
  have t1:=W6 _ he2 (o:=.arr w.heap.size l.length l.length) (hO.free hfree) hbl;refine Zy hrun hK (Yj.2 ⟨_,by simp[Env.ins]; rfl,?_⟩) (hO.ins he2 hfree hbl ?_) t1 he2
  ·simp only[RO.slice];exact⟨Uak _,⟨_,_,_,rfl⟩,fun _=>by rw[g1,hl]⟩
  ·refine .inr ⟨w.heap.size,l.length,cs,[],by simp[Env.ins],by simpa using Zm w (.cells cs.toArray e),D.repL_mono t1.mono _ _ hR,g2,?_⟩;rw[Ub4,D.repL_len _ _ hR,D.szs_uniform _ g2]

theorem Xef {l:List V}{z:List D}{sz:Nat}(h:l.map V.shape=(z.map V.d).map V.shape)(hu:∀x∈z,x.sz=sz):l.length=z.length/\∀x∈l,x.size=sz:=by
 have hlen:l.length=z.length:=by simpa using Ua4 List.length h
 refine⟨hlen,fun x hx=>?_⟩;obtain⟨i,hi,rfl⟩:=List.getElem_of_mem hx;have h1:=Ua4 (fun s:List Sh=>(s.getD i .leaf).size) h;simp only[Ub3,List.getElem?_map,Ubf hi,Ubf (hlen▸hi),Option.map_some,Option.getD_some,V.shape,D.size_shape]at h1;unfold V.size;rw[h1]; exact hu _ (Uba _)
theorem Xi5 (hs:SM w ρ sl a)(hO:OM w ρ ob){op:Op}{E sz:Nat}{z:List D}{parts:List (Nat×A)}(hc:I.chk P op (.blv E sz z parts)=true)
  (h:Jc (z.map .d) (parts.map fun (i,x)=>(i,x.ev sl)) fun ks=>K (.sl (Xa ob) ks.length) ((Xa ob,.vec E sz ks)::ob)):Xd6 P a w ρ op K:=by
 have hfree:=X2 ob;obtain⟨t,len,ps,e,rfl,hst,hE,he,hp,hl,h24,hu,hz⟩:=Xlx (P:=P) (op:=op) (z:=z) (parts:=parts) (sz:=sz) (E?:=some E) hc;obtain rfl:=hE E rfl;obtain⟨ks,cs,hK,hR,hsh,hrun⟩:=Xn6 hs hst he hp hl h24 hu hz h;obtain⟨g1,g2⟩:=Xef hsh hu;have he2:=Zd w (.cells cs.toArray e);have hbl:∀b,(RO.arr w.heap.size ks.length ks.length).blk? = some b->w.heap.size<=b:=fun b hb=>by simp[RO.blk?]at hb; omega
 have t1:=W6 _ he2 (o:=.arr w.heap.size ks.length ks.length) (hO.free hfree) hbl;refine Zy hrun hK (Yj.2 ⟨_,by simp[Env.ins]; rfl,?_⟩) (hO.ins he2 hfree hbl ?_) t1 he2
 ·simp only[RO.slice];exact⟨Uak _,⟨_,_,_,rfl⟩,fun _=>by rw[g1,hl]⟩
 ·refine .inr ⟨w.heap.size,ks.length,cs,[],by simp[Env.ins],by simpa using Zm w (.cells cs.toArray e),V.repCs_tr t1 _ _ hR,g2,?_⟩;rw[Ub4,V.repCs_len _ _ hR,V.shapes_eq,Yd (z:=sz) _ g2]

theorem Jk (hO:OM w ρ ob){id:Nat}{x x':Ob}{o:RO}{w':World}(hl:Xc ob id=some x)(t:Tr w ρ w' (ρ.ins id o))(hx:V6 w' (ρ.ins id o) id x')
  (hb:∀b,o.blk? = some b->w.heap.size<=b\/∃p,ρ.m id=some p/\p.blk? = some b) (hk:∀j p b,j ≠ id->ρ.m j=some p->p.blk? = some b->w'.heap[b]? = w.heap[b]?):OM w' (ρ.ins id o) (setO ob id x'):=by
 refine⟨fun j y hy=>?_,fun j p hj=>?_,fun i j p q b h1 h2 h3 h4=>?_,fun b hb=>Uaz (hO.xlt b hb) t.size,Jj t hO.glb,fun b h1 h2=>?_,hO.once.set⟩
 ·rw[Xs ob id j ⟨_,hl⟩]at hy;split at hy
  ·rename_i e; subst e; simp at hy; subst hy; exact hx
  ·rename_i e;exact V6.tr t (hO.one j y hy) (by simp[Env.ins,e]) (fun b p h1 h2=>hk j p b e h1 h2)
 ·rw[Xs ob id j ⟨_,hl⟩];split
  ·exact⟨_,rfl⟩
  ·rename_i e; exact hO.dom j p (by simpa[Env.ins,e]using hj)
 ·simp only[Env.ins]at h1 h2;split at h1
  ·rename_i e1;split at h2
   ·rename_i e2; exact e1.trans e2.symm
   ·simp at h1; subst h1;rcases hb b h3 with h5 | ⟨r,h5,h6⟩
    ·have:=Wl hO h2 h4; omega
    ·subst e1; exact hO.inj _ _ _ _ _ h5 h2 h6 h4
  ·split at h2
   ·rename_i e2;simp at h2; subst h2;rcases hb b h4 with h5 | ⟨r,h5,h6⟩
    ·have:=Wl hO h1 h3; omega
    ·subst e2; exact hO.inj _ _ _ _ _ h1 h5 h3 h6
   ·exact hO.inj i j p q b h1 h2 h3 h4
 ·obtain⟨i,p,h3,h4⟩:=h1;simp only[Env.ins]at h3 h2;split at h3
  ·simp at h3; subst h3;rcases hb b h4 with h5 | ⟨r,h5,h6⟩
   ·have:=hO.xlt b h2; omega
   ·exact hO.xdis b ⟨_,r,h5,h6⟩ h2
  ·exact hO.xdis b ⟨i,p,h3,h4⟩ h2
end
end Go.Ab
namespace Go.Ab
open Go
section
variable {P:Program} {a:Act} {w:World} {ρ:Env} {sl:Xf} {ob:Xb} {K Pn:V->Xb->Prop}

theorem X9.len:∀{es:List (D×V)} {l:List MapEntry},X9 w ρ es l->l.length=es.length
 | [],l,h=>by simp only[X9]at h; subst h; rfl
 | (k,v)::r,l,h=>by obtain⟨e,l',rfl,_,_,h3⟩:=h; simp[X9.len h3]
theorem X9.nth:∀{es:List (D×V)} {l:List MapEntry},X9 w ρ es l->∀(i:Nat) (e:MapEntry),l[i]? = some e->(es.getD i default).1.key=some e.key/\(es.getD i default).2.rep w ρ e.val
 | [],l,h,i,e,he=>by simp only[X9]at h; subst h; simp at he
 | (k,v)::r,l,h,0,e,he=>by obtain⟨e',l',rfl,h1,h2,h3⟩:=h; simp at he; subst he; exact⟨h1,h2⟩
 | (k,v)::r,l,h,i+1,e,he=>by obtain⟨e',l',rfl,h1,h2,h3⟩:=h; simpa using X9.nth h3 i e (by simpa using he)
theorem Xad.nth:∀{l:List MapEntry} {n:Nat},Xad n l->∀(i:Nat) (e:MapEntry),l[i]? = some e->e.born=n+i
 | [],n,h,i,e,he=>by simp at he
 | x::r,n,h,0,e,he=>by simp at he; subst he; simpa using h.1
 | x::r,n,h,i+1,e,he=>by have:=Xad.nth h.2 i e (by simpa using he); omega
theorem Xad.mem {l:List MapEntry}(h:Xad 0 l){e:MapEntry}(he:e∈l):e.born<l.length/\l[e.born]? = some e:=by
 obtain⟨i,hi,rfl⟩:=Ub5.1 he;have:=Xad.nth h i _ (Ubf hi);rw[Ub6]at this;exact⟨by omega,by rw[this]; exact Ubf hi⟩
theorem Xad.find {l:List MapEntry}(h:Xad 0 l){i:Nat}{e:MapEntry}(he:l[i]? = some e):l.find? (·.born==i)=some e:=by
 cases hf:l.find? (·.born==i) with
 | none=>
  have:=List.find?_eq_none.1 hf e (List.mem_of_getElem? he);have h2:=Xad.nth h i e he;rw[Ub6]at h2;simp[h2]at this
 | some x=>
  have h1:=List.find?_some hf;have h2:=(Xad.mem h (List.mem_of_find?_eq_some hf)).2;have h3:x.born=i:=by simpa using h1
  rw[h3,he]at h2;exact h2.symm▸rfl
theorem Up {ow:Nat->Prop}:∀{xs:List D} {us:List Value},W2 xs=some us->D.repL w ow xs us
 | [],us,h=>by simp only[W2,Uaq]at h; subst h; rfl
 | x::r,us,h=>by
  simp only[W2]at h;split at h
  ·rename_i u us' h1 h2;cases h;simp only[D.repL];refine⟨[u],us',rfl,?_,Up h2⟩;cases x<;>simp only[D.key0,Uaq,reduceCtorEq]at h1<;>subst h1<;>simp[D.rep]
  ·cases h
theorem Y6 {o:Option (List Value)}{u:Value}(h:Yr7 o=some u):∃us,o=some us/\u=.agg us.toArray:=by
 cases o with
 | none=>cases h
 | some us=>cases h; exact⟨us,rfl,rfl⟩
theorem Xxj {d:D}{u:Value}(h:d.key=some u):(V.d d).rep w ρ u:=by
 cases d<;>simp only[D.key,Uaq,reduceCtorEq]at h
 ·subst h; exact X7.2 rfl
 ·subst h; exact rep_bool.2 rfl
 ·subst h; exact Wy.2 rfl
 ·obtain⟨us,h1,rfl⟩:=Y6 h;exact .inr (.inl ⟨rfl,us,rfl,by simp only[V.repC,D.rep]; exact Up h1⟩)

theorem Xxn (h:OM w ρ ob)(o:Obj)(x:Ob)(hx:V6 (Xaa w o) (ρ.ins (Xa ob) (.map w.heap.size)) (Xa ob) x) :
  Tr w ρ (Xaa w o) (ρ.ins (Xa ob) (.map w.heap.size))/\OM (Xaa w o) (ρ.ins (Xa ob) (.map w.heap.size)) ((Xa ob,x)::ob)/\Ext w (Xaa w o):=by
 have he:=Zd w o;have hl:=X2 ob;exact⟨W6 _ he (o:=.map w.heap.size) (h.free hl) (fun b hb=>by simp[RO.blk?]at hb; omega),h.ins he hl (fun b hb=>by simp[RO.blk?]at hb; omega) hx,he⟩

theorem Xi7 (hs:SM w ρ sl a)(hO:OM w ρ ob){op:Op}{x:A}(hc:I.chk P op (.rng x)=true)(h:Yfm ob K (x.ev sl) (Xc ob (X65 (x.ev sl)))):Xd6 P a w ρ op K:=by
 cases op<;>simp only[I.chk,Uah,Uai]at hc;rename_i t y;obtain⟨ht,hy⟩:=hc;obtain⟨kt,et,ht⟩:∃kt et,P.underlying t=some (.map kt et):=by revert ht; split<;>simp_all
 have r1:=A.sound hs hy;generalize x.ev sl=v at h r1;unfold Yfm at h;split at h
 ·rename_i id es hl;simp only[X65]at hl;obtain⟨b,l,clk,g1,g2,g3,rfl,g5⟩:=hO.one id _ hl;rw[Xfg]at r1;rcases r1 with⟨b',g4,r1⟩ | ⟨g4,_⟩
  ·rw[g1]at g4; cases g4;have hne:id ≠ Xa ob:=fun e=>by rw[e,X2]at hl; cases hl
   obtain⟨t1,o1,e1⟩:=Xxn hO (.mapIter (some b) l.length #[] l.length) (.it (some id) es.length []) ⟨w.heap.size,b,by simp[Env.ins],.inl (by simp[Env.ins,hne,g1]),by rw[Zm,g3.len]⟩;refine Zy (fun o ho=>?_) h (J4.2 (.inl ⟨w.heap.size,by simp[Env.ins],rfl⟩)) o1 t1 e1;have hget:(getObj b).run P w=.ok (.map l.toArray l.length) w:=by simp[getObj,Sem.run,g2]
   simp only[execOp,ho,Instr.range,r1,Sem.run_bind,Xd ht,Result.andThen_ok,hget,run_newObj,Sem.run_pure];rfl
  ·rw[g1]at g4; cases g4
 ·rw[J5]at r1;obtain⟨t1,o1,e1⟩:=Xxn hO (.mapIter none 0 #[] 0) (.it none 0 []) ⟨w.heap.size,by simp[Env.ins],by rw[Zm]⟩;refine Zy (fun o ho=>?_) h (J4.2 (.inl ⟨w.heap.size,by simp[Env.ins],rfl⟩)) o1 t1 e1;simp only[execOp,ho,Instr.range,r1,Sem.run_bind,Xd ht,Result.andThen_ok,run_newObj,Sem.run_pure];rfl
 ·exact h.elim

theorem Xrf (h:OM w ρ ob){id b:Nat}{y x:Ob}{o:Obj}(hl:Xc ob id=some y)(hr:ρ.m id=some (.map b))(hb:b<w.heap.size)(hx:V6 (Xac w b o) ρ id x) :
  Tr w ρ (Xac w b o) ρ/\OM (Xac w b o) ρ (setO ob id x):=by
 have t1:Tr w ρ (Xac w b o) ρ:=by
  refine⟨by rw[W0]; exact Uak _,fun j hj _=>Zk w _ (fun e=>hj ?_),fun _ h=>.inl h,rfl,rfl,fun _ o h=>⟨o,h,.refl o⟩,rfl,rfl,rfl,Uak _⟩;subst e; exact⟨id,_,hr,rfl⟩
 refine⟨t1,fun j z hz=>?_,fun j o hj=>?_,h.inj,fun b' hb'=>by rw[W0]; exact h.xlt b' hb',Jj t1 h.glb,h.xdis,h.once.set⟩
 ·rw[Xs ob id j ⟨_,hl⟩]at hz;split at hz
  ·rename_i e; subst e;simp at hz; subst hz;exact hx
  ·rename_i e;refine V6.tr t1 (h.one j z hz) rfl (fun b' o h1 h2=>Zk w _ (fun e2=>e ?_));subst e2;exact h.inj j id _ _ _ h1 hr h2 rfl
 ·rw[Xs ob id j ⟨_,hl⟩];split
  ·exact⟨_,rfl⟩
  ·exact h.dom j o hj

theorem Qc {b:Nat}{o y:Obj}(w:World)(hb:w.heap[b]? = some y)(hy:y.isCells=false):(setObj b o).run P w=.ok () (Xac w b o):=by
 cases y<;>simp_all[setObj,Sem.run,Xac,Obj.isCells]
theorem X5q (P:Program)(w:World){n:Nat}(hn:0<n):∃k w',(choose (.mapNext n)).run P w=.ok k w'/\k<n/\Ext w w'/\w'.heap=w.heap:=by
 rw[run_choose_drew];split
 ·exact⟨0,w,rfl,hn,Ext.refl w,rfl⟩
 ·exact⟨_,_,rfl,Nat.mod_lt _ hn,Ext.drew w _,rfl⟩

theorem X2s (hs:SM w ρ sl a)(hO:OM w ρ ob){op:Op}{x:A}(hc:I.chk P op (.nxt x)=true)(h:X5c ob K (x.ev sl)):Qr P a w ρ op K Pn:=by
 cases op<;>simp only[I.chk,Uah]at hc;rename_i y st;cases st<;>simp only[Uah]at hc;have r1:=A.sound hs hc;generalize x.ev sl=v at h r1;unfold X5c at h;split at h
 ·rename_i id;have tupF:(V.tup [.d (.bool false)]).rep w ρ (.tuple #[.bool false]):=by
   rw[Z4]; exact⟨[.bool false],rfl,by simp only[V.reps]; exact⟨_,_,rfl,rep_bool.2 rfl,rfl⟩⟩
  unfold Xko at h;split at h
  ·rename_i n sn hl;obtain⟨b,g1,g2⟩:=hO.one id _ hl;rw[J4]at r1;rcases r1 with⟨b',g4,r1⟩ | ⟨g4,_⟩
   ·rw[g1]at g4; cases g4;simp only[hdV]at r1;have hget:(getObj b).run P w=.ok (.mapIter none 0 #[] 0) w:=by simp[getObj,Sem.run,g2]
    exact X0 (fun o ho=>by simp[execOp,ho,Instr.next,r1,hget]) h tupF hO (Tr.refl _ _)
   ·rw[g1]at g4; cases g4
  ·rename_i j n seen hl;obtain⟨b,mb,g1,g2,g3⟩:=hO.one id _ hl;rw[J4]at r1;rcases r1 with⟨b',g4,r1⟩ | ⟨g4,_⟩
   ·rw[g1]at g4; cases g4;simp only[hdV]at r1;unfold Xsm at h;split at h
    ·rename_i es hlm;obtain⟨hlen,hov,hel⟩:=h;obtain⟨mb',l,clk,m1,m2,m3,rfl,m5⟩:=hO.one j _ hlm;rcases g2 with g2 | g2
     ·rw[m1]at g2; cases g2;have hln:l.length=n:=by rw[m3.len,hlen]
      have hget:(getObj b).run P w=.ok (.mapIter (some mb) n seen.toArray n) w:=by simp[getObj,Sem.run,g3]
      have hgm:(getObj mb).run P w=.ok (.map l.toArray l.length) w:=by simp[getObj,Sem.run,m2]
      have hbad:(!seen.toArray.isEmpty&&!l.toArray.isEmpty&&l.toArray.all (fun e=>decide (e.born≥n)))=false:=by
       cases l with
       | nil=>simp
       | cons e r=>
        have h0:=m5.1;have:decide (e.born≥n)=false:=by simp[h0]; rw[<-hln]; simp
        simp[this]
      let left:Array MapEntry:=l.toArray.filter fun e=>!seen.toArray.contains e.born;have hold:left.filter (fun e=>decide (e.born<n))=left:=by
       rw[Array.filter_eq_self];intro e he;have he':=(Array.mem_filter.1 he).1;have:=(Xad.mem m5 (by simpa using he')).1;simp; omega
      have hnew:left.filter (fun e=>decide (e.born≥n))=#[]:=by
       rw[Array.filter_eq_empty_iff];intro e he;have he':=(Array.mem_filter.1 he).1;have:=(Xad.mem m5 (by simpa using he')).1;simp; omega
      have hold2:Array.filter (fun x=>decide (x.born<n)) (Array.filter (fun e=>!seen.toArray.contains e.born) l.toArray)=left:=hold;have hnew2:Array.filter (fun x=>decide (x.born≥n)) (Array.filter (fun e=>!seen.toArray.contains e.born) l.toArray)=#[]:=hnew;let cand:Array (Option MapEntry):=(if left.isEmpty then #[none] else #[])++(left++#[]).map some;have hcs:0<cand.size:=by
       simp only[cand];cases hle:left.isEmpty with
       | true=>simp; omega
       | false=>simp[Array.isEmpty_iff]at hle; simp; exact Array.size_pos_iff.2 hle
      obtain⟨k,w1,hk1,hk2,hx1,hh1⟩:=X5q P w hcs;have hO1:=hO.ext hx1;cases hck:cand[k]? with
      | none=>simp[Array.getElem?_eq_none_iff]at hck; omega
      | some c=>
       cases c with
       | none=>
        have hle:left.isEmpty=true:=by
         cases hle:left.isEmpty with
         | true=>rfl
         | false=>
          exfalso;simp only[cand,hle,Uah,Uay]at hck;simp at hck
        have hall:(List.range n).all (fun i=>seen.contains i)=true:=by
         rw[Ubt];intro i hi;have hi:=Ub7.1 hi;have hil:i<l.length:=by omega
         have hb:=Xad.nth m5 i _ (Ubf hil);rw[Ub6]at hb;cases hc:seen.contains i with
         | true=>rfl
         | false=>
          exfalso;have:l[i]∈left:=by
           simp only[left,Array.mem_filter];refine⟨by simp,?_⟩;rw[hb]; simpa using hc
          simp[Array.isEmpty_iff]at hle;rw[hle]at this; simp at this
        refine X0 (w':=w1) (ρ':=ρ) (fun o ho=>?_) (hov hall) tupF hO1 hx1.tr;simp only[execOp,ho,Instr.next,r1,Sem.run_bind,hget,Result.andThen_ok,hgm,hbad,Uah,Uay];rw[hold2,hnew2]
        change ((Sem.run P (choose (.mapNext cand.size)) w).andThen _).andThen _=_
        rw[hk1];simp only[Result.andThen_ok]
        change (Sem.run P (match cand[k]? with | some (some e)=>_ | some none=>_ | none=>_) w1).andThen _=_
        rw[hck];simp
       | some e=>
        have hel2:e∈left:=by
         have hm:some e∈cand:=Ubz hck;simp only[cand,Array.append_empty,Array.mem_append,Array.mem_map]at hm;rcases hm with hm | ⟨e',he',hm⟩
         ·split at hm<;>simp at hm
         ·cases hm; exact he'
        obtain⟨hem,hns⟩:=Array.mem_filter.1 hel2;obtain⟨hlt,hle⟩:=Xad.mem m5 (e:=e) (by simpa using hem);have hns':seen.contains e.born=false:=by simpa using hns
        obtain⟨n1,n2⟩:=m3.nth e.born e hle;have hbs:b<w1.heap.size:=by rw[hh1]; exact Xi g3
        obtain⟨t2,o2⟩:=Xrf (o:=.mapIter (some mb) n (seen++[e.born]).toArray n) hO1 hl g1 hbs (x:=.it (some j) n (seen++[e.born])) ⟨b,mb,g1,.inl m1,J8 w1 _ hbs⟩;have t3:=hx1.tr.trans t2;refine X0 (ρ':=ρ) (v:=.tuple #[.bool true,e.key,e.val]) (fun o ho=>?_) (hel e.born (by omega) hns') ?_ o2 t3
        ·simp only[execOp,ho,Instr.next,r1,Sem.run_bind,hget,Result.andThen_ok,hgm,hbad,Uah,Uay];rw[hold2,hnew2]
         change ((Sem.run P (choose (.mapNext cand.size)) w).andThen _).andThen _=_
         rw[hk1];simp only[Result.andThen_ok]
         change (Sem.run P (match cand[k]? with | some (some e)=>_ | some none=>_ | none=>_) w1).andThen _=_
         rw[hck];have hset:(setObj b (.mapIter (some mb) n (seen.toArray.push e.born) l.length)).run P w1=.ok () (Xac w1 b (.mapIter (some mb) n (seen++[e.born]).toArray n)):=by
          rw[hln];have:(seen.toArray.push e.born)=(seen++[e.born]).toArray:=by simp
          rw[this];exact Qc w1 (y:=.mapIter (some mb) n seen.toArray n) (by rw[hh1]; exact g3) rfl
         simp only[Sem.run_bind,hset,Result.andThen_ok,Sem.run_pure]
        ·rw[Z4];refine⟨_,rfl,?_⟩;simp only[V.reps];exact⟨_,_,rfl,rep_bool.2 rfl,_,_,rfl,Xxj n1,_,_,rfl,V.rep_tr t3 n2,rfl⟩
     ·rw[m1]at g2; cases g2
    ·exact h.elim
   ·rw[g1]at g4; cases g4
  ·exact h.elim
 ·exact h.elim

theorem Xov (hs:SM w ρ sl a)(hO:OM w ρ ob){op:Op}{x:A}(hc:I.chk P op (.ety x)=true)(h:X3g ob (fun v=>K v ob) (x.ev sl)):Xtc P a w ρ op ob K:=by
 cases op<;>simp only[I.chk,Uah]at hc;rename_i y;have r1:=A.sound hs hc;generalize x.ev sl=v at h r1;unfold X3g at h;split at h
 ·rename_i id;unfold Xlz at h;split at h
  ·rename_i j n seen hl;obtain⟨hne,h⟩:=h;unfold Xrv at h;split at h
   ·rename_i es hlm;obtain⟨hi,hlen,hK⟩:=h;obtain⟨b,mb,g1,g2,g3⟩:=hO.one id _ hl;obtain⟨mb',l,clk,m1,m2,m3,rfl,m5⟩:=hO.one j _ hlm;rw[J4]at r1;rcases r1 with⟨b',g4,r1⟩ | ⟨g4,_⟩
    ·rw[g1]at g4; cases g4;rcases g2 with g2 | g2
     ·rw[m1]at g2; cases g2;simp only[hdV]at r1;have hln:l.length=n:=by rw[m3.len,hlen]
      have hget:(getObj b).run P w=.ok (.mapIter (some mb) n seen.toArray n) w:=by simp[getObj,Sem.run,g3]
      have hgm:(getObj mb).run P w=.ok (.map l.toArray l.length) w:=by simp[getObj,Sem.run,m2]
      have hst:seen.toArray.back? = some (seen.getLastD 0):=by
       rw[List.back?_toArray];cases seen with
       | nil=>exact absurd rfl hne
       | cons x r=>simp[List.getLastD,List.getLast?_eq_some_getLast]
      generalize seen.getLastD 0=i at hi hK hst;have hle:l[i]? = some (l[i]'(by omega)):=Ubf (by omega);have hf:=m5.find hle;obtain⟨n1,n2⟩:=m3.nth _ _ hle;generalize l[i]'(by omega)=ee at hle hf n1 n2;refine⟨.tuple #[ee.key,ee.val],_,w,hK,?_,Ext.refl w,fun o ho=>?_⟩
      ·rw[Z4];refine⟨_,rfl,?_⟩;simp only[V.reps];exact⟨_,_,rfl,Xxj n1,_,_,rfl,n2,rfl⟩
      ·simp[execOp,ho,Instr.entry,r1,hget,hst,hgm,hln,hf]
     ·rw[m1]at g2; cases g2
    ·rw[g1]at g4; cases g4
   ·exact h.elim
  ·exact h.elim
 ·exact h.elim

theorem Xik (hs:SM w ρ sl a)(hO:OM w ρ ob){op:Op}{x:A}(hc:I.chk P op (.lenM x)=true)(h:Xsf ob (fun v=>K v ob) (x.ev sl)):Xtc P a w ρ op ob K:=by
 cases op<;>simp only[I.chk,Uah]at hc;rename_i c;obtain⟨ca,args,ts⟩:=c;cases ca<;>(try simp only[Uah]at hc);rename_i b;cases b<;>(try simp only[Uah]at hc);split at hc
 ·rename_i y t e1 e2;simp only[Uai]at hc;obtain⟨h0,h1⟩:=hc;obtain⟨kt,et,ht⟩:∃kt et,P.underlying t=some (.map kt et):=by revert h0; split<;>simp_all
  have r1:=A.sound hs h1;have ea:args=#[y]:=by simpa using Ua4 List.toArray e1
  have et:ts=#[t]:=by simpa using Ua4 List.toArray e2
  subst ea et;generalize x.ev sl=v at h r1;unfold Xsf at h;split at h
  ·rename_i id;unfold Ych at h;split at h
   ·rename_i es hl;obtain⟨b,l,clk,g1,g2,g3,rfl,g5⟩:=hO.one id _ hl;rw[Xfg]at r1;rcases r1 with⟨b',g4,r1⟩ | ⟨g4,_⟩
    ·rw[g1]at g4; cases g4;have hget:(getObj b).run P w=.ok (.map l.toArray l.length) w:=by simp[getObj,Sem.run,g2]
     refine⟨_,_,w,h,X7.2 rfl,Ext.refl w,fun o ho=>?_⟩;simp[execOp,ho,resolve,invoke,builtin,Builtin.len_,r1,Xd ht,goInt,hget,g3.len]
    ·rw[g1]at g4; cases g4
   ·exact h.elim
  ·rw[J5]at r1;refine⟨_,_,w,h,X7.2 rfl,Ext.refl w,fun o ho=>?_⟩;simp[execOp,ho,resolve,invoke,builtin,Builtin.len_,r1,Xd ht,goInt]
  ·exact h.elim
 ·simp at hc

theorem X36 {t e:TypeId}(ht:P.underlying t=some (.slice e))(x:Option Addr)(n m:Nat)(w':World):(Op.equal t (.slice x n m) (.slice none 0 0)).run P w'=.ok x.isNone w':=by
 have:∀d,(Op.equalIn (d+1) t (.slice x n m) (.slice none 0 0)).run P w'=.ok x.isNone w':=fun d=>by cases x<;>simp[Op.equalIn,Xd ht]
 exact this 9999
theorem X33 {t k e:TypeId}(ht:P.underlying t=some (.map k e))(x:Option Nat)(w':World):(Op.equal t (.map x) (.map none)).run P w'=.ok x.isNone w':=by
 have:∀d,(Op.equalIn (d+1) t (.map x) (.map none)).run P w'=.ok x.isNone w':=fun d=>by cases x<;>simp[Op.equalIn,Xd ht]
 exact this 9999
theorem Xrx (op:BinOp)(t:TypeId)(x y:Operand)(b:Option Addr)(n m:Nat)(v:Value)(w':World):(eqGuard op t x y (.slice b n m) v).run P w'=.ok () w':=by
 cases op<;>simp[eqGuard]
theorem Xl0 (op:BinOp)(t:TypeId)(x y:Operand)(b:Option Nat)(v:Value)(w':World):(eqGuard op t x y (.map b) v).run P w'=.ok () w':=by
 cases op<;>simp[eqGuard]

theorem Xow (hs:SM w ρ sl a)(hO:OM w ρ ob){op:Op}{e m:Bool}{x:A}(hc:I.chk P op (.isn e m x)=true)(h:Xxf ob e (fun v=>K v ob) m (x.ev sl)):Xtc P a w ρ op ob K:=by
 cases op<;>simp only[I.chk,Uah]at hc;rename_i o1 t x1 y1 t2;simp only[Uai]at hc;obtain⟨⟨h0,h1⟩,h2⟩:=hc;have r1:=A.sound hs h1;generalize x.ev sl=v at h r1;unfold Ymh at h2;split at h2
 ·rename_i el n m' ht;simp only[Uai,Ubn]at h2;obtain⟨rfl,rfl⟩:=h2;have hsl:∀{u:Option Addr} {n m:Nat},a.eval x1=.slice u n m->K (.d (.bool (if u.isNone then e else !e))) ob->Xtc P a w ρ (.binOp o1 t x1 (.const (.slice none 0 0)) t2) ob K:=by
   intro u n m e1 hK;have hk:a.eval (.const (.slice none 0 0))=.slice none 0 0:=rfl;refine⟨_,_,w,hK,rep_bool.2 rfl,Ext.refl w,fun o ho=>?_⟩;cases u<;>cases o1<;>simp only[Ycc,Uah]at h0<;>(try (cases e<;>simp at h0))<;>simp[execOp,ho,e1,hk,Xrx,binOp,X36 ht]
  unfold Xxf at h;split at h
  ·rename_i hm; cases hm
  ·rename_i hm; cases hm
  ·rw[Wo]at r1;exact hsl r1 h
  ·rename_i xs _;rw[Za]at r1;rcases r1 with⟨rfl,r1⟩ | ⟨ad,cap,vs,r1,_⟩
   ·exact hsl r1 (h.2 rfl)
   ·exact hsl r1 h.1
  ·rename_i id k _;rw[Yj]at r1;obtain⟨o,g1,g2⟩:=r1;have real:∀b len cap,o=.arr b len cap->k=len->K (.d (.bool !e)) ob->Xtc P a w ρ (.binOp o1 t x1 (.const (.slice none 0 0)) t2) ob K:=by
    intro b len cap e1 e2 hK;subst e1;simp only[RO.slice]at g2;exact hsl (g2.2.2 e2) (by simpa using hK)
   unfold Yvx at h;split at h
   ·rename_i E sz xs hl;obtain⟨rfl,hne,hK⟩:=h;rcases hO.one id _ hl with⟨_,q2⟩ | ⟨b,cap,cs,sp,q1,_⟩
    ·exact absurd q2 hne
    ·rw[g1]at q1; cases q1;exact real _ _ _ rfl rfl hK
   ·rename_i E sz xs hl;obtain⟨rfl,hne,hK⟩:=h;rcases hO.one id _ hl with⟨_,q2⟩ | ⟨b,cap,cs,sp,q1,_⟩
    ·exact absurd q2 hne
    ·rw[g1]at q1; cases q1;exact real _ _ _ rfl rfl hK
   ·exact h.elim
  ·exact h.elim
 ·rename_i k el ht;have hmp:∀{u:Option Nat},a.eval x1=.map u->K (.d (.bool (if u.isNone then e else !e))) ob->Xtc P a w ρ (.binOp o1 t x1 (.const (.map none)) t2) ob K:=by
   intro u e1 hK;have hk:a.eval (.const (.map none))=.map none:=rfl;refine⟨_,_,w,hK,rep_bool.2 rfl,Ext.refl w,fun o ho=>?_⟩;cases u<;>cases o1<;>simp only[Ycc,Uah]at h0<;>(try (cases e<;>simp at h0))<;>simp[execOp,ho,e1,hk,Xl0,binOp,X33 ht]
  unfold Xxf at h;split at h
  ·rename_i id _;unfold Yvw at h;split at h
   ·rename_i es hl;obtain⟨b,l,clk,g1,_⟩:=hO.one id _ hl;rw[Xfg]at r1;rcases r1 with⟨b',g4,r1⟩ | ⟨g4,_⟩
    ·exact hmp r1 (by simpa using h)
    ·rw[g1]at g4; cases g4
   ·exact h.elim
  ·rw[J5]at r1;exact hmp r1 h
  all_goals first | contradiction | exact h.elim
 ·cases h2

theorem X5a {t f:Nat}{nm:String}{v:Value}{info:TypeInfo}{m:Method}(hi:P.info? t=some info)(hm:info.methods.find? (·.name==nm)=some m)(hp:m.path=#[])(hf:m.func=some (f,true)){e:TypeId}(ht:P.underlying t=some (.pointer e))(k:Nat) :
  (method (k+1) t v nm).run P w=.ok (f,v) w:=by
 simp only[method,Sem.run_bind,run_typeInfo w hi,Result.andThen_ok,hm,hp,follow,Sem.run_pure,hf,receiverAt,Xd ht,Place.get]
theorem X2j {P:Prg}(hg:ρ.gl=P.g)(hs:SM w ρ sl a)(hO:OM w ρ ob){op:Op}{nm:String}{t f:Nat}{fl:Option (Nat×Nat×Nat×Bool)}{x:A}{args:List A}(hc:I.chk P.p op (.inv nm t f fl x args)=true)
  (h:Ysl P t f fl (args.map (A.ev sl)) ob K Pn (x.ev sl)):Qr P.p a w ρ op K Pn:=by
 cases op<;>simp only[I.chk,Uah]at hc;rename_i c;obtain⟨ca,as,ts⟩:=c;cases ca<;>(try simp only[Uah]at hc);rename_i rc m0;simp only[Uai,Ubn]at hc;obtain⟨⟨⟨rfl,h1⟩,h2⟩,h3⟩:=hc;have r1:=A.sound hs h1;generalize x.ev sl=v at h r1;unfold Ysl at h;split at h
 ·rename_i t' id p;obtain⟨rfl,hcal,hr⟩:=h;rw[Wa (by simp[V.isAgg]) (by simp)]at r1;simp only[V.repC,Ua1,Ua2]at r1;obtain⟨c,r1,rc1⟩:=r1;have hpt:(V.ptr id p).rep w ρ c:=by
   rcases rc1 with rc1 | ⟨q,_⟩ | ⟨_,rc1⟩
   ·cases rc1
   ·simp[V.isAgg]at q
   ·exact Xb9.2 rc1
  obtain⟨ad,rfl⟩:=Uy hpt;have hmeth:∃rv r,(method (P.p.types.size+Made.depth) t' (.pointer (some ad)) m0).run P.p w=.ok (f,rv) w/\r.rep w ρ rv/\ACall P f (r::args.map (A.ev sl)) ob (Xb6 K Pn):=by
   unfold Yh0 at h3;split at h3
   ·rename_i m hm;obtain⟨info,hi,hm⟩:∃info,P.p.info? t'=some info/\info.methods.find? (·.name==m0)=some m:=by
     cases hi:P.p.info? t' with
     | none=>rw[hi]at hm; cases hm
     | some info=>rw[hi]at hm; exact⟨info,rfl,hm⟩
    split at h3
    ·rename_i g hfn;simp only[Uai,Ubn]at h3;obtain⟨⟨rfl,hpe⟩,hty⟩:=h3;obtain⟨e,ht⟩:∃e,P.p.underlying t'=some (.pointer e):=by revert hty; split<;>simp_all
     have hpe:m.path=#[]:=by simpa[Array.isEmpty_iff]using hpe
     exact⟨_,_,X5a hi hm hpe hfn ht _,hpt,hr⟩
    ·rename_i fi fo n ag g hfn;simp only[Uai,Ubn]at h3;obtain⟨rfl,h3⟩:=h3;split at h3
     ·rename_i s hpl;simp only[Uai,Ubn]at h3;obtain⟨⟨hdr,hix⟩,h3⟩:=h3;split at h3
      ·rename_i fields hst;split at h3
       ·rename_i fd hfd;simp only[Uai,Ubn,bne_iff_ne,ne_eq]at h3;obtain⟨⟨⟨⟨⟨ho,hsz⟩,hn0⟩,hag⟩,hnp⟩,hund⟩:=h3;simp only[X5l]at hr;let a2:Act:=⟨#[.pointer (some ad)],[]⟩
        have hs2:SM w ρ [(0,.ptr id p)] a2:=by
         intro k;simp only[look];split
         ·rename_i e; subst e; exact hpt
         ·exact Q4
        have hfT:Qp P.p s.struct fi=some fd:=by simp[Qp,hst,hfd]
        obtain⟨v2,y2,hK2,hr2,hrun2⟩:=Xfk (P:=P.p) (a:=a2) (f:=fi) (fo:=fo) (x:=.t 0) (op:=.fieldAddr s.struct (.tmp 0) fi) hs2 hO (by simp[C.chk,hfT,ho,hsz,hn0,A.chk]) (by simpa[A.ev,look]using hr)
        have e2:=hrun2 ⟨none,.fieldAddr s.struct (.tmp 0) fi,0, "", #[],none⟩ rfl w (fun _=>Ext.refl w)
        obtain⟨a',hfp,rfl⟩:∃a',(fieldPlace ad fd).run P.p w=.ok a' w/\v2=.pointer (some a'):=by
         have ea:a2.eval (.tmp 0)=.pointer (some ad):=rfl;simp only[execOp,ea,Instr.fieldAt,Sem.run_bind,Xd hst,Result.andThen_ok,hfd,Instr.sureAddr,Sem.run_pure]at e2;cases hq:(fieldPlace ad fd).run P.p w with
         | ok a' w'=>simp[hq]at e2; exact⟨a',by rw[e2.2],e2.1.symm⟩
         | halt q w'=>simp[hq]at e2
        let a3:Act:=⟨#[.pointer (some a')],[]⟩
        have hs3:SM w ρ [(0,y2)] a3:=by
         intro k;simp only[look];split
         ·rename_i e; subst e; exact hr2
         ·exact Q4
        obtain⟨v3,y3,hK3,hr3,hrun3⟩:=Qe (P:=P.p) (a:=a3) (n:=n) (ag:=ag) (x:=.t 0) (op:=.load fd.type (.tmp 0)) hs3 hO (by simp[C.chk,hsz,hund,hag,A.chk]) (by simpa[A.ev,look]using hK2)
        have e3:=hrun3 ⟨none,.load fd.type (.tmp 0),0, "", #[],none⟩ rfl w (fun _=>Ext.refl w)
        have hlv:(loadVar fd.type a').run P.p w=.ok v3 w:=by
         have ea:a3.eval (.tmp 0)=.pointer (some a'):=rfl;simp only[execOp,ea,Instr.loadAt,Sem.run_bind,Instr.sureAddr,Sem.run_pure,Result.andThen_ok]at e3;revert e3;generalize (loadVar fd.type a').run P.p w=res;intro e3;cases res with
         | ok x w'=>simp at e3; obtain⟨rfl,rfl⟩:=e3; rfl
         | halt x w'=>simp at e3
        refine⟨v3,y3,?_,hr3,hK3⟩;subst hix;have hk:P.p.types.size+Made.depth=(P.p.types.size+99)+1:=rfl;rw[hk];generalize P.p.types.size+99=kf;obtain⟨td,htd⟩:=Ua3.1 hund;have hnp':∀e,td ≠ .pointer e:=fun e he=>by rw[htd,he]at hnp; simp at hnp
        have hrec:∀wr,(receiverAt fd.type (.var a') false wr).run P.p w=.ok v3 w:=by
         intro wr;unfold receiverAt;simp only[Sem.run_bind,Xd htd,Result.andThen_ok];cases td<;>first | exact absurd rfl (hnp' _) | (simp only[Place.get]; exact hlv)
        simp only[method,Sem.run_bind,run_typeInfo w hi,Result.andThen_ok,hm,hpl,follow,Xd hst,hfd,hdr,Ubb,Place.get,Sem.run_pure,asAddr,hfp,hfn,hrec]
       ·cases h3
      ·cases h3
     ·cases h3
    ·cases h3
   ·cases h3
  obtain⟨rv,r,q1,q2,q3⟩:=hmeth;refine U2 hg (args:=rv::as.toList.map a.eval) (fun o ho=>?_) q3 hO (by simp only[V.reps]; exact⟨_,_,rfl,q2,Y9 hs h2⟩);have e0:(#[Value.iface t' (.pointer (some ad))]++Array.map a.eval as)[0]? = some (.iface t' (.pointer (some ad))):=by simp[Ub8]
  have e1:(#[Value.iface t' (.pointer (some ad))]++Array.map a.eval as).extract 1 (#[Value.iface t' (.pointer (some ad))]++Array.map a.eval as).size=Array.map a.eval as:=by
   apply Array.ext'; simp; exact Ubk (by simp)
  simp only[execOp,ho,resolve,r1,Sem.run_bind,Sem.run_pure,Result.andThen_ok,invoke,e0,e1,callMethod];have hp:∀w,(program).run P.p w=.ok P.p w:=fun _=>rfl;simp only[Sem.run_bind,hp,Result.andThen_ok,q1,Yl hcal];congr 2;apply Array.ext'; simp
 ·exact h.elim
end
end Go.Ab
namespace Go.Ab
open Go
section
variable {P:Program} {a:Act} {w:World} {ρ:Env} {sl:Xf} {ob:Xb} {K Pn:V->Xb->Prop}

theorem Yh {id:Nat}{o:RO}:(ρ.ins id o).m id=some o:=by simp[Env.ins]

theorem Xjo (n:Nat):∀(r c:Nat),c<=2*n+192->Builtin.growBy n r c<=2*n+192
 | 0,c,h=>by simpa[Builtin.growBy]using h
 | r+1,c,h=>by
  simp only[Builtin.growBy];split
  ·exact h
  ·exact Xjo n r _ (by omega)

theorem Xsj {need cap:Nat}(h:cap<need):Builtin.nextslicecap need cap<=2*need+192:=by
 unfold Builtin.nextslicecap;split
 ·omega
 ·split
  ·omega
  ·exact Xjo need 4 cap (by omega)

theorem X0m {sz:Nat}{v:V}{x:Value}{K:List D->Prop}(hv:v.rep w ρ x)(h:X0k sz K v) :
  ∃ys vs,K ys/\D.repL w (own ρ) ys vs/\(∀y∈ys,y.sz=sz)/\(∀w',(Builtin.lenOf x).run P w'=.ok ys.length w')/\∀w',w'.heap=w.heap->(Builtin.firstCells sz ys.length x).run P w'=.ok vs.toArray w':=by
 unfold X0k at h;split at h
 ·rename_i z ys;obtain⟨rfl,h⟩:=h;rw[Za]at hv;rcases hv with⟨rfl,rfl⟩ | ⟨ad,cap,vs,rfl,hcap,hce,hre,hu⟩
  ·exact⟨[],[],h,by simp[D.repL],by simp,fun w'=>by simp[Builtin.lenOf],fun w' _=>by simp[Builtin.firstCells]⟩
  ·refine⟨ys,vs,h,hre,hu,fun w'=>by simp[Builtin.lenOf],fun w' hw=>?_⟩;have hl:vs.length=ys.length*z:=by rw[D.repL_len _ _ hre,D.szs_uniform _ hu]
   simp only[Builtin.firstCells,<-hl];exact run_loadCells_list w' ad vs (fun j u hj=>by
    obtain⟨hj',e⟩:=Uan.1 hj;have hne:vs ≠ []:=by intro h; simp[h]at hj'
    rw[Addr.add_eq (hce.1 hne).1,cell?_congr (w:=w) (w':=w') (by rw[hw]),<-e];exact hce.2 j hj')
 ·rw[Wo]at hv;subst hv;exact⟨[],[],h,by simp[D.repL],by simp,fun w'=>by simp[Builtin.lenOf],fun w' _=>by simp[Builtin.firstCells]⟩
 ·exact h.elim

structure AppT (P:Program)(t t2 E sz B:Nat):Prop where
 u1:P.underlying t=some (.slice E)
 u2:(∃e,P.underlying t2=some (.slice e))\/P.underlying t2=some .string
 info:∃i z,P.info? E=some i/\i.size=sz/\i.bytes=B/\i.zero=some z/\z.cells.size=sz
 b0:B ≠ 0
 s0:sz ≠ 0

theorem Xoz {t t2 ty E sz B:Nat}(T:AppT P t t2 E sz B){base:Option Addr}{sLen sCap n:Nat}{x:Value}{cs vs:List Value}
  (hx:∀w',(Builtin.lenOf x).run P w'=.ok n w') (hf:∀w',w'.heap=w.heap->(Builtin.firstCells sz n x).run P w'=.ok vs.toArray w')
  (ho:∀w',w'.heap=w.heap->(Builtin.firstCells sz sLen (.slice base sLen sCap)).run P w'=.ok cs.toArray w') (hneed:sCap<sLen+n) (hB:(2*(sLen+n)+192)*B<=281474976710656) :
  ∃newCap rest,sLen+n<=newCap/\rest.length=(newCap-(sLen+n))*sz/\
   (Builtin.append_ #[t,t2] ty #[.slice base sLen sCap,x]).run P w=.ok (.slice (some ⟨w.heap.size,0,none⟩) (sLen+n) newCap) (Xaa { w with drawn:=w.drawn+1 } (.cells ((cs++vs)++rest).toArray E)):=by
 obtain⟨i,z,hi,h1,h2,h3,h4⟩:=T.info;have hsz:Ye P E=some sz:=by simp[Ye,hi,h1]
 have hti:∀w',(typeInfo E).run P w'=.ok i w':=fun w'=>by simp[typeInfo,hi]
 have hzv:∀w',(zeroValue E).run P w'=.ok z w':=fun w'=>by simp[zeroValue,typeInfo,hi,h3]
 have hcap:=Xsj hneed;have hle:Builtin.nextslicecap (sLen+n) sCap*B<=281474976710656:=Ual (Ub9 B hcap) hB;have hq:(Question.appendCap (sLen+n) sCap E).forced=false:=rfl;refine⟨(Question.appendCap (sLen+n) sCap E).cut (w.tape w.drawn (.appendCap (sLen+n) sCap E)),(Builtin.zeroCells z.cells ((Question.appendCap (sLen+n) sCap E).cut (w.tape w.drawn (.appendCap (sLen+n) sCap E))-(sLen+n))).toList,?_,?_,?_⟩
 ·simp[Question.cut]
 ·simp[Builtin.zeroCells,h4]
 ·generalize hc:(Question.appendCap (sLen+n) sCap E).cut (w.tape w.drawn (.appendCap (sLen+n) sCap E))=newCap;unfold Builtin.append_;have e0:(#[t,t2]:Array TypeId)[0]? = some t:=rfl;have e1:(#[t,t2]:Array TypeId)[1]? = some t2:=rfl;rcases T.u2 with⟨e2,u2⟩ | u2
  all_goals
   simp only[e0,e1,List.getElem?_toArray,List.getElem?_cons_zero,List.getElem?_cons_succ,Sem.run_bind,Xd T.u1,Xd u2,Result.andThen_ok,Xu hsz,Sem.run_pure,hx,Uah,Uay,Bool.not_false,Ubb];rw[Ubo (by omega)];have hb:¬(Builtin.nextslicecap (sLen+n) sCap*B > 2 ^ 48):=by omega
   simp only[hb,T.b0,or_self,and_false,Uay,Sem.run_bind,run_choose,hq,Uah,hc,Result.andThen_ok,run_askRoom,hti,h2,ho { w with drawn:=w.drawn+1 } rfl,hf { w with drawn:=w.drawn+1 } rfl,hzv,newRow,run_newObj,Sem.run_pure];have e3:(cs.toArray++vs.toArray)++Builtin.zeroCells z.cells (newCap-(sLen+n))=((cs++vs)++(Builtin.zeroCells z.cells (newCap-(sLen+n))).toList).toArray:=by apply Array.ext'; simp
   rw[e3];rfl

theorem Xo1 {t t2 ty E sz B:Nat}(T:AppT P t t2 E sz B){b sLen sCap n:Nat}{x:Value}{cs sp vs:List Value}
  (hx:∀w',(Builtin.lenOf x).run P w'=.ok n w') (hf:∀w',w'.heap=w.heap->(Builtin.firstCells sz n x).run P w'=.ok vs.toArray w')
  (hb:w.heap[b]? = some (.cells (List.toArray (cs++sp)) E (0,0))) (hcs:cs.length=sLen*sz) (hvs:vs.length=n*sz) (hlen:(cs++sp).length=sCap*sz) (hone:∀v∈vs,v.oneCell'=true) (hneed:sLen+n<=sCap) :
  (Builtin.append_ #[t,t2] ty #[.slice (some ⟨b,0,none⟩) sLen sCap,x]).run P w=.ok (.slice (some ⟨b,0,none⟩) (sLen+n) sCap) (w.setRow b ((cs++vs)++sp.drop vs.length).toArray):=by
 obtain⟨i,z,hi,h1,h2,h3,h4⟩:=T.info;have hsz:Ye P E=some sz:=by simp[Ye,hi,h1]
 unfold Builtin.append_;have e0:(#[t,t2]:Array TypeId)[0]? = some t:=rfl;have e1:(#[t,t2]:Array TypeId)[1]? = some t2:=rfl;have hsum:sLen*sz+n*sz<=sCap*sz:=by rw[<-Uac]; exact Ub9 sz hneed
 have hrun:=run_storeCells_at (P:=P) b (sLen*sz) E vs 0 (cs++sp).toArray w hb (by rw[hvs,List.size_toArray,hlen]; omega) hone;have hadd:(⟨b,0,none⟩:Addr).add (sLen*sz)=⟨b,sLen*sz,none⟩:=by rw[Addr.add_eq rfl]; simp
 rcases T.u2 with⟨e2,u2⟩ | u2
 all_goals
  simp only[e0,e1,List.getElem?_toArray,List.getElem?_cons_zero,List.getElem?_cons_succ,Sem.run_bind,Xd T.u1,Xd u2,Result.andThen_ok,Xu hsz,Sem.run_pure,hx,Uah,Uay,Bool.not_false,Ubb];rw[Uby hneed];simp only[Sem.run_bind,hf w rfl,Result.andThen_ok,hadd,hrun,Sem.run_pure];congr 3;rw[Nat.add_zero,<-hcs];simp[List.drop_append]

theorem Xo0 {t t2 ty E sz B:Nat}(T:AppT P t t2 E sz B){x:Value}
  (hx:∀w',(Builtin.lenOf x).run P w'=.ok 0 w') (hf:∀w',w'.heap=w.heap->(Builtin.firstCells sz 0 x).run P w'=.ok #[] w') :
  (Builtin.append_ #[t,t2] ty #[.slice none 0 0,x]).run P w=.ok (.slice none 0 0) w:=by
 obtain⟨i,z,hi,h1,h2,h3,h4⟩:=T.info;have hsz:Ye P E=some sz:=by simp[Ye,hi,h1]
 unfold Builtin.append_;rcases T.u2 with⟨e2,u2⟩ | u2<;>simp[Xd T.u1,Xd u2,Xu hsz,hx,hf w rfl]

theorem Xoy {t t2 ty E sz B:Nat}(T:AppT P t t2 E sz B)(hO:OM w ρ ob){id:Nat}{xs ys:List D}{s x:Value}{vs:List Value}(hl:Xc ob id=some (.arr E sz xs))
  (hs:(V.sl id xs.length).rep w ρ s) (hre:D.repL w (own ρ) ys vs) (hu:∀y∈ys,y.sz=sz)
  (hx:∀w',(Builtin.lenOf x).run P w'=.ok ys.length w') (hf:∀w',w'.heap=w.heap->(Builtin.firstCells sz ys.length x).run P w'=.ok vs.toArray w')
  (hB:(2*(xs.length+ys.length)+192)*B<=281474976710656) :
  ∃v w' ρ',(Builtin.append_ #[t,t2] ty #[s,x]).run P w=.ok v w'/\Tr w ρ w' ρ'/\OM w' ρ' (setO ob id (.arr E sz (xs++ys)))/\(V.sl id (xs.length+ys.length)).rep w' ρ' v:=by
 rw[Yj]at hs;obtain⟨o,hρ,hs⟩:=hs;have h1:=hO.one id _ hl;have hvl:vs.length=ys.length*sz:=by rw[D.repL_len _ _ hre,D.szs_uniform _ hu]
 -- a new row,from whatever was there
 have grow:∀(base:Option Addr) (sCap:Nat) (cs:List Value),s=.slice base xs.length sCap->D.repL w (own ρ) xs cs->(∀y∈xs,y.sz=sz)->
   (∀w',w'.heap=w.heap->(Builtin.firstCells sz xs.length (.slice base xs.length sCap)).run P w'=.ok cs.toArray w')->sCap<xs.length+ys.length->
   (o=.virt/\xs.length=0\/∃b c,o=.arr b xs.length c)->xs.length<=sCap->
   ∃v w' ρ',(Builtin.append_ #[t,t2] ty #[s,x]).run P w=.ok v w'/\Tr w ρ w' ρ'/\OM w' ρ' (setO ob id (.arr E sz (xs++ys)))/\(V.sl id (xs.length+ys.length)).rep w' ρ' v:=by
  intro base sCap cs es hxs hux hold hneed ho hlc;subst es;obtain⟨newCap,rest,g1,g2,g3⟩:=Xoz (ty:=ty) T hx hf hold hneed hB;have he:Ext w (Xaa { w with drawn:=w.drawn+1 } (.cells ((cs++vs)++rest).toArray E)):=(Ext.drew w _).trans (Zd _ _);have t1:Tr w ρ (Xaa { w with drawn:=w.drawn+1 } (.cells ((cs++vs)++rest).toArray E)) (ρ.ins id (.arr w.heap.size (xs.length+ys.length) newCap)):=by
   refine⟨he.size,fun b _ h=>he.keep b h,fun b h=>?_,rfl,rfl,fun j p hp=>?_,he.tape,he.os,he.out,he.drawn⟩
   ·obtain⟨j,p,q1,q2⟩:=h;simp only[Env.ins]at q1;split at q1
    ·simp at q1; subst q1; simp[RO.blk?]at q2; exact .inr (by omega)
    ·exact .inl ⟨j,p,q1,q2⟩
   ·by_cases ej:j=id
    ·subst ej;refine⟨_,Yh,.grow (n:=xs.length) (by omega) ?_⟩;rw[hρ]at hp; simp at hp; subst hp;exact ho
    ·exact⟨p,by simp[Env.ins,ej,hp],.refl p⟩
  refine⟨_,_,_,g3,t1,Jk hO hl t1 (.inr ⟨w.heap.size,newCap,cs++vs,rest,by simp[Env.ins],Zm _ _,D.repL_append (D.repL_mono t1.mono _ _ hxs) (D.repL_mono t1.mono _ _ hre),?_,?_⟩) (fun b hb=>?_) (fun j p b hj h2 h3=>he.keep b (Wl hO h2 h3)),?_⟩
  ·intro y hy;rcases Ubu.1 hy with hy | hy
   ·exact hux y hy
   ·exact hu y hy
  ·have hcl:cs.length=xs.length*sz:=by rw[D.repL_len _ _ hxs,D.szs_uniform _ hux]
   rw[Uar,Uar,g2,hcl,hvl,<-Uac,<-Uac];congr 1; omega
  ·simp[RO.blk?]at hb; exact .inl (by omega)
  ·rw[Yj];refine⟨_,Yh,?_⟩;exact⟨Uak _,⟨_,_,_,rfl⟩,fun _=>rfl⟩
 rcases h1 with⟨h1,rfl⟩ | ⟨b,cap,cs,sp,h1,h2,h3,h4,h5⟩
 ·-- nothing yet
  rw[hρ]at h1; simp at h1; subst h1;simp only[RO.slice]at hs;obtain⟨_,rfl⟩:=hs;by_cases hy:ys=[]
  ·subst hy;have hv0:vs=[]:=by simpa using hvl
   subst hv0;refine⟨_,w,ρ,Xo0 T hx (fun w' hw=>hf w' hw),Tr.refl _ _,?_,?_⟩
   ·refine⟨fun j y hy=>?_,fun j p hp=>?_,hO.inj,hO.xlt,hO.glb,hO.xdis,hO.once.set⟩
    ·rw[Xs ob id j ⟨_,hl⟩]at hy;split at hy
     ·rename_i e; subst e; simp at hy; subst hy; exact .inl ⟨hρ,rfl⟩
     ·exact hO.one j y hy
    ·rw[Xs ob id j ⟨_,hl⟩];split
     ·exact⟨_,rfl⟩
     ·exact hO.dom j p hp
   ·rw[Yj]; exact⟨_,hρ,rfl,rfl⟩
  ·refine grow none 0 [] rfl (by simp[D.repL]) (by simp) (fun w' _=>by simp[Builtin.firstCells]) ?_ (.inl ⟨rfl,rfl⟩) (Uak _);cases ys with
   | nil=>exact absurd rfl hy
   | cons y r=>simp
 ·rw[hρ]at h1; simp at h1; subst h1;obtain⟨_,_,hs⟩:=hs;have hs:=hs rfl;have hcl:cs.length=xs.length*sz:=by rw[D.repL_len _ _ h3,D.szs_uniform _ h4]
  have hlc:xs.length<=cap:=by
   have:xs.length*sz<=cap*sz:=by rw[<-h5,<-hcl]; simp
   exact Ubv this (Ua9 T.s0)
  by_cases hroom:xs.length+ys.length<=cap
  ·subst hs;have hrun:=Xo1 (ty:=ty) T hx hf h2 hcl hvl h5 (D.ones ys vs hre) hroom;have t1:Tr w ρ (w.setRow b ((cs++vs)++sp.drop vs.length).toArray) (ρ.ins id (.arr b (xs.length+ys.length) cap)):=by
    refine⟨by simp,fun j hj _=>setRow_other w b j _ (fun e=>hj ?_),fun j h=>?_,rfl,rfl,fun j p hp=>?_,rfl,rfl,rfl,Uak _⟩
    ·subst e; exact⟨id,_,hρ,rfl⟩
    ·obtain⟨k,p,q1,q2⟩:=h;simp only[Env.ins]at q1;split at q1
     ·simp at q1; subst q1; simp[RO.blk?]at q2; subst q2; exact .inl ⟨id,_,hρ,rfl⟩
     ·exact .inl ⟨k,p,q1,q2⟩
    ·by_cases ej:j=id
     ·subst ej;rw[hρ]at hp; simp at hp; subst hp;refine⟨_,Yh,?_⟩;cases ys with
      | nil=>exact .refl _
      | cons y r=>exact .grow (n:=xs.length) (by simp) (.inr ⟨_,_,rfl⟩)
     ·exact⟨p,by simp[Env.ins,ej,hp],.refl p⟩
   refine⟨_,_,_,hrun,t1,Jk hO hl t1 (.inr ⟨b,cap,cs++vs,sp.drop vs.length,by simp[Env.ins],setRow_heap w b _ _ E _ h2,D.repL_append (D.repL_mono t1.mono _ _ h3) (D.repL_mono t1.mono _ _ hre),?_,?_⟩) (fun b' hb=>?_) (fun j p b' hj q1 q2=>setRow_other w b b' _ (fun e=>hj ?_)),?_⟩
   ·intro y hy;rcases Ubu.1 hy with hy | hy
    ·exact h4 y hy
    ·exact hu y hy
   ·have hsum:xs.length*sz+ys.length*sz<=cap*sz:=by rw[<-Uac]; exact Ub9 sz hroom
    simp only[Uar,List.length_drop]at h5⊢;omega
   ·simp[RO.blk?]at hb; subst hb; exact .inr ⟨_,hρ,rfl⟩
   ·subst e; exact hO.inj j id _ _ _ q1 hρ q2 rfl
   ·rw[Yj];refine⟨_,Yh,?_⟩;exact⟨Uak _,⟨_,_,_,rfl⟩,fun _=>rfl⟩
  ·refine grow (some ⟨b,0,none⟩) cap cs hs h3 h4 (fun w' hw=>?_) (by omega) (.inr ⟨_,_,rfl⟩) hlc;simp only[Builtin.firstCells,<-hcl];exact run_loadCells_list w' _ cs (fun j u hj=>by
    obtain⟨hj',e⟩:=Uan.1 hj;rw[Addr.add_eq rfl,cell?_congr (w:=w) (w':=w') (by rw[hw])];simp[World.cell?,h2,Ubc,hj',e])

theorem Xck {t t2 ty E sz B:Nat}(T:AppT P t t2 E sz B)(hO:OM w ρ ob){id:Nat}{xs ys:List V}{s x:Value}{vs:List Value}(hl:Xc ob id=some (.vec E sz xs))
  (hs:(V.sl id xs.length).rep w ρ s) (hst:V.stos ys=true) (hre:V.repCs w ρ ys vs) (hu:∀y∈ys,y.size=sz)
  (hx:∀w',(Builtin.lenOf x).run P w'=.ok ys.length w') (hf:∀w',w'.heap=w.heap->(Builtin.firstCells sz ys.length x).run P w'=.ok vs.toArray w')
  (hB:(2*(xs.length+ys.length)+192)*B<=281474976710656) :
  ∃v w' ρ',(Builtin.append_ #[t,t2] ty #[s,x]).run P w=.ok v w'/\Tr w ρ w' ρ'/\OM w' ρ' (setO ob id (.vec E sz (xs++ys)))/\(V.sl id (xs.length+ys.length)).rep w' ρ' v:=by
 rw[Yj]at hs;obtain⟨o,hρ,hs⟩:=hs;have h1:=hO.one id _ hl;have hvl:vs.length=ys.length*sz:=by rw[V.repCs_len _ _ hre,V.shapes_eq,Yd _ hu]
 -- a new row,from whatever was there
 have grow:∀(base:Option Addr) (sCap:Nat) (cs:List Value),s=.slice base xs.length sCap->V.repCs w ρ xs cs->(∀y∈xs,y.size=sz)->
   (∀w',w'.heap=w.heap->(Builtin.firstCells sz xs.length (.slice base xs.length sCap)).run P w'=.ok cs.toArray w')->sCap<xs.length+ys.length->
   (o=.virt/\xs.length=0\/∃b c,o=.arr b xs.length c)->xs.length<=sCap->
   ∃v w' ρ',(Builtin.append_ #[t,t2] ty #[s,x]).run P w=.ok v w'/\Tr w ρ w' ρ'/\OM w' ρ' (setO ob id (.vec E sz (xs++ys)))/\(V.sl id (xs.length+ys.length)).rep w' ρ' v:=by
  intro base sCap cs es hxs hux hold hneed ho hlc;subst es;obtain⟨newCap,rest,g1,g2,g3⟩:=Xoz (ty:=ty) T hx hf hold hneed hB;have he:Ext w (Xaa { w with drawn:=w.drawn+1 } (.cells ((cs++vs)++rest).toArray E)):=(Ext.drew w _).trans (Zd _ _);have t1:Tr w ρ (Xaa { w with drawn:=w.drawn+1 } (.cells ((cs++vs)++rest).toArray E)) (ρ.ins id (.arr w.heap.size (xs.length+ys.length) newCap)):=by
   refine⟨he.size,fun b _ h=>he.keep b h,fun b h=>?_,rfl,rfl,fun j p hp=>?_,he.tape,he.os,he.out,he.drawn⟩
   ·obtain⟨j,p,q1,q2⟩:=h;simp only[Env.ins]at q1;split at q1
    ·simp at q1; subst q1; simp[RO.blk?]at q2; exact .inr (by omega)
    ·exact .inl ⟨j,p,q1,q2⟩
   ·by_cases ej:j=id
    ·subst ej;refine⟨_,Yh,.grow (n:=xs.length) (by omega) ?_⟩;rw[hρ]at hp; simp at hp; subst hp;exact ho
    ·exact⟨p,by simp[Env.ins,ej,hp],.refl p⟩
  refine⟨_,_,_,g3,t1,Jk hO hl t1 (.inr ⟨w.heap.size,newCap,cs++vs,rest,by simp[Env.ins],Zm _ _,V.repCs_append (V.repCs_tr t1 _ _ hxs) (V.repCs_tr t1 _ _ hre),?_,?_⟩) (fun b hb=>?_) (fun j p b hj h2 h3=>he.keep b (Wl hO h2 h3)),?_⟩
  ·intro y hy;rcases Ubu.1 hy with hy | hy
   ·exact hux y hy
   ·exact hu y hy
  ·have hcl:cs.length=xs.length*sz:=by rw[V.repCs_len _ _ hxs,V.shapes_eq,Yd _ hux]
   rw[Uar,Uar,g2,hcl,hvl,<-Uac,<-Uac];congr 1; omega
  ·simp[RO.blk?]at hb; exact .inl (by omega)
  ·rw[Yj];refine⟨_,Yh,?_⟩;exact⟨Uak _,⟨_,_,_,rfl⟩,fun _=>rfl⟩
 rcases h1 with⟨h1,rfl⟩ | ⟨b,cap,cs,sp,h1,h2,h3,h4,h5⟩
 ·-- nothing yet
  rw[hρ]at h1; simp at h1; subst h1;simp only[RO.slice]at hs;obtain⟨_,rfl⟩:=hs;by_cases hy:ys=[]
  ·subst hy;have hv0:vs=[]:=by simpa using hvl
   subst hv0;refine⟨_,w,ρ,Xo0 T hx (fun w' hw=>hf w' hw),Tr.refl _ _,?_,?_⟩
   ·refine⟨fun j y hy=>?_,fun j p hp=>?_,hO.inj,hO.xlt,hO.glb,hO.xdis,hO.once.set⟩
    ·rw[Xs ob id j ⟨_,hl⟩]at hy;split at hy
     ·rename_i e; subst e; simp at hy; subst hy; exact .inl ⟨hρ,rfl⟩
     ·exact hO.one j y hy
    ·rw[Xs ob id j ⟨_,hl⟩];split
     ·exact⟨_,rfl⟩
     ·exact hO.dom j p hp
   ·rw[Yj]; exact⟨_,hρ,rfl,rfl⟩
  ·refine grow none 0 [] rfl (by simp[V.repCs]) (by simp) (fun w' _=>by simp[Builtin.firstCells]) ?_ (.inl ⟨rfl,rfl⟩) (Uak _);cases ys with
   | nil=>exact absurd rfl hy
   | cons y r=>simp
 ·rw[hρ]at h1; simp at h1; subst h1;obtain⟨_,_,hs⟩:=hs;have hs:=hs rfl;have hcl:cs.length=xs.length*sz:=by rw[V.repCs_len _ _ h3,V.shapes_eq,Yd _ h4]
  have hlc:xs.length<=cap:=by
   have:xs.length*sz<=cap*sz:=by rw[<-h5,<-hcl]; simp
   exact Ubv this (Ua9 T.s0)
  by_cases hroom:xs.length+ys.length<=cap
  ·subst hs;have hrun:=Xo1 (ty:=ty) T hx hf h2 hcl hvl h5 (V.onesV ys vs hst hre) hroom;have t1:Tr w ρ (w.setRow b ((cs++vs)++sp.drop vs.length).toArray) (ρ.ins id (.arr b (xs.length+ys.length) cap)):=by
    refine⟨by simp,fun j hj _=>setRow_other w b j _ (fun e=>hj ?_),fun j h=>?_,rfl,rfl,fun j p hp=>?_,rfl,rfl,rfl,Uak _⟩
    ·subst e; exact⟨id,_,hρ,rfl⟩
    ·obtain⟨k,p,q1,q2⟩:=h;simp only[Env.ins]at q1;split at q1
     ·simp at q1; subst q1; simp[RO.blk?]at q2; subst q2; exact .inl ⟨id,_,hρ,rfl⟩
     ·exact .inl ⟨k,p,q1,q2⟩
    ·by_cases ej:j=id
     ·subst ej;rw[hρ]at hp; simp at hp; subst hp;refine⟨_,Yh,?_⟩;cases ys with
      | nil=>exact .refl _
      | cons y r=>exact .grow (n:=xs.length) (by simp) (.inr ⟨_,_,rfl⟩)
     ·exact⟨p,by simp[Env.ins,ej,hp],.refl p⟩
   refine⟨_,_,_,hrun,t1,Jk hO hl t1 (.inr ⟨b,cap,cs++vs,sp.drop vs.length,by simp[Env.ins],setRow_heap w b _ _ E _ h2,V.repCs_append (V.repCs_tr t1 _ _ h3) (V.repCs_tr t1 _ _ hre),?_,?_⟩) (fun b' hb=>?_) (fun j p b' hj q1 q2=>setRow_other w b b' _ (fun e=>hj ?_)),?_⟩
   ·intro y hy;rcases Ubu.1 hy with hy | hy
    ·exact h4 y hy
    ·exact hu y hy
   ·have hsum:xs.length*sz+ys.length*sz<=cap*sz:=by rw[<-Uac]; exact Ub9 sz hroom
    simp only[Uar,List.length_drop]at h5⊢;omega
   ·simp[RO.blk?]at hb; subst hb; exact .inr ⟨_,hρ,rfl⟩
   ·subst e; exact hO.inj j id _ _ _ q1 hρ q2 rfl
   ·rw[Yj];refine⟨_,Yh,?_⟩;exact⟨Uak _,⟨_,_,_,rfl⟩,fun _=>rfl⟩
  ·refine grow (some ⟨b,0,none⟩) cap cs hs h3 h4 (fun w' hw=>?_) (by omega) (.inr ⟨_,_,rfl⟩) hlc;simp only[Builtin.firstCells,<-hcl];exact run_loadCells_list w' _ cs (fun j u hj=>by
    obtain⟨hj',e⟩:=Uan.1 hj;rw[Addr.add_eq rfl,cell?_congr (w:=w) (w':=w') (by rw[hw])];simp[World.cell?,h2,Ubc,hj',e])

theorem X81 {u v:Operand}{t t2 E sz B:Nat}{vx:V}{ys:List D}{vs:List Value}(T:AppT P t t2 E sz B)(r1:vx.rep w ρ (a.eval u))(hO:OM w ρ ob)(hK:Xel E sz B ob ys K vx)
  (hre:D.repL w (own ρ) ys vs) (hu:∀y∈ys,y.sz=sz) (hx:∀w',(Builtin.lenOf (a.eval v)).run P w'=.ok ys.length w')
  (hf:∀w',w'.heap=w.heap->(Builtin.firstCells sz ys.length (a.eval v)).run P w'=.ok vs.toArray w'):Qr P a w ρ (.call { callee:=.builtin .append,args:=#[u,v],argTypes:=#[t,t2] }) K Pn:=by
 have hrun:∀(w':World) (val:Value) (o:Oper),o.op=.call { callee:=.builtin .append,args:=#[u,v],argTypes:=#[t,t2] }->(Builtin.append_ #[t,t2] o.type #[a.eval u,a.eval v]).run P w=.ok val w'->(execOp a.eval o).run P w=.ok (.value val) w':=by
  intro w' val o ho hr;simp only[execOp,ho,resolve,invoke,builtin,Sem.run_bind,Sem.run_pure,Result.andThen_ok,List.map_toArray,Uam,Ubm,hr]
 unfold Xel at hK;split at hK
 ·rename_i id n;unfold Xd8 at hK;split at hK
  ·rename_i E' sz' xs hl;obtain⟨rfl,rfl,rfl,hB,hK⟩:=hK;intro o ho next Q hn _
   obtain⟨val,w',ρ',g1,g2,g3,g4⟩:=Xoy (ty:=o.type) T hO hl r1 hre hu hx hf hB;unfold wpA;rw[hrun w' val o ho g1];exact hn val _ _ w' ρ' hK g4 g3 g2
  ·exact hK.elim
 ·obtain⟨hB,hK⟩:=hK;have hl:=X2 ob;rw[Wo]at r1;have hbl:∀b,RO.virt.blk? = some b->w.heap.size<=b:=fun b hb=>by simp[RO.blk?]at hb
  have t1:=W6 w (Ext.refl w) (o:=.virt) (hO.free hl) hbl;have o1:OM w (ρ.ins (Xa ob) .virt) ((Xa ob,.arr E sz [])::ob):=hO.ins (Ext.refl w) hl hbl (.inl ⟨Yh,rfl⟩);have q1:(V.sl (Xa ob) ([]:List D).length).rep w (ρ.ins (Xa ob) .virt) (a.eval u):=by
   rw[Yj]; exact⟨_,Yh,rfl,r1⟩
  intro o ho next Q hn _
  obtain⟨val,w',ρ',g1,g2,g3,g4⟩:=Xoy (ty:=o.type) (ys:=ys) T o1 (by simp[Xc]) q1 (D.repL_mono t1.mono _ _ hre) hu hx hf (by simpa using hB);unfold wpA;rw[hrun w' val o ho g1];simp only[setO,Ubb,List.nil_append,List.length_nil,Ub6]at g3 g4;exact hn val _ _ w' ρ' hK g4 g3 (t1.trans g2)
 ·exact hK.elim

theorem X2f (hs:SM w ρ sl a)(hO:OM w ρ ob){op:Op}{E sz B:Nat}{x y:A}(hc:I.chk P op (.app E sz B x y)=true)
  (h:X0k sz (fun ys=>Xel E sz B ob ys K (x.ev sl)) (y.ev sl)):Qr P a w ρ op K Pn:=by
 cases op<;>simp only[I.chk,Uah]at hc;rename_i c;obtain⟨ca,args,ts⟩:=c;cases ca<;>(try simp only[Uah]at hc);rename_i b;cases b<;>(try simp only[Uah]at hc);split at hc
 ·rename_i u v t t2 e1 e2;simp only[Uai]at hc;obtain⟨⟨⟨⟨h0,h1⟩,h2⟩,h3⟩,h4⟩:=hc;have ea:args=#[u,v]:=by simpa using Ua4 List.toArray e1
  have et:ts=#[t,t2]:=by simpa using Ua4 List.toArray e2
  subst ea et;have T:AppT P t t2 E sz B:=by
   cases hi:P.info? E with
   | none=>simp[hi]at h1
   | some i=>
    simp only[hi,Uai,Ubn,bne_iff_ne,ne_eq]at h1;obtain⟨⟨⟨⟨⟨g1,g2⟩,g3⟩,g4⟩,g5⟩,g6⟩:=h1;obtain⟨z,hz⟩:=Ua3.1 g5;rw[hz]at g6;simp at g6;refine⟨?_,?_,⟨i,z,hi,g1,g2,hz,g6⟩,by rw[<-g2]; exact g3,by rw[<-g1]; exact g4⟩
    ·revert h0; split<;>simp_all
    ·left; revert h2; split<;>simp_all
  have r1:=A.sound hs h3;have r2:=A.sound hs h4;obtain⟨ys,vs,hK,hre,hu,hx,hf⟩:=X0m (P:=P) r2 h;exact X81 T r1 hO hK hre hu hx hf
 ·simp at hc

theorem Xus {id E sz:Nat}{xs:List D}(h:V6 w ρ id (.arr E sz xs)):V6 w ρ id (.vec E sz (xs.map .d)):=by
 rcases h with⟨h1,rfl⟩ | ⟨b,cap,cs,sp,h1,h2,h3,h4,h5⟩
 ·exact .inl ⟨h1,rfl⟩
 ·refine .inr ⟨b,cap,cs,sp,by simpa using h1,h2,(V.repCs_d _ _).2 h3,fun x hx=>?_,h5⟩;obtain⟨y,hy,rfl⟩:=Ua5.1 hx;simp[V.size,V.shape,D.size_shape,h4 y hy]
theorem X5y {sz:Nat}{v:V}{x:Value}{K:List V->Prop}(hO:OM w ρ ob)(hv:v.rep w ρ x)(h:Yge sz K ob v) :
  ∃ys vs,K ys/\V.repCs w ρ ys vs/\V.stos ys=true/\(∀y∈ys,y.size=sz)/\(∀w',(Builtin.lenOf x).run P w'=.ok ys.length w')/\∀w',w'.heap=w.heap->(Builtin.firstCells sz ys.length x).run P w'=.ok vs.toArray w':=by
 have dat:∀{ys:List D} {vs:List Value},D.repL w (own ρ) ys vs->(∀y∈ys,y.sz=sz)->V.repCs w ρ (ys.map .d) vs/\V.stos (ys.map .d)=true/\∀y∈ys.map V.d,y.size=sz:=by
  intro ys vs h1 h2;refine⟨(V.repCs_d _ _).2 h1,?_,fun y hy=>?_⟩
  ·clear h1 h2; induction ys with
   | nil=>rfl
   | cons y r ih=>simp[V.stos,V.sto,ih]
  ·obtain⟨z,hz,rfl⟩:=Ua5.1 hy;simp[V.size,V.shape,D.size_shape,h2 z hz]
 have own:∀{id:Nat} {E:Nat} {ys:List V},V6 w ρ id (.vec E sz ys)->(V.sl id ys.length).rep w ρ x->V.stos ys=true->K ys->
   ∃ys vs,K ys/\V.repCs w ρ ys vs/\V.stos ys=true/\(∀y∈ys,y.size=sz)/\(∀w',(Builtin.lenOf x).run P w'=.ok ys.length w')/\∀w',w'.heap=w.heap->(Builtin.firstCells sz ys.length x).run P w'=.ok vs.toArray w':=by
  intro id E ys hm hv hst hK;rw[Yj]at hv;obtain⟨o,hρ,hv⟩:=hv;rcases hm with⟨h1,rfl⟩ | ⟨b,cap,cs,sp,h1,h2,h3,h4,h5⟩
  ·rw[hρ]at h1; simp at h1; subst h1;obtain⟨_,rfl⟩:=hv;exact⟨[],[],hK,by simp[V.repCs],rfl,by simp,fun w'=>by simp[Builtin.lenOf],fun w' _=>by simp[Builtin.firstCells]⟩
  ·rw[hρ]at h1; simp at h1; subst h1;have hx:=hv.2.2 rfl;subst hx;refine⟨ys,cs,hK,h3,hst,h4,fun w'=>by simp[Builtin.lenOf],fun w' hw=>?_⟩;have hcl:cs.length=ys.length*sz:=by rw[V.repCs_len _ _ h3,V.shapes_eq,Yd _ h4]
   simp only[Builtin.firstCells,<-hcl];exact run_loadCells_list w' _ cs (fun j u hj=>by
    obtain⟨hj',e⟩:=Uan.1 hj;rw[Addr.add_eq rfl,cell?_congr (w:=w) (w':=w') (by rw[hw])];simp[World.cell?,h2,Ubc,hj',e])
 unfold Yge at h;split at h
 ·rename_i z ys;obtain⟨ys',vs,hK,hre,hu,hl,hf⟩:=X0m (P:=P) (K:=fun ys=>K (ys.map .d)) hv (by simpa only[X0k]using h);obtain⟨d1,d2,d3⟩:=dat hre hu;exact⟨_,vs,hK,d1,d2,d3,fun w'=>by simpa using hl w',fun w' hw=>by simpa using hf w' hw⟩
 ·rw[Wo]at hv;subst hv;exact⟨[],[],h,by simp[V.repCs],rfl,by simp,fun w'=>by simp[Builtin.lenOf],fun w' _=>by simp[Builtin.firstCells]⟩
 ·rename_i id n;rcases h with⟨E,ys,hl,rfl,hst,hK⟩ | ⟨E,ys,hl,rfl,hK⟩
  ·exact own (hO.one id _ hl) hv hst hK
  ·have hm:V6 w ρ id (.vec E sz (ys.map .d)):=Xus (hO.one id _ hl);refine own hm (by simpa using hv) ?_ hK;clear hm hl hv hK;induction ys with
   | nil=>rfl
   | cons y r ih=>simp[V.stos,V.sto,ih]
 ·exact h.elim
theorem X82 {u v:Operand}{t t2 E sz B:Nat}{vx:V}{ys:List V}{vs:List Value}(T:AppT P t t2 E sz B)(r1:vx.rep w ρ (a.eval u))(hO:OM w ρ ob)(hK:Xtd E sz B ob ys K vx)
  (hst:V.stos ys=true) (hre:V.repCs w ρ ys vs) (hu:∀y∈ys,y.size=sz) (hx:∀w',(Builtin.lenOf (a.eval v)).run P w'=.ok ys.length w')
  (hf:∀w',w'.heap=w.heap->(Builtin.firstCells sz ys.length (a.eval v)).run P w'=.ok vs.toArray w'):Qr P a w ρ (.call { callee:=.builtin .append,args:=#[u,v],argTypes:=#[t,t2] }) K Pn:=by
 have hrun:∀(w':World) (val:Value) (o:Oper),o.op=.call { callee:=.builtin .append,args:=#[u,v],argTypes:=#[t,t2] }->(Builtin.append_ #[t,t2] o.type #[a.eval u,a.eval v]).run P w=.ok val w'->(execOp a.eval o).run P w=.ok (.value val) w':=by
  intro w' val o ho hr;simp only[execOp,ho,resolve,invoke,builtin,Sem.run_bind,Sem.run_pure,Result.andThen_ok,List.map_toArray,Uam,Ubm,hr]
 unfold Xtd at hK;split at hK
 ·rename_i id n;unfold Xro at hK;split at hK
  ·rename_i E' sz' xs hl;obtain⟨rfl,rfl,rfl,hB,hK⟩:=hK;intro o ho next Q hn _
   obtain⟨val,w',ρ',g1,g2,g3,g4⟩:=Xck (ty:=o.type) T hO hl r1 hst hre hu hx hf hB;unfold wpA;rw[hrun w' val o ho g1];exact hn val _ _ w' ρ' hK g4 g3 g2
  ·rename_i E' sz' xs hl;obtain⟨rfl,rfl,rfl,hB,hK⟩:=hK;have o2:=hO.swap hl (Xus (hO.one id _ hl));have hl2:Xc (setO ob id (.vec E' sz' (xs.map .d))) id=some (.vec E' sz' (xs.map .d)):=by rw[Xs ob id id ⟨_,hl⟩]; simp
   intro o ho next Q hn _
   obtain⟨val,w',ρ',g1,g2,g3,g4⟩:=Xck (ty:=o.type) T o2 hl2 (by simpa using r1) hst hre hu hx hf (by simpa using hB);rw[Xdu]at g3;rw[List.length_map]at g4;unfold wpA;rw[hrun w' val o ho g1];exact hn val _ _ w' ρ' hK g4 g3 g2
  ·exact hK.elim
 ·obtain⟨hB,hK⟩:=hK;have hl:=X2 ob;rw[Wo]at r1;have hbl:∀b,RO.virt.blk? = some b->w.heap.size<=b:=fun b hb=>by simp[RO.blk?]at hb
  have t1:=W6 w (Ext.refl w) (o:=.virt) (hO.free hl) hbl;have o1:OM w (ρ.ins (Xa ob) .virt) ((Xa ob,.vec E sz [])::ob):=hO.ins (Ext.refl w) hl hbl (.inl ⟨Yh,rfl⟩);have q1:(V.sl (Xa ob) ([]:List V).length).rep w (ρ.ins (Xa ob) .virt) (a.eval u):=by
   rw[Yj]; exact⟨_,Yh,rfl,r1⟩
  intro o ho next Q hn _
  obtain⟨val,w',ρ',g1,g2,g3,g4⟩:=Xck (ty:=o.type) (ys:=ys) T o1 (by simp[Xc]) q1 hst (V.repCs_tr t1 _ _ hre) hu hx hf (by simpa using hB);unfold wpA;rw[hrun w' val o ho g1];simp only[setO,Ubb,List.nil_append,List.length_nil,Ub6]at g3 g4;exact hn val _ _ w' ρ' hK g4 g3 (t1.trans g2)
 ·exact hK.elim

theorem X2g (hs:SM w ρ sl a)(hO:OM w ρ ob){op:Op}{E sz B:Nat}{x y:A}(hc:I.chk P op (.apv E sz B x y)=true)
  (h:Yge sz (fun ys=>Xtd E sz B ob ys K (x.ev sl)) ob (y.ev sl)):Qr P a w ρ op K Pn:=by
 cases op<;>simp only[I.chk,Uah]at hc;rename_i c;obtain⟨ca,args,ts⟩:=c;cases ca<;>(try simp only[Uah]at hc);rename_i b;cases b<;>(try simp only[Uah]at hc);split at hc
 ·rename_i u v t t2 e1 e2;simp only[Uai]at hc;obtain⟨⟨⟨⟨h0,h1⟩,h2⟩,h3⟩,h4⟩:=hc;have ea:args=#[u,v]:=by simpa using Ua4 List.toArray e1
  have et:ts=#[t,t2]:=by simpa using Ua4 List.toArray e2
  subst ea et;have T:AppT P t t2 E sz B:=by
   cases hi:P.info? E with
   | none=>simp[hi]at h1
   | some i=>
    simp only[hi,Uai,Ubn,bne_iff_ne,ne_eq]at h1;obtain⟨⟨⟨⟨⟨g1,g2⟩,g3⟩,g4⟩,g5⟩,g6⟩:=h1;obtain⟨z,hz⟩:=Ua3.1 g5;rw[hz]at g6;simp at g6;refine⟨?_,?_,⟨i,z,hi,g1,g2,hz,g6⟩,by rw[<-g2]; exact g3,by rw[<-g1]; exact g4⟩
    ·revert h0; split<;>simp_all
    ·left; revert h2; split<;>simp_all
  have r1:=A.sound hs h3;have r2:=A.sound hs h4;obtain⟨ys,vs,hK,hre,hst,hu,hx,hf⟩:=X5y (P:=P) hO r2 h;exact X82 T r1 hO hK hst hre hu hx hf
 ·simp at hc

theorem X2h (hs:SM w ρ sl a)(hO:OM w ρ ob){op:Op}{x:A}(hc:I.chk P op (.cvb x)=true)(h:Xvg ob K (x.ev sl)):Qr P a w ρ op K Pn:=by
 cases op<;>simp only[I.chk,Uah]at hc;rename_i s t y;simp only[Uai,Ubn]at hc;obtain⟨⟨rfl,h0⟩,h2⟩:=hc;have r1:=A.sound hs h2;obtain⟨e,hs1,he⟩:∃e,P.underlying s=some (.slice e)/\P.underlying e=some (.int .u8):=by
  cases hu:P.underlying s with
  | none=>simp[hu]at h0
  | some d=>
   cases d<;>simp[hu]at h0;rename_i e;refine⟨e,rfl,?_⟩;revert h0; split<;>simp_all
 unfold Xvg at h;split at h
 ·rename_i id n e1;unfold Xf9 at h;split at h
  ·rename_i E sz xs hl;obtain⟨hsz,rfl,hne,hK⟩:=h;rw[e1]at r1;have r3:=Ji hO hl hsz r1;rw[Yj]at r1;obtain⟨o,hρ,hv⟩:=r1;rcases hO.one id _ hl with⟨h1,rfl⟩ | ⟨b,cap,cs,sp,h1,h2,h3,h4,h5⟩
   ·exact absurd rfl hne
   ·rw[hρ]at h1; simp at h1; subst h1;have hu:=hv.2.2 rfl;have hw:∃w2,w2.heap.size=w.heap.size/\(∀j,j ≠ b->w2.heap[j]? = w.heap[j]?)/\w2.heap[b]? = some (.cells (List.toArray (cs++sp)) E ((cs++sp).length,(cs++sp).length+1))/\w2.tape=w.tape/\w2.os=w.os/\w2.output=w.output/\w2.drawn=w.drawn/\(markStringish ⟨b,0,none⟩).run P w=.ok () w2:=by
     have hsh:w.shape? b=some (E,(cs++sp).length):=by simp[World.shape?,h2]
     refine⟨w.freeze ⟨b,(cs++sp).length,none⟩ 1,by simp[World.freeze],fun j hj=>?_,?_,rfl,rfl,rfl,rfl,?_⟩
     ·simp only[World.freeze];simp[Ub2,Ne.symm hj]
     ·simp only[World.freeze];simp[Ub2,h2]
     ·simp only[markStringish,Sem.run_bind,run_shape,hsh,Result.andThen_ok,run_freeze]
    obtain⟨w2,q1,q2,q3,q4,q5,q6,q8,q7⟩:=hw;obtain⟨t1,o1,hno⟩:=Xgj hO (w2:=w2) ⟨_,hl⟩ q1 (fun j hj=>q2 j (fun e=>hj _ hρ (by rw[e]; rfl))) q4 q5 q6 (by rw[q8]; exact Uak _);refine X0 (v:=.slice (some ⟨b,0,none⟩) xs.length cap) (fun o ho=>?_) hK ?_ o1 t1
    ·simp only[execOp,ho,hu,convert,Sem.run_bind,Xd hs1,Result.andThen_ok,beq_self_eq_true,Xd he,q7,Sem.run_pure]
    ·rw[Za];refine .inr ⟨_,cap,cs,rfl,?_,⟨fun _=>⟨rfl,hno b _ hρ rfl,Xi q3⟩,fun i hi=>?_⟩,D.repL_mono t1.mono _ _ h3,h4⟩
     ·have hcl:cs.length=xs.length*sz:=by rw[D.repL_len _ _ h3,D.szs_uniform _ h4]
      have:xs.length*sz<=cap*sz:=by rw[<-h5,<-hcl]; simp
      exact Ubv this (Ua9 hsz)
     ·simp[World.cell?,q3,Ubc,hi]
  ·exact h.elim
 ·exact h.elim

theorem Xvk (hs:SM w ρ sl a)(hO:OM w ρ ob){op:Op}{E sz:Nat}{x:A}(hc:I.chk P op (.nilo E sz x)=true)(h:Xhn E sz ob K (x.ev sl)):Qr P a w ρ op K Pn:=by
 unfold Xhn at h;split at h
 ·rename_i e1;have hf:=X2 ob;have hbl:∀b,RO.virt.blk? = some b->w.heap.size<=b:=fun b hb=>by simp[RO.blk?]at hb
  have t1:=W6 w (Ext.refl w) (o:=.virt) (hO.free hf) hbl;have o1:OM w (ρ.ins (Xa ob) .virt) ((Xa ob,.arr E sz [])::ob):=hO.ins (Ext.refl w) hf hbl (.inl ⟨Yh,rfl⟩);cases op<;>simp[I.chk]at hc
  all_goals
   have r1:=A.sound hs hc;rw[e1,Wo]at r1;exact X0 (fun o ho=>by simp[execOp,ho]) h (Yj.2 ⟨.virt,Yh,⟨rfl,r1⟩⟩) o1 t1
 ·exact h.elim

theorem X2n (hs:SM w ρ sl a)(hO:OM w ρ ob){op:Op}{r:Option A}(hc:I.chk P op (.mkm r)=true)(h:X05 sl r/\K (.mp (Xa ob)) ((Xa ob,.map [])::ob)):Qr P a w ρ op K Pn:=by
 cases op<;>simp only[I.chk,Uah]at hc;rename_i t hint;simp only[Uai]at hc;obtain⟨hm,hK⟩:=h;obtain⟨kt,et,ht⟩:∃kt et,P.underlying t=some (.map kt et):=by
  have:=hc.1;revert this; split<;>simp_all
 obtain⟨t1,o1,p1⟩:=Yce hO (X2 ob);refine X0 (fun o ho=>?_) hK p1 o1 t1;cases hint with
 | none=>
  simp only[execOp,ho,Option.map_none,Instr.makeMap,Sem.run_bind,run_newObj,Result.andThen_ok,Sem.run_pure];rfl
 | some x=>
  cases r with
  | none=>simp[Xib]at hc
  | some y=>
   simp only[Xib]at hc;have r1:=A.sound hs hc.2;simp only[X05]at hm;unfold Xjv at hm;split at hm
   ·rename_i k n e1;rw[e1,X7]at r1;simp only[execOp,ho,Option.map_some,Instr.makeMap,Sem.run_bind,Xd ht,run_newObj,Result.andThen_ok,Sem.run_pure,r1,asInt];rfl
   ·exact hm.elim

theorem Xrn {x y:D}(h:D.alike0 x y=true):∃u v,x.key0=some u/\y.key0=some v:=by
 unfold D.alike0 at h;split at h<;>first | exact⟨_,_,rfl,rfl⟩ | cases h
theorem Xek:∀{xs ys:List D},Zv xs ys=true->∃us vs,W2 xs=some us/\W2 ys=some vs
 | [],[],_=>⟨[],[],rfl,rfl⟩
 | x::r,y::s,h=>by
  simp only[Zv,Uai]at h;obtain⟨u,v,h1,h2⟩:=Xrn h.1;obtain⟨us,vs,h3,h4⟩:=Xek h.2;exact⟨u::us,v::vs,by simp only[W2,h1,h3],by simp only[W2,h2,h4]⟩
 | [],_::_,h=>by cases h
 | _::_,[],h=>by cases h
theorem Xcj {k j:D}(h:D.alike k j=true):∃u v,k.key=some u/\j.key=some v:=by
 unfold D.alike at h;split at h<;>first | exact⟨_,_,rfl,rfl⟩ | (cases h; done) | skip
 obtain⟨us,vs,h1,h2⟩:=Xek h;exact⟨.agg us.toArray,.agg vs.toArray,by simp only[D.key,h1,Yr7],by simp only[D.key,h2,Yr7]⟩
def D.flat0:D->Bool
 | .agg _=>false
 | _=>true
theorem Xmg {td:TypeDesc}{k:D}(h:Us td k=true):k.flat0=true:=by
 unfold Us at h; split at h<;>first | rfl | cases h
theorem Xe8 {td:TypeDesc}{kd k:D}(h:Us td kd=true)(h2:D.alike kd k=true):Us td k=true:=by
 unfold Us at h;split at h
 ·cases k<;>simp[D.alike]at h2<;>rfl
 ·cases k<;>simp[D.alike]at h2<;>rfl
 ·cases k<;>simp[D.alike]at h2<;>rfl
 ·cases h
theorem Xsq {td:TypeDesc}{k j:D}{u v:Value}(hk:Us td k=true)(ha:D.alike k j=true)(hu:k.key=some u)(hv:j.key=some v):Instr.sameNow td u v=some (D.sameKey k j):=by
 have hfl:=Xmg hk;cases k<;>simp only[D.flat0,Uah]at hfl<;>cases j<;>simp only[D.alike,Uah,Ubp]at ha<;>simp only[D.key,Uaq]at hu hv<;>subst hu<;>subst hv<;>cases td<;>simp only[Us,Uah]at hk
 ·subst ha; simp[Instr.sameNow,D.sameKey]
 ·simp[Instr.sameNow,D.sameKey]
 ·rename_i s t;simp only[Instr.sameNow,D.sameKey,Uaq];rw[beq_toListBytes,Xk8,Xk8]
theorem Xzv:∀{xs ys:List D} {us vs:List Value},Zv xs ys=true->D.eqbs xs ys=true->W2 xs=some us->W2 ys=some vs->vs=us:=by
 intro xs ys us vs _ h2 h3 h4;rw[D.eqbs_eq _ _ h2]at h3;rw[h3]at h4; exact (Ub1 h4).symm
theorem Xhy {k j:D}{u v:Value}(ha:D.alike k j=true)(hs:D.sameKey k j=true)(hu:k.key=some u)(hv:j.key=some v):v=u:=by
 cases k<;>cases j<;>simp only[D.alike,Uah,Ubp]at ha<;>simp only[D.sameKey,Ubn]at hs<;>simp only[D.key,Uaq]at hu hv
 ·rw[<-hu,<-hv]; simp_all
 ·rw[<-hu,<-hv]; simp_all
 ·rw[<-hu,<-hv]; simp_all
 ·obtain⟨us,h1,rfl⟩:=Y6 hu;obtain⟨vs,h2,rfl⟩:=Y6 hv;rw[Xzv ha hs h1 h2]
theorem X4t {x y:D}{u:Value}(h1:x.key0=some u)(h2:y.key0=some u)(ha:D.alike0 x y=true):D.eqb x y=true:=by
 cases x<;>cases y<;>simp only[D.alike0,Uah,Ubp]at ha<;>simp only[D.key0,Uaq]at h1 h2<;>rw[<-h1]at h2
 ·simp only[Value.int.injEq]at h2; simp[D.eqb,h2.1,h2.2]
 ·simp only[Value.bool.injEq]at h2; simp[D.eqb,h2]
 ·simp only[Value.string.injEq,ByteArray.mk.injEq]at h2;have h2:=Ua4 Array.toList h2;simp only[List.toList_toArray]at h2;simp[D.eqb,h2]
theorem Xj0:∀{xs ys:List D} {us:List Value},W2 xs=some us->W2 ys=some us->Zv xs ys=true->D.eqbs xs ys=true
 | [],[],_,_,_,_=>rfl
 | x::r,y::s,us,h1,h2,ha=>by
  simp only[Zv,Uai]at ha;simp only[W2]at h1 h2;split at h1
  ·rename_i u1 us1 a1 a2;split at h2
   ·rename_i u2 us2 b1 b2;cases h1; cases h2;simp only[D.eqbs,Uai];exact⟨X4t a1 b1 ha.1,Xj0 a2 b2 ha.2⟩
   ·cases h2
  ·cases h1
 | [],_::_,_,_,_,h=>by cases h
 | _::_,[],_,_,_,h=>by cases h
theorem Xmf {k j:D}{u:Value}(hu:k.key=some u)(hj:j.key=some u)(ha:D.alike k j=true):D.sameKey k j=true:=by
 cases k<;>cases j<;>simp only[D.alike,Uah,Ubp]at ha<;>simp only[D.key,Uaq]at hu hj
 ·rw[<-hu]at hj; simp only[Value.int.injEq]at hj; simp[D.sameKey,hj.2]
 ·rw[<-hu]at hj; simp only[Value.bool.injEq]at hj; simp[D.sameKey,hj]
 ·rw[<-hu]at hj; simp only[Value.string.injEq,ByteArray.mk.injEq]at hj;have hj:=Ua4 Array.toList hj;simp only[List.toList_toArray]at hj;simp[D.sameKey,hj]
 ·obtain⟨us,h1,rfl⟩:=Y6 hu;obtain⟨vs,h2,h3⟩:=Y6 hj;have h3:us=vs:=by simpa using h3
  subst h3;exact Xj0 h1 h2 ha
theorem Xp0 {e:MapEntry}{l:List MapEntry}{u:Value}{j:Nat}(h:∀i,i<j->∀e',l[i]? = some e'->e'.key ≠ u)(h0:e.key ≠ u):∀i,i<j+1->∀e',(e::l)[i]? = some e'->e'.key ≠ u
 | 0,_,e',he=>by simp at he; subst he; exact h0
 | i+1,hi,e',he=>h i (by omega) e' (by simpa using he)
theorem Xwx {td:TypeDesc}{k:D}{u:Value}(hk:Us td k=true)(hu:k.key=some u):∀(es:List (D×V)) (l:List MapEntry) (i:Nat),X9 w ρ es l->(∀e∈es,D.alike k e.1=true)->
  (Wu k es=none/\Instr.findNow td u l i=some none)\/∃v j e,Wu k es=some v/\Instr.findNow td u l i=some (some (i+j,e.val))/\l[j]? = some e/\v.rep w ρ e.val/\e.key=u/\∀i,i<j->∀e',l[i]? = some e'->e'.key ≠ u
 | [],l,i,h,_=>by
  simp only[X9]at h; subst h;exact .inl ⟨rfl,rfl⟩
 | (j,v)::r,l,i,h,ha=>by
  obtain⟨e,l',rfl,h1,h2,h3⟩:=h;have haj:=ha (j,v) (by simp);have hs:=Xsq hk haj hu h1;simp only[Instr.findNow,Wu,hs];cases hsk:D.sameKey k j with
  | true=>
   exact .inr ⟨v,0,e,by simp,by simp,by simp,h2,Xhy haj hsk hu h1,fun _ h=>(by omega)⟩
  | false=>
   rcases Xwx hk hu r l' (i+1) h3 (fun x hx=>ha x (by simp[hx])) with⟨f1,f2⟩ | ⟨v',j',e',f1,f2,f3,f4,f5,f6⟩
   ·exact .inl ⟨by simpa using f1,by simpa using f2⟩
   ·exact .inr ⟨v',j'+1,e',by simpa using f1,by simp only[f2]; congr 3; omega,by simpa using f3,f4,f5,Xp0 f6 fun hk=>by rw[Xmf hu (by rw[h1,hk]) haj]at hsk; cases hsk⟩
theorem Xc5 {kt:TypeId}{td:TypeDesc}(ht:P.underlying kt=some td){u:Value}{l:List MapEntry}{r:Option (Nat×Value)}(h:Instr.findNow td u l 0=some r)(w':World):(Instr.findKey kt u l).run P w'=.ok r w':=by
 simp[Instr.findKey,Xd ht,h]
theorem Xi0 {kt:TypeId}{td:TypeDesc}(ht:P.underlying kt=some td){k:D}(hk:Us td k=true)(u:Value)(b:Bool)(w':World):(Instr.checkKey b 10000 kt u).run P w'=.ok () w':=by
 unfold Instr.checkKey;simp only[Sem.run_bind,Xd ht,Result.andThen_ok];unfold Us at hk;split at hk<;>first | (cases hk; done) | simp
theorem Xgh:∀{kd xs:List D},Zv kd xs=true->KT.fitss (kd.map Xse) xs=true
 | [],[],_=>rfl
 | x::r,y::s,h=>by
  simp only[Zv,Uai]at h;simp only[Uam,KT.fitss,Uai];refine⟨?_,Xgh h.2⟩;have h1:=h.1;unfold D.alike0 at h1; split at h1
  ·simpa[Xse,KT.fits]using h1
  ·rfl
  ·rfl
  ·cases h1
 | [],_::_,h=>by cases h
 | _::_,[],h=>by cases h
theorem Xo8:∀{kd:List D},KT.depths (kd.map Xse)<=1
 | []=>by simp[KT.depths]
 | x::r=>by
  simp only[Uam,KT.depths];have:=Xo8 (kd:=r);have h1:(Xse x).depth<=1:=by cases x<;>simp[Xse,KT.depth]
  omega
theorem X9v {t:TypeId}{x:D}(hc:(Xse x).chk P t=true)(b:Bool)(u:Value)(n:Nat)(w':World):(Instr.checkKey b (n+1) t u).run P w'=.ok () w':=by
 unfold Instr.checkKey;cases x<;>simp only[Xse,KT.chk]at hc<;>(split at hc<;>first | (cases hc; done) | (rename_i hu; simp only[Sem.run_bind,Xd hu,Result.andThen_ok]; simp))
theorem Xi1 (b:Bool)(n:Nat):∀(kd:List D) (fds:List Field) (o:Nat) (xs:List D) (px cx:List Value),KT.chks P (kd.map Xse) fds o=true->KT.fitss (kd.map Xse) xs=true->D.repL w (own ρ) xs cx->px.length=o->∀w',
  (forIn fds PUnit.unit (fun f (_:PUnit)=>(if f.name ≠ "_" then (do Instr.checkKey b (n+1) f.type (<-part f.type (px++cx).toArray f.offset); pure (ForInStep.yield PUnit.unit)) else pure (ForInStep.yield PUnit.unit):Sem (ForInStep PUnit)))).run P w'=.ok PUnit.unit w'
 | [],fds,o,xs,px,cx,hc,hx,rx,lx,w'=>by
  cases fds<;>simp[KT.chks]at hc;simp
 | t::r,fds,o,xs,px,cx,hc,hx,rx,lx,w'=>by
  cases fds<;>simp only[Uam,KT.chks,Uah,Uai,bne_iff_ne,ne_eq,Ubn]at hc;rename_i f fs;cases xs<;>simp only[Uam,KT.fitss,Uah,Uai]at hx;rename_i x xs;simp only[D.repL]at rx;obtain⟨a1,a2,rfl,ra,rx⟩:=rx;obtain⟨⟨⟨⟨hn,ho⟩,hsz⟩,hct⟩,hcr⟩:=hc;have e1:f.offset=px.length:=by omega
  have p1:=Jx (c1:=px) (c3:=a2) hct hsz hx.1 ra w';rw[<-e1]at p1;have la:=D.rep_len _ _ ra;rw[KT.size_eq _ x hx.1]at la;have ih:=Xi1 b n r fs (o+(Xse t).cells) xs (px++a1) a2 hcr hx.2 rx (by simp; omega) w';simp only[Uav]at ih;simp only[List.forIn_cons,Sem.run_bind,hn,ne_eq,not_false_eq_true,Ubb,p1,X9v hct,Result.andThen_ok,Sem.run_pure];exact ih
theorem Qu {kt:TypeId}{kd k:D}{u:Value}(hk:Vb P kt kd=true)(ha:D.alike kd k=true)(hu:k.key=some u)(b:Bool)(w':World):(Instr.checkKey b 10000 kt u).run P w'=.ok () w':=by
 unfold Vb at hk;split at hk
 ·rename_i xs;cases k<;>simp only[D.alike,Uah]at ha;rename_i ys;simp only[D.key]at hu;obtain⟨us,h1,rfl⟩:=Y6 hu;simp only[KT.chk]at hk;split at hk
  ·rename_i fds hst;simp only[Uai]at hk;unfold Instr.checkKey;simp only[Sem.run_bind,Xd hst,Result.andThen_ok];rw[<-Array.forIn_toList];have:=Xi1 (P:=P) (w:=w') (ρ:=⟨fun _=>none,fun _=>False,⟨fun _=>none,fun _ _ _ _ _=>False⟩⟩) b 9998 xs fds.toList 0 ys [] us hk.2 (Xgh ha) (Up h1) rfl w';simp only[List.nil_append]at this;simp only[this,Result.andThen_ok,Sem.run_pure]
  ·cases hk
 ·split at hk
  ·rename_i td htd;exact Xi0 htd (Xe8 hk ha) u b w'
  ·cases hk
theorem Xwu {kt:TypeId}{xs ys zs:List D}{us vs:List Value}(hk:(KT.st (xs.map Xse)).chk P kt=true)(ha:Zv xs ys=true)(hb:Zv ys zs=true)(hc:Zv xs zs=true)(h1:W2 ys=some us)(h2:W2 zs=some vs)(w':World) :
  (Op.equal kt (.agg us.toArray) (.agg vs.toArray)).run P w'=.ok (D.sameKey (.agg ys) (.agg zs)) w':=by
 have:=KT.equal (P:=P) (w:=w') (ow:=fun _=>False) (KT.st (xs.map Xse)) kt (.agg ys) (.agg zs) us vs 10000 hk (by simp only[KT.fits]; exact Xgh ha) (by simp only[KT.fits]; exact Xgh hc) (by simp only[D.rep]; exact Up h1) (by simp only[D.rep]; exact Up h2) (by simp only[KT.depth]; have:=Xo8 (kd:=xs); omega) w';simp only[Xd5,D.isAgg,Ubb,D.eqb]at this;exact this
theorem Xa5:∀{a b c:List D},Zv a b=true->Zv b c=true->Zv a c=true
 | [],[],[],_,_=>rfl
 | x::r,y::s,z::t,h,h2=>by
  simp only[Zv,Uai]at h h2⊢;refine⟨?_,Xa5 h.2 h2.2⟩;have h1:=h.1; have h3:=h2.1;cases x<;>cases y<;>simp[D.alike0]at h1<;>cases z<;>simp[D.alike0]at h3<;>simp_all[D.alike0]
 | [],[],_::_,_,h=>by cases h
 | [],_::_,_,h,_=>by cases h
 | _::_,[],_,h,_=>by cases h
 | _::_,_::_,[],_,h=>by cases h
theorem X59 {kt:TypeId}{k:D}{u:Value}(hu:k.key=some u)(hs:∀j v,D.alike k j=true->j.key=some v->∀w',(Op.equal kt u v).run P w'=.ok (D.sameKey k j) w'):∀(es:List (D×V)) (l:List MapEntry) (i:Nat),X9 w ρ es l->(∀e∈es,D.alike k e.1=true)->
  (Wu k es=none/\∀w',(Instr.findAsking kt u l i).run P w'=.ok none w')\/∃v j e,Wu k es=some v/\(∀w',(Instr.findAsking kt u l i).run P w'=.ok (some (i+j,e.val)) w')/\l[j]? = some e/\v.rep w ρ e.val/\e.key=u/\∀i,i<j->∀e',l[i]? = some e'->e'.key ≠ u
 | [],l,i,h,_=>by
  simp only[X9]at h; subst h;exact .inl ⟨rfl,fun w'=>by simp[Instr.findAsking]⟩
 | (j,v)::r,l,i,h,ha=>by
  obtain⟨e,l',rfl,h1,h2,h3⟩:=h;have haj:=ha (j,v) (by simp);have hq:=hs j _ haj h1;simp only[Wu];cases hsk:D.sameKey k j with
  | true=>
   rw[hsk]at hq;exact .inr ⟨v,0,e,by simp,fun w'=>by simp[Instr.findAsking,hq],by simp,h2,Xhy haj hsk hu h1,fun _ h=>(by omega)⟩
  | false=>
   rw[hsk]at hq;rcases X59 hu hs r l' (i+1) h3 (fun x hx=>ha x (by simp[hx])) with⟨f1,f2⟩ | ⟨v',j',e',f1,f2,f3,f4,f5,f6⟩
   ·exact .inl ⟨by simpa using f1,fun w'=>by simp[Instr.findAsking,hq,f2]⟩
   ·exact .inr ⟨v',j'+1,e',by simpa using f1,fun w'=>by simp only[Instr.findAsking,Sem.run_bind,hq,Result.andThen_ok,Uah,Uay,f2]; congr 3; omega,by simpa using f3,f4,f5,Xp0 f6 fun hk=>by rw[Xmf hu (by rw[h1,hk]) haj]at hsk; cases hsk⟩
theorem Xc4 {kt:TypeId}{fds:Array Field}(hst:P.underlying kt=some (.struct fds)){u:Value}{l:List MapEntry}(w':World):(Instr.findKey kt u l).run P w'=(Instr.findAsking kt u l).run P w':=by
 cases l with
 | nil=>simp[Instr.findKey,Xd hst,Instr.findNow,Instr.findAsking]
 | cons e r=>
  have:Instr.findNow (.struct fds) u (e::r) 0=none:=by simp[Instr.findNow,Instr.sameNow]
  simp[Instr.findKey,Xd hst,this]
theorem Xao {kt:TypeId}{kd k:D}{u:Value}(hk:Vb P kt kd=true)(hkd:D.alike kd k=true)(hu:k.key=some u){es:List (D×V)}{l:List MapEntry}(h:X9 w ρ es l)(ha:∀e∈es,D.alike k e.1=true) :
  (Wu k es=none/\∀w',(Instr.findKey kt u l).run P w'=.ok none w')\/∃v j e,Wu k es=some v/\(∀w',(Instr.findKey kt u l).run P w'=.ok (some (j,e.val)) w')/\l[j]? = some e/\v.rep w ρ e.val/\e.key=u/\∀i,i<j->∀e',l[i]? = some e'->e'.key ≠ u:=by
 have hk0:=hk;unfold Vb at hk;split at hk
 ·rename_i xs;cases k<;>simp only[D.alike,Uah]at hkd;rename_i ys;have hu0:=hu;simp only[D.key]at hu;obtain⟨us,h1,rfl⟩:=Y6 hu;have hst:∃fds,P.underlying kt=some (.struct fds):=by
   simp only[KT.chk]at hk;split at hk
   ·exact⟨_,by assumption⟩
   ·cases hk
  obtain⟨fds,hst⟩:=hst;have hs:∀j v,D.alike (.agg ys) j=true->j.key=some v->∀w',(Op.equal kt (.agg us.toArray) v).run P w'=.ok (D.sameKey (.agg ys) j) w':=by
   intro j v haj hv w';cases j<;>simp only[D.alike,Uah]at haj;simp only[D.key]at hv;obtain⟨vs,h2,rfl⟩:=Y6 hv;exact Xwu hk hkd haj (Xa5 hkd haj) h1 h2 w'
  rcases X59 (w:=w) (ρ:=ρ) hu0 hs es l 0 h ha with⟨f1,f2⟩ | ⟨v,j,e,f1,f2,f3⟩
  ·exact .inl ⟨f1,fun w'=>(Xc4 hst w').trans (f2 w')⟩
  ·exact .inr ⟨v,j,e,f1,fun w'=>(Xc4 hst w').trans (by simpa using f2 w'),f3⟩
 ·split at hk
  ·rename_i td htd;rcases Xwx (Xe8 hk hkd) hu es l 0 h ha with⟨f1,f2⟩ | ⟨v,j,e,f1,f2,f3⟩
   ·exact .inl ⟨f1,fun w'=>Xc5 htd f2 w'⟩
   ·exact .inr ⟨v,j,e,f1,fun w'=>Xc5 htd (by simpa using f2) w',f3⟩
  ·cases hk
theorem Xxi {w:World}{ow:Nat->Prop}:∀{xs:List D} {us cs:List Value},W2 xs=some us->D.repL w ow xs cs->cs=us
 | [],us,cs,h,h2=>by simp only[W2,Uaq]at h; simp only[D.repL]at h2; rw[h2,h]
 | x::r,us,cs,h,h2=>by
  simp only[W2]at h;split at h
  ·rename_i u us' h1 h3;cases h;simp only[D.repL]at h2;obtain⟨c1,c2,rfl,r1,r2⟩:=h2;rw[Xxi h3 r2];cases x<;>simp only[D.key0,Uaq,reduceCtorEq]at h1<;>subst h1<;>simp only[D.rep]at r1<;>rw[r1]<;>rfl
  ·cases h
theorem Xxh {d:D}{u v:Value}(h1:d.key=some u)(h2:(V.d d).rep w ρ v):v=u:=by
 cases d<;>simp only[D.key,Uaq,reduceCtorEq]at h1
 ·rw[X7]at h2; rw[h2,<-h1]
 ·rw[rep_bool]at h2; rw[h2,<-h1]
 ·rw[Wy]at h2; rw[h2,<-h1]
 ·obtain⟨us,h3,rfl⟩:=Y6 h1;rw[J2]at h2;rcases h2 with⟨_,ds,rfl,h2⟩ | ⟨h2,_⟩
  ·simp only[D.rep]at h2;rw[Xxi h3 h2]
  ·cases h2
theorem X57 {et:TypeId}{z:D}(h:(match Ql P et with | some cs=>D.isC z cs&&(((P.info? et).bind (·.zero)).map fun v=>match v with | .agg _=>true | _=>false)==some (V.d z).isAgg | none=>false)=true) :
  ∃zv,(V.d z).rep w ρ zv/\∀w',(zeroValue et).run P w'=.ok zv w':=by
 cases hzt:Ql P et with
 | none=>simp[hzt]at h
 | some cs=>
  simp only[hzt,Uai,Ubn]at h;obtain⟨hz1,hz2⟩:=h;obtain⟨zv,e1,e2,hzr⟩:=Qh hzt;refine⟨zv,?_,hzr⟩;have hr:(V.d z).repC w ρ cs:=by simp only[V.repC]; exact D.isC_rep z cs hz1
  rw[e2]at hz2;simp only[Option.map_some,Uaq]at hz2;cases zv with
  | agg cs'=>
   simp only at hz2;refine .inr (.inl ⟨hz2.symm,cs,?_,hr⟩);simp only[Value.cells]at e1;rw[<-e1]
  | _=>
   simp only at hz2;refine .inr (.inr ⟨hz2.symm,?_⟩);simp only[Value.cells]at e1;rw[<-e1]at hr;simpa using hr
theorem X2m (hs:SM w ρ sl a)(hO:OM w ρ ob){op:Op}{kd z:D}{ok:Bool}{m k:A}(hc:I.chk P op (.lkp kd z ok m k)=true)(h:Xxu ob kd z ok (fun v=>K v ob) (m.ev sl) (k.ev sl)):Qr P a w ρ op K Pn:=by
 cases op<;>simp only[I.chk,Uah]at hc;rename_i t x i o;simp only[Uai,Ubn]at hc;obtain⟨⟨⟨rfl,hty⟩,hx⟩,hi⟩:=hc;obtain⟨kt,et,ht,hkk,hz⟩:∃kt et,P.underlying t=some (.map kt et)/\Vb P kt kd=true/\(match Ql P et with | some cs=>D.isC z cs&&(((P.info? et).bind (·.zero)).map fun v=>match v with | .agg _=>true | _=>false)==some (V.d z).isAgg | none=>false)=true:=by
  revert hty; split
  ·rename_i kt et h; intro h1; simp only[Uai]at h1; exact⟨kt,et,h,h1.1,h1.2⟩
  ·intro h; cases h
 obtain⟨zv,hzv,hzr⟩:=X57 (w:=w) (ρ:=ρ) hz;have r1:=A.sound hs hx;have r2:=A.sound hs hi;have tup:∀{v:V} {u:Value} (b:Bool),v.rep w ρ u->(V.tup [v,.d (.bool b)]).rep w ρ (.tuple #[u,.bool b]):=fun b hv=>by
  rw[Z4];refine⟨[_,.bool b],rfl,?_⟩;simp only[V.reps];exact⟨_,_,rfl,hv,_,_,rfl,rep_bool.2 rfl,rfl⟩
 unfold Xxu at h;split at h
 ·rename_i id kk e1 e2;rw[e1]at r1;rw[e2]at r2;unfold Xgl at h;split at h
  ·rename_i es hl;obtain⟨⟨ha0,hall⟩,hK⟩:=h;obtain⟨b,l,clk,g1,g2,g3,_⟩:=hO.one id _ hl;rw[Xfg]at r1;rcases r1 with⟨b',g4,r1⟩ | ⟨g4,_⟩
   ·rw[g1]at g4; cases g4;obtain⟨_,ku,_,hku⟩:=Xcj ha0;have r2':=Xxh hku r2;have hck:=fun b w'=>Qu hkk ha0 hku b w';have hget:(getObj b).run P w=.ok (.map l.toArray clk) w:=by simp[getObj,Sem.run,g2]
    rcases Xao hkk ha0 hku g3 hall with⟨f1,f2⟩ | ⟨v,j,e,f1,f2,f3,f4,f5,_⟩
    ·rw[f1]at hK;cases o
     ·exact X0 (fun o ho=>by simp[execOp,ho,Instr.lookup,r1,r2',Xd ht,hget,hck,f2,hzr]) hK hzv hO (Tr.refl _ _)
     ·exact X0 (fun o ho=>by simp[execOp,ho,Instr.lookup,r1,r2',Xd ht,hget,hck,f2,hzr]) hK (tup false hzv) hO (Tr.refl _ _)
    ·rw[f1]at hK;cases o
     ·exact X0 (fun o ho=>by simp[execOp,ho,Instr.lookup,r1,r2',Xd ht,hget,hck,f2]) hK f4 hO (Tr.refl _ _)
     ·exact X0 (fun o ho=>by simp[execOp,ho,Instr.lookup,r1,r2',Xd ht,hget,hck,f2]) hK (tup true f4) hO (Tr.refl _ _)
   ·rw[g1]at g4; cases g4
  ·exact h.elim
 ·rename_i kk e1 e2;rw[e1,J5]at r1;rw[e2]at r2;obtain⟨ha0,hK⟩:=h;obtain⟨_,ku,_,hku⟩:=Xcj ha0;have r2':=Xxh hku r2;have hck:=fun b w'=>Qu hkk ha0 hku b w';have f2:∀w',(Instr.findKey kt ku ([]:List MapEntry)).run P w'=.ok none w':=fun w'=>by
   rcases Xao (w:=w) (ρ:=ρ) (es:=[]) (l:=[]) hkk ha0 hku rfl (by simp) with⟨_,f⟩ | ⟨_,_,_,f,_⟩
   ·exact f w'
   ·cases f
  cases o
  ·exact X0 (fun o ho=>by simp[execOp,ho,Instr.lookup,r1,r2',Xd ht,hck,f2,hzr]) hK hzv hO (Tr.refl _ _)
  ·exact X0 (fun o ho=>by simp[execOp,ho,Instr.lookup,r1,r2',Xd ht,hck,f2,hzr]) hK (tup false hzv) hO (Tr.refl _ _)
 ·exact h.elim

theorem X8d {k:D}{u:Value}{x:V}{xv:Value}(hu:k.key=some u)(hx:x.rep w ρ xv)(clk:Nat):∀(es:List (D×V)) (l:List MapEntry),X9 w ρ es l->Wu k es=none->X9 w ρ (Xk9 k x es) (l++[{ key:=u,val:=xv,born:=clk }])
 | [],l,h,_=>by simp only[X9]at h; subst h; exact⟨_,[],rfl,hu,hx,rfl⟩
 | (j,v)::r,l,h,hf=>by
  obtain⟨e,l',rfl,h1,h2,h3⟩:=h;simp only[Wu]at hf;split at hf
  ·cases hf
  ·rename_i hs;simp only[Xk9,hs];exact⟨e,_,rfl,h1,h2,X8d hu hx clk r l' h3 hf⟩
theorem X0u {k:D}{u:Value}{x:V}{xv:Value}(hu:k.key=some u)(hx:x.rep w ρ xv):∀(es:List (D×V)) (l:List MapEntry) (v:V) (j:Nat) (e:MapEntry),X9 w ρ es l->(∀e∈es,D.alike k e.1=true)->(∀i,i<j->∀e',l[i]? = some e'->e'.key ≠ u)->l[j]? = some e->e.key=u->
  X9 w ρ (Xk9 k x es) (l.modify j fun e=>{ e with key:=u,val:=xv })
 | [],l,v,j,e,h,_,_,hl,_=>by simp only[X9]at h; subst h; simp at hl
 | (q,y)::r,l,v,0,e,h,ha,_,hl,hk=>by
  obtain⟨e',l',rfl,h1,h2,h3⟩:=h;simp only[List.getElem?_cons_zero,Uaq]at hl;subst hl;have hs:=Xmf hu (by rw[h1,hk]) (ha (q,y) (by simp));simp only[Xk9,hs,Ubb];exact⟨_,l',rfl,hu,hx,h3⟩
 | (q,y)::r,l,v,j+1,e,h,ha,hb,hl,hk=>by
  obtain⟨e',l',rfl,h1,h2,h3⟩:=h;have hne:=hb 0 (by omega) e' (by simp);have hs:D.sameKey k q=false:=by
   cases hs:D.sameKey k q with
   | false=>rfl
   | true=>exact absurd (Xhy (ha (q,y) (by simp)) hs hu h1) hne
  simp only[Xk9,hs,Uah,Uay];exact⟨e',_,rfl,h1,h2,X0u hu hx r l' v j e h3 (fun x hx=>ha x (by simp[hx])) (fun i hi e2 he=>hb (i+1) (by omega) e2 (by simpa using he)) (by simpa using hl) hk⟩
theorem J7 {n:Nat}:∀{xs:List D} {us:List Value},W2 xs=some us->(us.zip us).all (fun (x,y)=>Instr.sameBits n x y)=true
 | [],us,h=>by simp only[W2,Uaq]at h; subst h; rfl
 | x::r,us,h=>by
  simp only[W2]at h;split at h
  ·rename_i u us' h1 h2;cases h;simp only[List.zip_cons_cons,List.all_cons,Uai];refine⟨?_,J7 h2⟩;cases x<;>simp only[D.key0,Uaq,reduceCtorEq]at h1<;>subst h1<;>cases n<;>simp[Instr.sameBits,beq_toListBytes]
  ·cases h
theorem Xk2 {k:D}{u:Value}(h:k.key=some u):Instr.sameBits 10000 u u=true:=by
 cases k<;>simp only[D.key,Uaq,reduceCtorEq]at h
 ·subst h; show (_==_&&_==_)=true; simp
 ·subst h; show (_==_)=true; simp
 ·subst h; show (_==_)=true; rw[beq_toListBytes]; simp
 ·obtain⟨us,h1,rfl⟩:=Y6 h;have:=J7 (n:=9999) h1;show (_==_&&_)=true;simpa using this
theorem Xad.snoc:∀{l:List MapEntry} {n:Nat} {e:MapEntry},Xad n l->e.born=n+l.length->Xad n (l++[e])
 | [],n,e,_,h=>⟨by simpa using h,trivial⟩
 | x::r,n,e,h,h2=>⟨h.1,Xad.snoc h.2 (by simp at h2; omega)⟩
theorem Xad.mdf:∀{l:List MapEntry} {n:Nat},Xad n l->∀(j:Nat) (u v:Value),Xad n (l.modify j fun e=>{ e with key:=u,val:=v })
 | [],n,h,j,u,v=>by simpa using h
 | x::r,n,h,0,u,v=>⟨h.1,h.2⟩
 | x::r,n,h,j+1,u,v=>⟨h.1,Xad.mdf h.2 j u v⟩
theorem Xvj (hs:SM w ρ sl a)(hO:OM w ρ ob){op:Op}{kd:D}{m k v:A}(hc:I.chk P op (.mset kd m k v)=true)(h:Xde ob kd (v.ev sl) K (m.ev sl) (k.ev sl)):Qr P a w ρ op K Pn:=by
 obtain⟨t,x,i,y,hop,hty,hx,hi,hy⟩:∃t x i y,(op=.mapUpdate t x i y\/op=.insert t x i y)/\(match P.underlying t with | some (.map kt _)=>Vb P kt kd | _=>false)=true/\A.chk x m=true/\A.chk i k=true/\A.chk y v=true:=by
  cases op<;>simp only[I.chk,Uah,Uai]at hc
  ·rename_i t x i y; exact⟨t,x,i,y,.inr rfl,hc.1.1.1,hc.1.1.2,hc.1.2,hc.2⟩
  ·rename_i t x i y; exact⟨t,x,i,y,.inl rfl,hc.1.1.1,hc.1.1.2,hc.1.2,hc.2⟩
 obtain⟨kt,et,ht,hkk⟩:∃kt et,P.underlying t=some (.map kt et)/\Vb P kt kd=true:=by
  revert hty; split
  ·rename_i kt et h; intro h1; exact⟨kt,et,h,h1⟩
  ·intro h; cases h
 have r1:=A.sound hs hx;have r2:=A.sound hs hi;have r3:=A.sound hs hy;unfold Xde at h;split at h
 ·rename_i id kk e1 e2;rw[e1]at r1;rw[e2]at r2;unfold Jr at h;split at h
  ·rename_i es hl;obtain⟨⟨ha0,hall⟩,hst,hK⟩:=h;obtain⟨b,l,clk,g1,g2,g3,g5,g6⟩:=hO.one id _ hl;rw[Xfg]at r1;rcases r1 with⟨b',g4,r1⟩ | ⟨g4,_⟩
   ·rw[g1]at g4; cases g4;obtain⟨_,ku,_,hku⟩:=Xcj ha0;have r2':=Xxh hku r2;have hck:=fun b w'=>Qu hkk ha0 hku b w';have hget:(getObj b).run P w=.ok (.map l.toArray clk) w:=by simp[getObj,Sem.run,g2]
    rcases Xao hkk ha0 hku g3 hall with⟨f0,f1⟩ | ⟨v',j,e,f0,f1,f2,_,f3,f6⟩
    ·have f2:=X8d hku r3 clk es l g3 f0;obtain⟨t1,o1⟩:=Xle (clk':=clk+1) hO hl g1 g2 f2 ⟨by simp[g5],Xad.snoc g6 (by simp[g5])⟩;refine Jd (fun o ho=>?_) hK o1 t1;have hset:(setObj b (.map ((l++[(⟨ku,a.eval y,clk⟩:MapEntry)]).toArray) (clk+1))).run P w=.ok () (Xac w b (.map ((l++[(⟨ku,a.eval y,clk⟩:MapEntry)]).toArray) (clk+1))):=by simp[setObj,Sem.run,g2,Xac]
     rcases hop with rfl | rfl<;>simp[execOp,ho,Instr.mapUpdate,r1,r2',Xd ht,hget,hck,f1]<;>(rw[hset]; simp)
    ·have f4:=X0u hku r3 es l v' j e g3 hall f6 f2 f3;obtain⟨t1,o1⟩:=Xle (clk':=clk) hO hl g1 g2 f4 ⟨by simp[g5],Xad.mdf g6 j _ _⟩;refine Jd (fun o ho=>?_) hK o1 t1;have hks:(Instr.keyThatStays e.key ku).run P w=.ok ku w:=by simp[Instr.keyThatStays,f3,Xk2 hku]
     have hm:(l.toArray.modify j fun e=>{ e with key:=ku,val:=a.eval y })=(l.modify j fun e=>{ e with key:=ku,val:=a.eval y }).toArray:=by simp
     have hset:(setObj b (.map (l.modify j fun e=>{ e with key:=ku,val:=a.eval y }).toArray clk)).run P w=.ok () (Xac w b (.map (l.modify j fun e=>{ e with key:=ku,val:=a.eval y }).toArray clk)):=by simp[setObj,Sem.run,g2,Xac]
     rcases hop with rfl | rfl<;>simp[execOp,ho,Instr.mapUpdate,r1,r2',Xd ht,hget,hck,f1,f2,hks]<;>(rw[hset]; simp)
   ·rw[g1]at g4; cases g4
  ·exact h.elim
 ·exact h.elim

theorem X2i {P:Prg}(hg:ρ.gl=P.g)(hO:OM w ρ ob){op:Op}{g n:Nat}{ag:Bool}{x:D}(hc:I.chk P.p op (.gld g n ag x)=true)(h:GlobIs P g x/\x.sz=n/\(V.d x).isAgg=ag/\K (.d x) ob):Qr P.p a w ρ op K Pn:=by
 obtain⟨t,hop,h1,h2,h3⟩:∃t,op=.load t (.global g)/\Ye P.p t=some n/\(P.p.underlying t).isSome=true/\agT P.p t=ag:=by
  simp only[I.chk]at hc;split at hc
  ·rename_i t hh;simp only[Uai,Ubn]at hc;obtain⟨⟨⟨rfl,h1⟩,h2⟩,h3⟩:=hc;exact⟨t,rfl,h1,h2,h3⟩
  ·cases hc
 obtain⟨⟨cs,T,f,hgl,hx⟩,hsz,hag,hK⟩:=h;obtain⟨hh,hno⟩:=hO.glb g _ (by rw[hg]; exact hgl);have hrep:x.rep w (own ρ) cs:=D.isC_rep x cs hx;have hr:(V.d (.ref x)).rep w ρ (.pointer (some ⟨g,0,none⟩)):=Ux.2 ⟨⟨g,0,none⟩,cs,rfl,rfl,⟨fun _=>⟨rfl,hno,Xi hh⟩,fun i hi=>by simp[World.cell?,hh,hi]⟩,hrep⟩;let a2:Act:=⟨#[.pointer (some ⟨g,0,none⟩)],[]⟩
 have hs2:SM w ρ [(0,.d (.ref x))] a2:=by
  intro k;simp only[look];split
  ·rename_i e; subst e; exact hr
  ·exact Q4
 obtain⟨v,y,hK2,hr2,hrun⟩:=Qe (P:=P.p) (K:=fun v=>v=V.d x) (a:=a2) (n:=n) (ag:=ag) (x:=.t 0) (op:=.load t (.tmp 0)) hs2 hO (by simp[C.chk,h1,h2,h3,A.chk]) (by simp[A.ev,look,ldK,hsz,hag]);subst hK2;refine X0 (fun o ho=>?_) hK hr2 hO (Tr.refl _ _)
 have:=hrun ⟨none,.load t (.tmp 0),0, "", #[],none⟩ rfl w (fun _=>Ext.refl w)
 simp only[execOp,Act.eval,a2]at this;simp only[execOp,ho,hop,Act.eval];simpa using this

theorem Xzs (zs:List Value)(hz:zs.length ≠ 0):∀n:Nat,((Array.range (n*zs.length)).map (fun i=>zs.toArray[i % zs.toArray.size]!))=((List.replicate n zs).flatten).toArray:=by
 intro n;apply Array.ext';simp only[Array.toList_map,Array.toList_range,List.toList_toArray];induction n with
 | zero=>simp
 | succ n ih=>
  rw[List.replicate_succ,List.flatten_cons,<-ih,Nat.succ_mul,Nat.add_comm,List.range_add,Uca,List.map_map];congr 1
  ·apply List.ext_getElem
   ·simp
   ·intro i h1 h2;simp only[List.length_map,List.length_range]at h1;simp[Nat.mod_eq_of_lt h1,h1]
  ·apply List.map_congr_left;intro i _;simp

theorem X2o (hs:SM w ρ sl a)(hO:OM w ρ ob){op:Op}{E sz B:Nat}{z:D}{l:A}(hc:I.chk P op (.mks E sz B z l)=true)(h:Ysm E sz B z ob K (l.ev sl)):Qr P a w ρ op K Pn:=by
 cases op<;>simp only[I.chk,Uah]at hc;rename_i t x y;simp only[Uai,bne_iff_ne,ne_eq,Ubn]at hc;obtain⟨⟨⟨⟨⟨⟨⟨h1,h2⟩,h3⟩,h4⟩,h5⟩,h6⟩,h7⟩,h8⟩:=hc;have ht:P.underlying t=some (.slice E):=by
  revert h3; split
  ·rename_i e he; intro h; simp at h; subst h; exact he
  ·intro h; cases h
 obtain⟨info,hi,hi1,hi2⟩:∃info,P.info? E=some info/\info.size=sz/\info.bytes=B:=by
  revert h4; split
  ·rename_i i hi; intro h; simp at h; exact⟨i,hi,h.1,h.2⟩
  ·intro h; cases h
 obtain⟨cs,hzt,hzc,hzl⟩:∃cs,Ql P E=some cs/\D.isC z cs=true/\cs.length=sz:=by
  revert h7; split
  ·rename_i cs hz; intro h; simp at h; exact⟨cs,hz,h.1,h.2⟩
  ·intro h; cases h
 have r1:=A.sound hs h1;have r2:=A.sound hs h2;unfold Ysm at h;split at h
 ·rename_i m e1;obtain⟨hm0,hmB,hK⟩:=h;rw[e1,X7]at r1 r2;have hmle:m<=281474976710656:=by
   have:m*1<=m*(B:Int):=Int.mul_le_mul_of_nonneg_left (by omega) hm0;omega
  have hwr:IntKind.i64.wrap m=m:=by
   have e0:m % (2 ^ IntKind.i64.bits:Int)=m:=Int.emod_eq_of_lt hm0 (by show m<2 ^ 64; omega);have e2:¬m≥(2 ^ (IntKind.i64.bits-1):Int):=by show ¬m≥2 ^ 63; omega
   simp only[IntKind.wrap,e0,e2,decide_false,Bool.and_false,Uah,Uay]
  obtain⟨zv,ez,_,hzrun⟩:=Qh hzt;have hti:∀w',(typeInfo E).run P w'=.ok info w':=fun w'=>by simp[typeInfo,hi]
  have hsz:Ye P E=some sz:=by simp[Ye,hi,hi1]
  have he2:=Zd w (.cells ((List.replicate m.toNat cs).flatten).toArray E);have hbl:∀b,(RO.arr w.heap.size m.toNat m.toNat).blk? = some b->w.heap.size<=b:=fun b hb=>by simp[RO.blk?]at hb; omega
  have hfree:=X2 ob;have t1:=W6 _ he2 (o:=.arr w.heap.size m.toNat m.toNat) (hO.free hfree) hbl;have hrows:∀n,D.repL w (own ρ) (List.replicate n z) (List.replicate n cs).flatten:=by
   intro n;induction n with
   | zero=>simp[D.repL]
   | succ n ih=>simp only[List.replicate_succ,List.flatten_cons,D.repL]; exact⟨cs,_,rfl,D.isC_rep z cs hzc,ih⟩
  refine X0 (v:=.slice (some ⟨w.heap.size,0,none⟩) m.toNat m.toNat) (fun o ho=>?_) hK (Yj.2 ⟨_,by simp[Env.ins]; rfl,?_⟩) (hO.ins he2 hfree hbl ?_) t1
  ·have hb1:¬((B:Int)*m > 2 ^ 48):=by rw[Int.mul_comm]; omega
   have hg:∀n,(Array.range n).map (fun i=>zv.cells[i % zv.cells.size]!)=(Array.range n).map (fun i=>cs.toArray[i % cs.toArray.size]!):=fun n=>by
    have:zv.cells=cs.toArray:=by rw[<-ez]
    rw[this]
   have hcond:(decide (m<0)||decide ((B:Int)*m > 2 ^ 48)||decide (m<0)||decide (m > m))=false:=by
    simp only[Ucb,Ucc]; omega
   simp only[execOp,ho,Instr.makeSlice,Sem.run_bind,Xd ht,Result.andThen_ok,r1,r2,asInt,asIntOf,Sem.run_pure,hti,hi2,hwr,hcond,Uah,Uay,run_askRoom,Xu hsz];by_cases h0:m.toNat=0
   ·have e0:(Array.map (fun x=>(#[]:Array Value)[x % (#[]:Array Value).size]!) (Array.range 0))=(List.replicate 0 cs).flatten.toArray:=by simp
    simp only[h0,Nat.zero_mul,Ubb,Sem.run_pure,Result.andThen_ok,newRow,Sem.run_bind,run_newObj];rw[e0]; rfl
   ·have h00:m.toNat*sz ≠ 0:=Nat.mul_ne_zero h0 h5;simp only[h00,Uay,Sem.run_bind,hzrun,Result.andThen_ok,Sem.run_pure,newRow,run_newObj,hg];have:=Xzs cs (by rw[hzl]; exact h5) m.toNat;rw[hzl]at this;rw[this];rfl
  ·simp[RO.slice]
  ·refine .inr ⟨w.heap.size,m.toNat,(List.replicate m.toNat cs).flatten,[],by simp[Env.ins],by simpa using Zm w (.cells ((List.replicate m.toNat cs).flatten).toArray E),D.repL_mono t1.mono _ _ (hrows _),fun x hx=>by rw[List.eq_of_mem_replicate hx]; exact h8,?_⟩;simp[hzl]
 ·exact h.elim

theorem X9x (h:OM w ρ ob){id E sz k b cap:Nat}{xs:List D}(hl:Xc ob id=some (.arr E sz xs))(hr:ρ.m id=some (.arr b xs.length cap))(hk:k<=xs.length)(hsz:sz ≠ 0) :
  Tr w ρ w ((ρ.ins id .gone).ins (Xa ob) (.arr b k cap))/\OM w ((ρ.ins id .gone).ins (Xa ob) (.arr b k cap)) ((Xa ob,.arr E sz (xs.take k))::setO ob id .gone):=by
 have hne:id ≠ Xa ob:=fun e=>by rw[e,X2]at hl; cases hl
 have hfm:ρ.m (Xa ob)=none:=h.free (X2 ob);let ρ1:=(ρ.ins id .gone).ins (Xa ob) (.arr b k cap);have hm1:ρ1.m (Xa ob)=some (.arr b k cap):=by simp[ρ1,Env.ins]
 have hm2:ρ1.m id=some .gone:=by simp[ρ1,Env.ins,hne]
 have hm3:∀j,j ≠ Xa ob->j ≠ id->ρ1.m j=ρ.m j:=fun j h1 h2=>by simp[ρ1,Env.ins,h1,h2]
 have t1:Tr w ρ w ρ1:=by
  refine⟨Uak _,fun _ _ _=>rfl,fun c hc=>.inl ?_,rfl,rfl,fun j o hj=>?_,rfl,rfl,rfl,Uak _⟩
  ·obtain⟨j,o,h1,h2⟩:=hc;by_cases e1:j=Xa ob
   ·subst e1; rw[hm1]at h1; cases h1; simp[RO.blk?]at h2; subst h2; exact⟨id,_,hr,rfl⟩
   ·by_cases e2:j=id
    ·subst e2; rw[hm2]at h1; cases h1; simp[RO.blk?]at h2
    ·rw[hm3 j e1 e2]at h1; exact⟨j,o,h1,h2⟩
  ·by_cases e1:j=Xa ob
   ·subst e1; rw[hfm]at hj; cases hj
   ·by_cases e2:j=id
    ·subst e2; exact⟨_,hm2,.gone o⟩
    ·exact⟨o,by rw[hm3 j e1 e2]; exact hj,.refl o⟩
 refine⟨t1,⟨fun j y hy=>?_,fun j o hj=>?_,fun i j p q c h1 h2 h3 h4=>?_,h.xlt,Jj t1 h.glb,fun c hc=>?_,⟨?_,h.once.set⟩⟩⟩
 ·simp only[Xc]at hy;split at hy
  ·rename_i e; subst e; simp only[Uaq]at hy; subst hy;rcases h.one id _ hl with⟨q,_⟩ | ⟨b',cap',cs,sp,g1,g2,g3,g4,g5⟩
   ·rw[hr]at q; cases q
   ·rw[hr]at g1; simp only[Uaq,RO.arr.injEq]at g1;obtain⟨rfl,_,rfl⟩:=g1;have g3':=D.repL_mono t1.mono _ _ g3;have q1:=(D.repL_split xs k cs g3').1;generalize hcn:D.szs (xs.take k)=cn at q1;refine .inr ⟨b,cap,cs.take cn,cs.drop cn++sp,by rw[hm1]; simp[Ua8 hk],by rw[<-Uav,Uao]; exact g2,q1,fun x hx=>g4 x (Ua6 hx),by rw[<-Uav,Uao]; exact g5⟩
  ·rename_i e1;rw[Xs ob id j ⟨_,hl⟩]at hy;split at hy
   ·rename_i e; subst e; simp at hy; subst hy; exact hm2
   ·rename_i e2;exact V6.tr t1 (h.one j y hy) (hm3 j (fun e=>e1 e.symm) e2) (fun _ _ _ _=>rfl)
 ·simp only[Xc];split
  ·exact⟨_,rfl⟩
  ·rename_i e1;rw[Xs ob id j ⟨_,hl⟩];split
   ·exact⟨_,rfl⟩
   ·rename_i e2; exact h.dom j o (by rw[<-hm3 j (fun e=>e1 e.symm) e2]; exact hj)
 ·have back:∀{j:Nat} {o:RO} {c:Nat},ρ1.m j=some o->o.blk? = some c->∃j' o',ρ.m j'=some o'/\o'.blk? = some c/\(j=if j'=id then Xa ob else j'):=by
   intro j o c h1 h2;by_cases e1:j=Xa ob
   ·subst e1; rw[hm1]at h1; cases h1; simp[RO.blk?]at h2; subst h2; exact⟨id,_,hr,rfl,by simp⟩
   ·by_cases e2:j=id
    ·subst e2; rw[hm2]at h1; cases h1; simp[RO.blk?]at h2
    ·rw[hm3 j e1 e2]at h1; exact⟨j,o,h1,h2,by simp[e2]⟩
  obtain⟨i',p',a1,a2,a3⟩:=back h1 h3;obtain⟨j',q',b1,b2,b3⟩:=back h2 h4;have:=h.inj i' j' p' q' c a1 b1 a2 b2;subst this; rw[a3,b3]
 ·rcases t1.owns c hc with hc | hc
  ·exact h.xdis c hc
  ·intro hx; have:=h.xlt c hx; omega
 ·exact Xds ob _ (X2 ob)

theorem X2t (hs:SM w ρ sl a)(hO:OM w ρ ob){op:Op}{z:Nat}{x hh:A}(hc:I.chk P op (.trn z x hh)=true)(h:X51 z ob K (x.ev sl) (hh.ev sl)):Qr P a w ρ op K Pn:=by
 cases op<;>simp only[I.chk,Uah]at hc;rename_i t x1 lo hi mx;cases lo<;>cases hi<;>cases mx<;>(try simp only[Uah]at hc)
 ·rename_i h1;simp only[Uai]at hc;obtain⟨⟨h0,hx⟩,hy⟩:=hc;obtain⟨E,ht,he,hz⟩:∃E,P.underlying t=some (.slice E)/\Ye P E=some z/\z ≠ 0:=by
   revert h0; split
   ·rename_i e he; intro h; simp at h; exact⟨e,he,h.1,h.2⟩
   ·intro h; cases h
  have r1:=A.sound hs hx;have r2:=A.sound hs hy;unfold X51 at h;split at h
  ·rename_i id n m e1 e2;rw[e1,Yj]at r1;rw[e2,X7]at r2;obtain⟨o,g1,g2⟩:=r1;unfold Ysy at h;split at h
   ·rename_i E' sz xs hl;obtain⟨rfl,rfl,hne,⟨hm0,hmn⟩,hK⟩:=h;rcases hO.one id _ hl with⟨_,q2⟩ | ⟨b,cap,cs,sp,q1,q2,q3,q4,q5⟩
    ·exact absurd q2 hne
    ·rw[g1]at q1; cases q1;simp only[RO.slice]at g2;have e3:a.eval x1=.slice (some ⟨b,0,none⟩) xs.length cap:=by simpa using g2.2.2
     have hcap:xs.length<=cap:=by
      have e4:cs.length=xs.length*sz:=by rw[D.repL_len _ _ q3,D.szs_uniform _ q4]
      have e5:xs.length*sz<=cap*sz:=by rw[<-q5,Uar]; omega
      exact Ubv e5 (by omega)
     obtain⟨t1,o1⟩:=X9x hO (k:=m.toNat) hl g1 (by omega) hz;refine X0 (v:=.slice (some ⟨b,0,none⟩) m.toNat cap) (fun o ho=>?_) hK (Yj.2 ⟨.arr b m.toNat cap,by simp[Env.ins],?_⟩) o1 t1
     ·have hsb:(Instr.sliceBound (.int .i64 m) cap .sliceAcap).run P w=.ok m.toNat w:=by
       simp only[Instr.sliceBound,asIntOf,Sem.run_bind,Sem.run_pure,Result.andThen_ok];rw[Uby ⟨hm0,by omega⟩]; simp
      simp[execOp,ho,Instr.sliceAt,Instr.slice,e3,r2,Xd ht,Instr.sliceBounds,hsb,Xu he,Addr.add]
     ·simp[RO.slice]
   ·exact h.elim
  ·exact h.elim

theorem I.sound {P:Prg}(hg:ρ.gl=P.g)(hs:SM w ρ sl a)(hO:OM w ρ ob){op:Op}:∀{i:I},i.chk P.p op=true->i.wp P sl ob K Pn->Qr P.p a w ρ op K Pn
 | .c _,hc,h=>Yha hs hO hc h
 | .box _ _,hc,h=>(Xi6 hs hO hc h).does
 | .alloc _ _,hc,h=>(Xcw hO hc h).does
 | .bls _ _ _,hc,h=>(Xou hs hO hc h).does hO
 | .blo _ _ _ _,hc,h=>(Xi4 hs hO hc h).does
 | .st _ _ _,hc,h=>X93 hs hO hc h
 | .app _ _ _ _ _,hc,h=>X2f hs hO hc h
 | .appS _ _ _ _,hc,_=>absurd hc (by simp[I.chk])
 | .call _ _,hc,h=>Xvi hg hs hO hc h
 | .pcall _ _,hc,h=>(Xcv hg hs hO hc h).does hO
 | .callv _ _,hc,h=>Xrt hg hs hO hc h
 | .panic _,hc,h=>Xru hs hO hc h
 | .b2s _,hc,_=>absurd hc (by simp[I.chk])
 | .s2b _,hc,_=>absurd hc (by simp[I.chk])
 | .nilo _ _ _,hc,h=>Xvk hs hO hc h
 | .mvf _,hc,h=>X2p hs hO hc h
 | .ldf _ _ _,hc,h=>X2k hs hO hc h
 | .mvg _ _ _ _ _,hc,h=>X2q hs hO hc h
 | .mvn _ _ _,hc,h=>X2r hs hO hc h
 | .cvb _,hc,h=>X2h hs hO hc h
 | .ustr _ _ _,hc,_=>absurd hc (by simp[I.chk])
 | .mkm _,hc,h=>X2n hs hO hc h
 | .lkp _ _ _ _ _,hc,h=>X2m hs hO hc h
 | .mset _ _ _ _,hc,h=>Xvj hs hO hc h
 | .gld _ _ _ _,hc,h=>X2i hg hO hc h
 | .slg _ _ _,hc,_=>absurd hc (by simp[I.chk])
 | .blv _ _ _ _,hc,h=>(Xi5 hs hO hc h).does
 | .apv _ _ _ _ _,hc,h=>X2g hs hO hc h
 | .gv _,hc,_=>absurd hc (by simp[I.chk])
 | .ldg _ _ _,hc,h=>X2l hs hO hc h
 | .slb _ _ _ _ _,hc,_=>absurd hc (by simp[I.chk])
 | .cpy _ _ _,hc,_=>absurd hc (by simp[I.chk])
 | .clr _ _ _,hc,_=>absurd hc (by simp[I.chk])
 | .gix _ _ _ _ _,hc,_=>absurd hc (by simp[I.chk])
 | .rng _,hc,h=>(Xi7 hs hO hc h).does
 | .nxt _,hc,h=>X2s hs hO hc h
 | .ety _,hc,h=>(Xov hs hO hc h).does hO
 | .lenM _,hc,h=>(Xik hs hO hc h).does hO
 | .isn _ _ _,hc,h=>(Xow hs hO hc h).does hO
 | .inv _ _ _ _ _ _,hc,h=>X2j hg hs hO hc h
 | .mks _ _ _ _ _,hc,h=>X2o hs hO hc h
 | .trn _ _ _,hc,h=>X2t hs hO hc h
 | .xcall _ _,hc,h=>(Xcx hg hs hO hc h).does
 | .boxr _ _,hc,h=>(Xij hs hO hc h).does hO

def I.kind:I->Nat
 | .c cc=>if cc.isLdd then 5 else if cc.isLd then 1 else 0
 | .boxr _ _ | .bls _ _ _ | .s2b _ | .pcall _ _ | .gix _ _ _ _ _ | .ety _ | .lenM _ | .isn _ _ _=>2
 | .box _ _ | .alloc _ _ | .blo _ _ _ _ | .blv _ _ _ _ | .rng _ | .xcall _ _=>4
 | _=>3

theorem I.soundE {P:Prg}(hg:ρ.gl=P.g)(hs:SM w ρ sl a)(hO:OM w ρ ob){op:Op}:∀{i:I},i.kind=2->i.chk P.p op=true->i.wp P sl ob K Pn->Xtm P.p a w ρ op ob K
 | .bls _ _ _,_,hc,h=>(Xou hs hO hc h).doesE
 | .gix _ _ _ _ _,_,hc,_=>absurd hc (by simp[I.chk])
 | .s2b _,_,hc,_=>absurd hc (by simp[I.chk])
 | .pcall _ _,_,hc,h=>Xcv hg hs hO hc h
 | .ety _,_,hc,h=>(Xov hs hO hc h).doesE
 | .lenM _,_,hc,h=>(Xik hs hO hc h).doesE
 | .isn _ _ _,_,hc,h=>(Xow hs hO hc h).doesE
 | .boxr _ _,_,hc,h=>(Xij hs hO hc h).doesE
 | .c cc,hk,_,_=>by exfalso; simp only[I.kind]at hk; revert hk; cases cc.isLdd<;>cases cc.isLd<;>simp
 | .xcall _ _,hk,_,_ | .rng _,hk,_,_ | .nxt _,hk,_,_ | .inv _ _ _ _ _ _,hk,_,_ | .mks _ _ _ _ _,hk,_,_ | .trn _ _ _,hk,_,_ | .box _ _,hk,_,_ | .alloc _ _,hk,_,_ | .blo _ _ _ _,hk,_,_ | .st _ _ _,hk,_,_ | .app _ _ _ _ _,hk,_,_ | .appS _ _ _ _,hk,_,_ | .call _ _,hk,_,_ | .callv _ _,hk,_,_ | .panic _,hk,_,_ | .b2s _,hk,_,_ | .nilo _ _ _,hk,_,_ | .mvf _,hk,_,_ | .ldf _ _ _,hk,_,_ | .mvg _ _ _ _ _,hk,_,_ | .mvn _ _ _,hk,_,_ | .cvb _,hk,_,_ | .ustr _ _ _,hk,_,_ | .mkm _,hk,_,_ | .lkp _ _ _ _ _,hk,_,_ | .mset _ _ _ _,hk,_,_ | .gld _ _ _ _,hk,_,_ | .slg _ _ _,hk,_,_ | .blv _ _ _ _,hk,_,_ | .apv _ _ _ _ _,hk,_,_ | .gv _,hk,_,_ | .ldg _ _ _,hk,_,_ | .slb _ _ _ _ _,hk,_,_ | .cpy _ _ _,hk,_,_ | .clr _ _ _,hk,_,_=>by simp[I.kind]at hk
theorem I.soundX {P:Prg}(hg:ρ.gl=P.g)(hs:SM w ρ sl a)(hO:OM w ρ ob){op:Op}:∀{i:I},i.kind=4->i.chk P.p op=true->i.wp P sl ob K Pn->Xd6 P.p a w ρ op K
 | .xcall _ _,_,hc,h=>Xcx hg hs hO hc h
 | .box _ _,_,hc,h=>Xi6 hs hO hc h
 | .alloc _ _,_,hc,h=>Xcw hO hc h
 | .blo _ _ _ _,_,hc,h=>Xi4 hs hO hc h
 | .blv _ _ _ _,_,hc,h=>Xi5 hs hO hc h
 | .rng _,_,hc,h=>Xi7 hs hO hc h
 | .c cc,hk,_,_=>by exfalso; simp only[I.kind]at hk; revert hk; cases cc.isLdd<;>cases cc.isLd<;>simp
 | .boxr _ _,hk,_,_ | .nxt _,hk,_,_ | .ety _,hk,_,_ | .lenM _,hk,_,_ | .isn _ _ _,hk,_,_ | .inv _ _ _ _ _ _,hk,_,_ | .mks _ _ _ _ _,hk,_,_ | .trn _ _ _,hk,_,_ | .bls _ _ _,hk,_,_ | .s2b _,hk,_,_ | .pcall _ _,hk,_,_ | .st _ _ _,hk,_,_ | .app _ _ _ _ _,hk,_,_ | .appS _ _ _ _,hk,_,_ | .call _ _,hk,_,_ | .callv _ _,hk,_,_ | .panic _,hk,_,_ | .b2s _,hk,_,_ | .nilo _ _ _,hk,_,_ | .mvf _,hk,_,_ | .ldf _ _ _,hk,_,_ | .mvg _ _ _ _ _,hk,_,_ | .mvn _ _ _,hk,_,_ | .cvb _,hk,_,_ | .ustr _ _ _,hk,_,_ | .mkm _,hk,_,_ | .lkp _ _ _ _ _,hk,_,_ | .mset _ _ _ _,hk,_,_ | .gld _ _ _ _,hk,_,_ | .slg _ _ _,hk,_,_ | .apv _ _ _ _ _,hk,_,_ | .gv _,hk,_,_ | .ldg _ _ _,hk,_,_ | .slb _ _ _ _ _,hk,_,_ | .cpy _ _ _,hk,_,_ | .clr _ _ _,hk,_,_ | .gix _ _ _ _ _,hk,_,_=>by simp[I.kind]at hk
end
end Go.Ab
