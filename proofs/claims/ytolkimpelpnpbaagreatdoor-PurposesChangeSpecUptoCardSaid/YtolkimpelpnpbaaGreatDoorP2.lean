/- Texts of this claim joined by a program, part 2 of 20; the last is: That append does what Ab9 says of it. Over any program; no condition. -/
import Derived.Test.YtolkimpelpnpbaaGreatDoorP1
set_option linter.unusedSimpArgs false
set_option linter.unusedVariables false
set_option linter.unusedSectionVars false
set_option linter.defProp false
namespace Go.Ab
open Go

def Xa:Xb->Nat
 | []=>0
 | (j,_)::r=>if Xa r<=j then j+1 else Xa r
theorem X1:∀(ob:Xb) (j:Nat),Xa ob<=j->Xd ob j=none
 | [],_,_=>rfl
 | (i,o)::r,j,h=>by
  simp only[Xa]at h;simp only[Xd];split at h
  ·rw[Ubo (by omega)]; exact X1 r j (by omega)
  ·rw[Ubo (by omega)]; exact X1 r j h
theorem X2 (ob:Xb):Xd ob (Xa ob)=none:=X1 ob _ (Uak _)

def Ynm (ob:Xb)(id n:Nat):Option Ob->Option (D×Xb)
 | some (.arr _ sz xs)=>if sz ≠ 0/\n=xs.length then some (.list sz xs,setO ob id .gone) else none
 | _=>none
def X6f:Option (List D×Xb)->Option (D×Xb)
 | some (l,ob)=>some (.agg l,ob)
 | none=>none
def Ylu (t:Nat):Option (D×Xb)->Option (D×Xb)
 | some (x,ob)=>some (.iface t x,ob)
 | none=>none
def fnG (f:Nat)(ob:Xb):Option (List D)->Option (List D)->Option (D×Xb)
 | some l,some m=>some (.fn f l m,ob)
 | _,_=>none
def Xca (x:D):Option (List D×Xb)->Option (List D×Xb)
 | some (l,ob)=>some (x::l,ob)
 | none=>none
mutual
def V.giv (ob:Xb):V->Option (D×Xb)
 | .d x=>some (x,ob)
 | .sl id n=>Ynm ob id n (Xd ob id)
 | .agg xs=>X6f (Rbv ob xs)
 | .iface t x=>Ylu t (V.giv ob x)
 | .fn f a b=>fnG f ob (Ra5 a) (Ra5 b)
 | _=>none
def Rbv (ob:Xb):List V->Option (List D×Xb)
 | []=>some ([],ob)
 | x::r=>match V.giv ob x with
  | some (y,ob1)=>Xca y (Rbv ob1 r)
  | none=>none
end

section
variable {w:World}
theorem Xku {ρ:Env}{f:Nat}{a b:List V}{ob ob':Xb}{d:D}{cs:List Value}(h:(V.fn f a b).repC w ρ cs)(e:fnG f ob (Ra5 a) (Ra5 b)=some (d,ob')):ob'=ob/\d.rep w (own ρ) cs/\d.isAgg=false:=by
 cases ha:Ra5 a with
 | none=>simp[ha,fnG]at e
 | some l=>
  cases hb:Ra5 b with
  | none=>simp[ha,hb,fnG]at e
  | some m=>
   simp only[ha,hb,fnG,Uaq,Ub0]at e;obtain⟨rfl,rfl⟩:=e;have h1:=V.allD_map ha;have h2:=V.allD_map hb;subst h1; subst h2;simp only[V.repC]at h;obtain⟨fs,gs,e1,h3,h4⟩:=h;exact⟨rfl,by simp only[D.rep]; exact⟨fs,gs,e1,Xb6.1 h3,Xb6.1 h4⟩,rfl⟩
mutual
theorem Rbw:∀(v:V) (ob:Xb) (ρ:Env) (cs:List Value) (d:D) (ob':Xb),OM w ρ ob->v.repC w ρ cs->V.giv ob v=some (d,ob')->
  ∃ρ',Tr w ρ w ρ'/\OM w ρ' ob'/\d.rep w (own ρ') cs/\d.isAgg=v.isAgg
 | .d x,ob,ρ,cs,dd,ob',hO,h,e=>by
  simp only[V.giv,Uaq,Ub0]at e;obtain⟨rfl,rfl⟩:=e;exact⟨ρ,Tr.refl _ _,hO,by simpa only[V.repC]using h,by cases x<;>rfl⟩
 | .sl id n,ob,ρ,cs,dd,ob',hO,h,e=>by
  simp only[V.giv]at e;unfold Ynm at e;split at e
  ·rename_i E sz xs hl;split at e
   ·rename_i hc;simp only[Uaq,Ub0]at e;obtain⟨rfl,rfl⟩:=e;obtain⟨hsz,rfl⟩:=hc;obtain⟨t1,o1,_⟩:=Xha hO ⟨_,hl⟩;have h0:=h;simp only[V.repC]at h0;obtain⟨o,u,h1,rfl,h2⟩:=h0;have:=J3 hO hl hsz (u:=u) (by rw[Yl]; exact⟨o,h1,h2⟩);refine⟨_,t1,o1,?_,rfl⟩;rw[Wj (by simp[V.isAgg]) (by simp)]at this;simpa only[V.repC]using this
   ·cases e
  ·cases e
 | .agg xs,ob,ρ,cs,dd,ob',hO,h,e=>by
  simp only[V.giv]at e;cases hg:Rbv ob xs with
  | none=>simp[hg,X6f]at e
  | some r=>
   obtain⟨l,ob1⟩:=r;simp only[hg,X6f,Uaq,Ub0]at e;obtain⟨rfl,rfl⟩:=e;simp only[V.repC]at h;obtain⟨ρ',t,o,hr⟩:=Rbx xs ob ρ cs l ob1 hO h hg;exact⟨ρ',t,o,by simpa only[D.rep]using hr,rfl⟩
 | .iface t x,ob,ρ,cs,dd,ob',hO,h,e=>by
  simp only[V.giv]at e;cases hg:V.giv ob x with
  | none=>simp[hg,Ylu]at e
  | some r=>
   obtain⟨y,ob1⟩:=r;simp only[hg,Ylu,Uaq,Ub0]at e;obtain⟨rfl,rfl⟩:=e;simp only[V.repC]at h;obtain⟨u,e1,h1⟩:=h;rcases h1 with h1 | ⟨p,ds,q,r⟩ | ⟨p,r⟩
   ·subst h1; simp[V.giv]at hg
   ·obtain⟨ρ',t1,o,hr,ha⟩:=Rbw x ob ρ ds y ob1 hO r hg;exact⟨ρ',t1,o,by simp only[D.rep]; exact⟨u,e1,.inl ⟨by rw[ha]; exact p,ds,q,hr⟩⟩,rfl⟩
   ·obtain⟨ρ',t1,o,hr,ha⟩:=Rbw x ob ρ [u] y ob1 hO r hg;exact⟨ρ',t1,o,by simp only[D.rep]; exact⟨u,e1,.inr ⟨by rw[ha]; exact p,hr⟩⟩,rfl⟩
 | .fn f a b,ob,ρ,cs,dd,ob',hO,h,e=>by
  simp only[V.giv]at e;obtain⟨rfl,h1,h2⟩:=Xku h e;exact⟨ρ,Tr.refl _ _,hO,h1,by rw[h2]; rfl⟩
 | .ptr _ _,_,_,_,_,_,_,_,e | .sd _ _,_,_,_,_,_,_,_,e | .mp _,_,_,_,_,_,_,_,e | .hd _ _,_,_,_,_,_,_,_,e | .ep _ _ _ _ _ _,_,_,_,_,_,_,_,e | .bs _ _ _ _,_,_,_,_,_,_,_,e | .tup _,_,_,_,_,_,_,_,e | .undef,_,_,_,_,_,_,_,e | .any,_,_,_,_,_,_,_,e=>by simp[V.giv]at e
theorem Rbx:∀(vs:List V) (ob:Xb) (ρ:Env) (cs:List Value) (l:List D) (ob':Xb),OM w ρ ob->Rap w ρ vs cs->Rbv ob vs=some (l,ob')->
  ∃ρ',Tr w ρ w ρ'/\OM w ρ' ob'/\Rac w (own ρ') l cs
 | [],ob,ρ,cs,l,ob',hO,h,e=>by
  simp only[Rbv,Uaq,Ub0]at e;obtain⟨rfl,rfl⟩:=e;exact⟨ρ,Tr.refl _ _,hO,by simpa only[Rap,Rac]using h⟩
 | x::r,ob,ρ,cs,l,ob',hO,h,e=>by
  simp only[Rbv]at e;simp only[Rap]at h;obtain⟨c1,c2,rfl,h1,h2⟩:=h;split at e
  ·rename_i dd ob1 hg;obtain⟨ρ1,t1,o1,hr,_⟩:=Rbw x ob ρ c1 dd ob1 hO h1 hg;cases hg2:Rbv ob1 r with
   | none=>simp[hg2,Xca]at e
   | some q=>
    obtain⟨l2,ob2⟩:=q;simp only[hg2,Xca,Uaq,Ub0]at e;obtain⟨rfl,rfl⟩:=e;obtain⟨ρ2,t2,o2,hr2⟩:=Rbx r ob1 ρ1 c2 l2 ob2 o1 (Rau t1 _ _ h2) hg2;exact⟨ρ2,t1.trans t2,o2,by simp only[Rac]; exact⟨c1,c2,rfl,Rad t2.mono _ _ hr,hr2⟩⟩
  ·cases e
end
theorem Xcr {ρ:Env}{ob ob':Xb}{v:V}{d:D}{u:Value}(hO:OM w ρ ob)(h:v.rep w ρ u)(e:V.giv ob v=some (d,ob')):∃ρ',Tr w ρ w ρ'/\OM w ρ' ob'/\(V.d d).rep w ρ' u:=by
 rcases h with h | ⟨p,ds,q,r⟩ | ⟨p,r⟩
 ·subst h; simp[V.giv]at e
 ·obtain⟨ρ',t1,o,hr,ha⟩:=Rbw v ob ρ ds d ob' hO r e;exact⟨ρ',t1,o,Xao.2 (.inl ⟨by rw[ha]; exact p,ds,q,hr⟩)⟩
 ·obtain⟨ρ',t1,o,hr,ha⟩:=Rbw v ob ρ [u] d ob' hO r e;exact⟨ρ',t1,o,Xao.2 (.inr ⟨by rw[ha]; exact p,hr⟩)⟩
end

def gvL (g:Xb->V->Option (D×Xb)):Xb->List V->Option (List D×Xb)
 | ob,[]=>some ([],ob)
 | ob,x::r=>match g ob x with
  | some (y,ob1)=>Xca y (gvL g ob1 r)
  | none=>none
def gvT (id sz:Nat)(l:List D)(ob:Xb):Option Ob->Option (D×Xb)
 | some (.vec _ _ _)=>some (.list sz l,setO ob id .gone)
 | _=>none
def gvS (id sz:Nat):Option (List D×Xb)->Option (D×Xb)
 | some (l,ob1)=>gvT id sz l ob1 (Xd ob1 id)
 | none=>none
def Zbh (g:Xb->V->Option (D×Xb))(ob:Xb)(id n:Nat):Option Ob->Option (D×Xb)
 | some (.arr _ sz xs)=>if sz ≠ 0/\n=xs.length then some (.list sz xs,setO ob id .gone) else none
 | some (.vec _ sz xs)=>if sz ≠ 0/\n=xs.length then gvS id sz (gvL g ob xs) else none
 | _=>none
def Rby:Nat->Xb->V->Option (D×Xb)
 | 0,_,_=>none
 | k+1,ob,v=>match v with
  | .d x=>some (x,ob)
  | .sl id n=>Zbh (Rby k) ob id n (Xd ob id)
  | .agg xs=>X6f (gvL (Rby k) ob xs)
  | .iface t x=>Ylu t (Rby k ob x)
  | .fn f a b=>fnG f ob (Ra5 a) (Ra5 b)
  | _=>none
section
variable {w:World}
def Zaj (g:Xb->V->Option (D×Xb))(w:World):Prop:=∀(v:V) (ob:Xb) (ρ:Env) (cs:List Value) (d:D) (ob':Xb),OM w ρ ob->v.repC w ρ cs->g ob v=some (d,ob')->
  (∃ρ',Tr w ρ w ρ'/\OM w ρ' ob'/\d.rep w (own ρ') cs/\d.isAgg=v.isAgg)/\∀j,Xd ob' j=Xd ob j\/Xd ob' j=some .gone
theorem Xlo {ob:Xb}{id j:Nat}{x:Ob}(hl:Xd ob id=some x):Xd (setO ob id .gone) j=Xd ob j\/Xd (setO ob id .gone) j=some .gone:=by
 rw[Xs ob id j ⟨_,hl⟩];split
 ·exact .inr rfl
 ·exact .inl rfl
theorem Xdv {g:Xb->V->Option (D×Xb)}(hg:Zaj g w):∀(vs:List V) (ob:Xb) (ρ:Env) (cs:List Value) (l:List D) (ob':Xb),OM w ρ ob->Rap w ρ vs cs->gvL g ob vs=some (l,ob')->
  (∃ρ',Tr w ρ w ρ'/\OM w ρ' ob'/\Rac w (own ρ') l cs/\l.map D.sz=vs.map V.size)/\∀j,Xd ob' j=Xd ob j\/Xd ob' j=some .gone
 | [],ob,ρ,cs,l,ob',hO,h,e=>by
  simp only[gvL,Uaq,Ub0]at e;obtain⟨rfl,rfl⟩:=e;exact⟨⟨ρ,Tr.refl _ _,hO,by simpa only[Rap,Rac]using h,rfl⟩,fun _=>.inl rfl⟩
 | x::r,ob,ρ,cs,l,ob',hO,h,e=>by
  simp only[gvL]at e;simp only[Rap]at h;obtain⟨c1,c2,rfl,h1,h2⟩:=h;split at e
  ·rename_i dd ob1 hq;obtain⟨⟨ρ1,t1,o1,hr,_⟩,k1⟩:=hg x ob ρ c1 dd ob1 hO h1 hq;cases hg2:gvL g ob1 r with
   | none=>simp[hg2,Xca]at e
   | some q=>
    obtain⟨l2,ob2⟩:=q;simp only[hg2,Xca,Uaq,Ub0]at e;obtain⟨rfl,rfl⟩:=e;obtain⟨⟨ρ2,t2,o2,hr2,hs2⟩,k2⟩:=Xdv hg r ob1 ρ1 c2 l2 ob2 o1 (Rau t1 _ _ h2) hg2;refine⟨⟨ρ2,t1.trans t2,o2,by simp only[Rac]; exact⟨c1,c2,rfl,Rad t2.mono _ _ hr,hr2⟩,?_⟩,fun j=>?_⟩
    ·simp only[Uam,hs2,Ua1,Ua2];rw[<-Rag _ _ hr,Ra0 _ _ h1]; rfl
    ·rcases k2 j with k2 | k2
     ·rw[k2]; exact k1 j
     ·exact .inr k2
  ·cases e
theorem Xt3 {ρ:Env}{id n:Nat}{cs:List Value}(h:(V.sl id n).repC w ρ cs):∃o u,ρ.m id=some o/\cs=[u]/\o.slice n u:=by
 simpa only[V.repC]using h
theorem Xk3:∀(k:Nat),Zaj (Rby k) w
 | 0=>fun v ob ρ cs d ob' _ _ e=>by simp[Rby]at e
 | k+1=>fun v ob ρ cs dd ob' hO h e=>by
  have ih:=Xk3 k;cases v with
  | d x=>
   simp only[Rby,Uaq,Ub0]at e;obtain⟨rfl,rfl⟩:=e;exact⟨⟨ρ,Tr.refl _ _,hO,by simpa only[V.repC]using h,by cases x<;>rfl⟩,fun _=>.inl rfl⟩
  | agg xs=>
   simp only[Rby]at e;cases hg:gvL (Rby k) ob xs with
   | none=>simp[hg,X6f]at e
   | some r=>
    obtain⟨l,ob1⟩:=r;simp only[hg,X6f,Uaq,Ub0]at e;obtain⟨rfl,rfl⟩:=e;simp only[V.repC]at h;obtain⟨⟨ρ',t,o,hr,_⟩,hk⟩:=Xdv ih xs ob ρ cs l ob1 hO h hg;exact⟨⟨ρ',t,o,by simpa only[D.rep]using hr,rfl⟩,hk⟩
  | iface t x=>
   simp only[Rby]at e;cases hg:Rby k ob x with
   | none=>simp[hg,Ylu]at e
   | some r=>
    obtain⟨y,ob1⟩:=r;simp only[hg,Ylu,Uaq,Ub0]at e;obtain⟨rfl,rfl⟩:=e;simp only[V.repC]at h;obtain⟨u,e1,h1⟩:=h;rcases h1 with h1 | ⟨p,ds,q,r⟩ | ⟨p,r⟩
    ·subst h1; cases k<;>simp[Rby]at hg
    ·obtain⟨⟨ρ',t1,o,hr,ha⟩,hk⟩:=ih x ob ρ ds y ob1 hO r hg;exact⟨⟨ρ',t1,o,by simp only[D.rep]; exact⟨u,e1,.inl ⟨by rw[ha]; exact p,ds,q,hr⟩⟩,rfl⟩,hk⟩
    ·obtain⟨⟨ρ',t1,o,hr,ha⟩,hk⟩:=ih x ob ρ [u] y ob1 hO r hg;exact⟨⟨ρ',t1,o,by simp only[D.rep]; exact⟨u,e1,.inr ⟨by rw[ha]; exact p,hr⟩⟩,rfl⟩,hk⟩
  | fn f a b=>
   simp only[Rby]at e;obtain⟨rfl,h1,h2⟩:=Xku h e;exact⟨⟨ρ,Tr.refl _ _,hO,h1,by rw[h2]; rfl⟩,fun _=>.inl rfl⟩
  | sl id n=>
   simp only[Rby]at e;unfold Zbh at e;split at e
   ·rename_i E sz xs hl;split at e
    ·rename_i hc;simp only[Uaq,Ub0]at e;obtain⟨rfl,rfl⟩:=e;obtain⟨hsz,rfl⟩:=hc;obtain⟨t1,o1,_⟩:=Xha hO ⟨_,hl⟩;obtain⟨o,u,h1,rfl,h2⟩:=Xt3 h;have:=J3 hO hl hsz (u:=u) (by rw[Yl]; exact⟨o,h1,h2⟩);refine⟨⟨_,t1,o1,?_,rfl⟩,fun j=>Xlo hl⟩;rw[Wj (by simp[V.isAgg]) (by simp)]at this;simpa only[V.repC]using this
    ·cases e
   ·rename_i E sz xs hl;split at e
    ·rename_i hc;obtain⟨hsz,rfl⟩:=hc;cases hg:gvL (Rby k) ob xs with
     | none=>simp[hg,gvS]at e
     | some r=>
      obtain⟨l,ob1⟩:=r;simp only[hg,gvS]at e;unfold gvT at e;split at e
      ·rename_i E' sz' xs' hl1;simp only[Uaq,Ub0]at e;obtain⟨rfl,rfl⟩:=e;obtain⟨o,u,h1,rfl,h2⟩:=Xt3 h;have fin:∀(ρ1:Env),Tr w ρ w ρ1->OM w ρ1 ob1->Un w ρ1 id (.arr E sz l)->l.length=xs.length->(∀j,Xd ob1 j=Xd ob j\/Xd ob1 j=some .gone)->
         (∃ρ',Tr w ρ w ρ'/\OM w ρ' (setO ob1 id .gone)/\(D.list sz l).rep w (own ρ') [u]/\(D.list sz l).isAgg=(V.sl id xs.length).isAgg)/\∀j,Xd (setO ob1 id .gone) j=Xd ob j\/Xd (setO ob1 id .gone) j=some .gone:=by
        intro ρ1 t1 o1 hm hlen hk;have o2:=o1.swap hl1 hm;have hl2:Xd (setO ob1 id (.arr E sz l)) id=some (.arr E sz l):=by rw[Xs ob1 id id ⟨_,hl1⟩]; simp
        obtain⟨t3,o3,_⟩:=Xha o2 ⟨_,hl2⟩;rw[Xen]at o3;have hv:(V.sl id l.length).rep w ρ1 u:=Raw t1 (by rw[hlen,Yl]; exact⟨o,h1,h2⟩);have h4:=J3 o2 hl2 hsz hv;refine⟨⟨_,t1.trans t3,o3,?_,rfl⟩,fun j=>?_⟩
        ·rw[Wj (by simp[V.isAgg]) (by simp)]at h4;simpa only[V.repC]using h4
        ·rcases Xlo (j:=j) hl1 with h5 | h5
         ·rw[h5]; exact hk j
         ·exact .inr h5
       rcases hO.one id _ hl with⟨hvi,rfl⟩ | ⟨b,cap,cs,sp,g1,g2,g3,g4,g5⟩
       ·simp only[gvL,Uaq,Ub0]at hg;obtain⟨rfl,rfl⟩:=hg;exact fin ρ (Tr.refl _ _) hO (.inl ⟨hvi,rfl⟩) rfl (fun _=>.inl rfl)
       ·obtain⟨⟨ρ1,t1,o1,hr,hs⟩,hk⟩:=Xdv ih xs ob ρ cs l ob1 hO g3 hg;have hlen:l.length=xs.length:=by simpa using Ua4 List.length hs
        have hx':(Ob.vec E' sz' xs')=.vec E sz xs:=by
         rcases hk id with h5 | h5
         ·rw[hl1,hl]at h5; exact Ub1 h5
         ·rw[hl1]at h5; cases h5
        cases hx';obtain⟨o',p1,p2⟩:=t1.same id _ g1;have hρ1:ρ1.m id=some (.arr b xs.length cap):=by
         cases p2 with
         | refl=>exact p1
         | gone=>rcases o1.one id _ hl1 with⟨q1,_⟩ | ⟨_,_,_,_,q1,_⟩<;>(rw[p1]at q1; cases q1)
         | grow hlt hh=>
          rcases hh with⟨hq,_⟩ | ⟨b2,c2,hq⟩
          ·cases hq
          ·simp only[RO.arr.injEq]at hq;rcases o1.one id _ hl1 with⟨q1,_⟩ | ⟨_,_,_,_,q1,_⟩
           ·rw[p1]at q1; cases q1
           ·rw[p1]at q1;simp only[Uaq,RO.arr.injEq]at q1;omega
        refine fin ρ1 t1 o1 (.inr ⟨b,cap,cs,sp,by rw[hlen]; exact hρ1,g2,hr,fun x hx=>?_,g5⟩) hlen hk;have h6:x.sz∈l.map D.sz:=List.mem_map_of_mem hx;rw[hs]at h6;obtain⟨y,hy,h7⟩:=Ua5.1 h6;rw[<-h7]; exact g4 y hy
      ·cases e
    ·cases e
   ·cases e
  | _=>simp[Rby]at e
end

inductive Out where
 | ret (v:V)
 | panic (v:V)

def Xbs (w:World)(ρ:Env):Ending->Out->Prop
 | .returned u,.ret v=>v.rep w ρ u
 | .panicked ch,.panic v=>∃u,ch=[{ v:=u,recovered:=false }]/\v.rep w ρ u
 | _,_=>False

structure Prg where
 p:Program
 g:Gl

structure ACall (P:Prg)(f:Nat)(vs:List V)(ob:Xb)(K:Out->Xb->Prop):Prop where
 run:∀w ρ args,OM w ρ ob->ρ.gl=P.g->V.reps w ρ vs args->Calls P.p f args.toArray w (fun e w'=>∃out ob' ρ',K out ob'/\Xbs w' ρ' e out/\OM w' ρ' ob'/\Tr w ρ w' ρ')

theorem ACall.mono {P:Prg}{f:Nat}{vs:List V}{ob:Xb}{K K':Out->Xb->Prop}(h:ACall P f vs ob K)(hk:∀o b,K o b->K' o b):ACall P f vs ob K':=
 ⟨fun w ρ args ho hg hr=>(h.run w ρ args ho hg hr).mono fun _ _ ⟨out,ob',ρ',k,r⟩=>⟨out,ob',ρ',hk _ _ k,r⟩⟩

structure PCall (P:Prg)(f:Nat)(vs:List V)(ob:Xb)(K:V->Prop):Prop where
 run:∀w ρ args,OM w ρ ob->ρ.gl=P.g->V.reps w ρ vs args->Calls P.p f args.toArray w (fun e w'=>∃v u,K v/\e=.returned u/\v.rep w' ρ u/\Ext w w')

structure XCall (P:Prg)(f:Nat)(vs:List V)(ob:Xb)(K:V->Xb->Prop):Prop where
 run:∀w ρ args,OM w ρ ob->ρ.gl=P.g->V.reps w ρ vs args->Calls P.p f args.toArray w (fun e w'=>∃v ob' ρ' u,K v ob'/\e=.returned u/\v.rep w' ρ' u/\OM w' ρ' ob'/\Tr w ρ w' ρ'/\Ext w w')
theorem XCall.mono {P:Prg}{f:Nat}{vs:List V}{ob:Xb}{K K':V->Xb->Prop}(h:XCall P f vs ob K)(hk:∀v b,K v b->K' v b):XCall P f vs ob K':=
 ⟨fun w ρ args ho hg hr=>(h.run w ρ args ho hg hr).mono fun _ _ ⟨v,b,ρ',u,k,r⟩=>⟨v,b,ρ',u,hk v b k,r⟩⟩
theorem PCall.mono {P:Prg}{f:Nat}{vs:List V}{ob:Xb}{K K':V->Prop}(h:PCall P f vs ob K)(hk:∀v,K v->K' v):PCall P f vs ob K':=
 ⟨fun w ρ args ho hg hr=>(h.run w ρ args ho hg hr).mono fun _ _ ⟨v,u,k,r⟩=>⟨v,u,hk v k,r⟩⟩

theorem Rbz {P:Prg}{f:Nat}{vs:List V}{ob:Xb}{K:Out->Xb->Prop}(h:PCall P f vs ob fun v=>K (.ret v) ob):ACall P f vs ob K:=
 ⟨fun w ρ args ho hg hr=>(h.run w ρ args ho hg hr).mono fun e w' ⟨v,u,k,he,r,x⟩=>by subst he; exact⟨.ret v,ob,ρ,k,r,ho.ext x,x.tr⟩⟩

structure AYield (P:Prg)(id:Nat)(vs:List V)(ob:Xb)(K:Out->Xb->Prop):Prop where
 run:∀w ρ args b,OM w ρ ob->ρ.gl=P.g->V.reps w ρ vs args->ρ.m id=some (.map b)->
  ∃fn tmps assign body,(Instr.yield b args.toArray).run P.p w=.ok (.round b fn tmps assign body) w/\
   RoundIn Fence.wide 0 P.p b fn tmps assign body w (fun e w'=>∃out ob' ρ',K out ob'/\Xbs w' ρ' e out/\OM w' ρ' ob'/\Tr w ρ w' ρ')
theorem AYield.mono {P:Prg}{id:Nat}{vs:List V}{ob:Xb}{K K':Out->Xb->Prop}(h:AYield P id vs ob K)(hk:∀o b,K o b->K' o b):AYield P id vs ob K':=
 ⟨fun w ρ args b ho hg hr hb=>let ⟨fn,tm,a1,a2,h1,h2⟩:=h.run w ρ args b ho hg hr hb; ⟨fn,tm,a1,a2,h1,h2.mono fun _ _ ⟨out,ob',ρ',k,r⟩=>⟨out,ob',ρ',hk _ _ k,r⟩⟩⟩
def Ylv:Option Ob->Prop
 | some (.lp _ _ _)=>True
 | _=>False

def Xm (P:Program)(f:Nat):Bool:=match P.funcs[f]? with
 | some fn=>fn.name != "runtime.NumGoroutine" &&fn.body.isSome
 | none=>false

def Xcx (K Pn:V->Xb->Prop):Out->Xb->Prop
 | .ret v,ob=>K v ob
 | .panic v,ob=>Pn v ob

def Xwg (E:Nat)(ob:Xb)(K:V->Xb->Prop)(v:V):Prop:=v.sto=true/\K (.ptr (Xa ob) []) ((Xa ob,.box E v)::ob)
def Xna (ob:Xb)(K:V->Xb->Prop):V->Prop
 | .d x=>K (.d (.ref x)) ob
 | _=>False
def X44 (ob:Xb)(id:Nat)(p:List Nat)(n E:Nat)(v t:V)(K:V->Xb->Prop):Option V->Prop
 | some old=>v.shape=old.shape/\old.size=n/\v.sto=true/\∃t',t.set p v=some t'/\K .undef (setO ob id (.box E t'))
 | none=>False
def X43 (ob:Xb)(id:Nat)(p:List Nat)(n:Nat)(v:V)(K:V->Xb->Prop):Option Ob->Prop
 | some (.box E t)=>X44 ob id p n E v t K (t.at p)
 | _=>False
def Yyd (ob:Xb)(id i n:Nat)(o:Ob)(v v0:V)(p:List Nat)(K:V->Xb->Prop):Option V->Prop
 | some old=>v.shape=old.shape/\old.size=n/\v.sto=true/\∃t',v0.set p v=some t'/\K .undef (setO ob id (Xqk o i t'))
 | none=>False
def Yzh (ob:Xb)(id i n:Nat)(o:Ob)(v:V)(z f:Nat)(p:List Nat)(K:V->Xb->Prop):Option V->Prop
 | some v0=>(z=v0.size/\f=v0.shape.off p)/\Yyd ob id i n o v v0 p K (v0.at p)
 | none=>False
def Yyc (ob:Xb)(id m z i f:Nat)(p:List Nat)(n:Nat)(v:V)(K:V->Xb->Prop):Option Ob->Prop
 | some o=>Yzh ob id i n o v z f p K (V0 m i (some o))
 | none=>False
def stK (ob:Xb)(n:Nat)(v:V)(K:V->Xb->Prop):V->Prop
 | .ptr id p=>X43 ob id p n v K (Xd ob id)
 | .ep id m z i f p=>Yyc ob id m z i f p n v K (Xd ob id)
 | _=>False
def dK (K:List D->Prop):Option (List D)->Prop
 | some l=>K l
 | none=>False
def Va (P:Prg)(args:List V)(ob:Xb)(K Pn:V->Xb->Prop):V->Prop
 | .fn f fi ca=>Xm P.p f=true/\ACall P f (fi++args++ca) ob (Xcx K Pn)
 | .d (.fn f fi ca)=>Xm P.p f=true/\ACall P f (fi.map .d++args++ca.map .d) ob (Xcx K Pn)
 | .hd true id=>Ylv (Xd ob id)/\AYield P id args ob (Xcx K Pn)
 | _=>False
def Xak (ob:Xb)(Pn:V->Xb->Prop):V->Prop
 | .iface t v=>Pn (.iface t v) ob
 | .d (.iface t v)=>Pn (.d (.iface t v)) ob
 | _=>False
def X4z (sz:Nat)(K:List D->Prop):V->Prop
 | .d (.list z ys)=>z=sz/\K ys
 | .d .nils=>K []
 | _=>False
def Xe0 (id E sz B n:Nat)(ob:Xb)(ys:List D)(K:V->Xb->Prop):Option Ob->Prop
 | some (.arr E' sz' xs)=>E'=E/\sz'=sz/\n=xs.length/\(2*(xs.length+ys.length)+192)*B<=281474976710656/\K (.sl id (xs.length+ys.length)) (setO ob id (.arr E sz (xs++ys)))
 | _=>False
def Xfd (E sz B:Nat)(ob:Xb)(ys:List D)(K:V->Xb->Prop):V->Prop
 | .sl id n=>Xe0 id E sz B n ob ys K (Xd ob id)
 | .d .nils=>(2*ys.length+192)*B<=281474976710656/\K (.sl (Xa ob) ys.length) ((Xa ob,.arr E sz ys)::ob)
 | _=>False
def Zy:List UInt8->List D
 | []=>[]
 | b::r=>.int .u8 b.toNat::Zy r
def Yyw (K:V->Prop):V->Prop
 | .d (.list sz xs)=>sz=1/\∃s,xs=Zy s/\K (.d (.str s))
 | .d .nils=>K (.d (.str []))
 | _=>False

inductive I where
 | c (x:C)
 | box (E:Nat) (x:A)
 | alloc (E:Nat) (z:D)
 | bls (sz:Nat) (z:List D) (parts:List (Nat×A))
 | blo (E sz:Nat) (z:List D) (parts:List (Nat×A))
 | st (n:Nat) (x v:A)
 | app (E sz B:Nat) (x y:A)
 | appS (E B:Nat) (x y:A)
 | call (f:Nat) (args:List A)
 | pcall (f:Nat) (args:List A)
 | callv (x:A) (args:List A)
 | panic (x:A)
 | b2s (x:A)
 | s2b (x:A)
 | nilo (E sz:Nat) (x:A)
  | mvf (x:A)
  | ldf (n:Nat) (ag:Bool) (x:A)
  | mvg (E sz:Nat) (y x:A) (p:List Nat)
  | mvn (y x:A) (l:List (Nat×Nat×List Nat))
  | cvb (x:A)
  | ustr (E:Nat) (x y:A)
  | mkm (r:Option A)
  | lkp (kd z:D) (ok:Bool) (m k:A)
  | mset (kd:D) (m k v:A)
  | gld (g n:Nat) (ag:Bool) (x:D)
  | slg (n z:Nat) (x:A)
  | blv (E sz:Nat) (z:List D) (parts:List (Nat×A))
  | apv (E sz B:Nat) (x y:A)
  | gv (x:A)
  | ldg (n:Nat) (ag:Bool) (x:A)
  | slb (n z:Nat) (x:A) (lo hi:Option A)
  | cpy (z:Nat) (x y:A)
 | clr (z0:D) (z:Nat) (x:A)
  | gix (g n z:Nat) (x:D) (i:A)
  | rng (x:A)
 | nxt (x:A)
 | ety (x:A)
  | lenM (x:A)
  | isn (e m:Bool) (x:A)
  | inv (nm:String) (t f:Nat) (fl:Option (Nat×Nat×Nat×Bool)) (x:A) (args:List A)
  | mks (E sz B:Nat) (z:D) (l:A)
  | trn (z:Nat) (x:A) (h:A)
  | xcall (f:Nat) (args:List A)
  | boxr (E:Nat) (x:A)

def Xis (E sz:Nat)(ob:Xb)(K:V->Xb->Prop):V->Prop
 | .d .nils=>K (.sl (Xa ob) 0) ((Xa ob,.arr E sz [])::ob)
 | _=>False
def Xsz (K:V->Xb->Prop):Option (D×Xb)->Prop
 | some (d,ob)=>K (.d d) ob
 | none=>False
def Xn2 (n:Nat)(ag:Bool)(ob:Xb)(K:V->Xb->Prop):Option V->Prop
 | some v=>v.size=n/\v.isAgg=ag/\Xsz K (V.giv ob v)
 | none=>False
def X9h (n:Nat)(ag:Bool)(ob:Xb)(K:V->Xb->Prop):V->Prop
 | .ptr id p=>Xn2 n ag ob K (atO ob id p)
 | _=>False
def X9i (ob:Xb)(id:Nat)(p:List Nat)(x:D)(K:V->Xb->Prop):Option Ob->Prop
 | some (.box E t)=>∃t',t.set p (.d x)=some t'/\K (.d x) (setO ob id (.box E t'))
 | _=>False
def X1j (v:V)(id:Nat)(p:List Nat)(K:V->Xb->Prop):Option (D×Xb)->Prop
 | some (x,ob)=>x.shape=v.shape/\X9i ob id p x K (Xd ob id)
 | none=>False
def X1k (n:Nat)(ag:Bool)(ob:Xb)(id:Nat)(p:List Nat)(K:V->Xb->Prop):Option V->Prop
 | some v=>v.size=n/\v.isAgg=ag/\X1j v id p K (Rby 40000 ob v)
 | none=>False
def Ylx (n:Nat)(ag:Bool)(ob:Xb)(K:V->Xb->Prop):V->Prop
 | .ptr id p=>X1k n ag ob id p K (atO ob id p)
 | _=>False
def Xlu (ob:Xb)(id E0 E sz:Nat)(y:V)(K:V->Xb->Prop):Option V->Prop
 | some t=>K y ((Xa ob,.arr E sz [])::setO ob id (.box E0 t))
 | none=>False
def Xe5 (ob:Xb)(id:Nat)(p:List Nat)(E sz:Nat)(y:V)(K:V->Xb->Prop):Option Ob->Prop
 | some (.box E0 t)=>(t.at p=some (.d .nils)/\Xlu ob id E0 E sz y K (t.set p (.sl (Xa ob) 0)))\/((∃i n,t.at p=some (.sl i n))/\K y ob)
 | _=>False
def Xls (ob:Xb)(E sz:Nat)(p:List Nat)(y:V)(K:V->Xb->Prop):V->Prop
 | .ptr id q=>Xe5 ob id (q++p) E sz y K (Xd ob id)
 | _=>False
def Xvm (y:V)(K:V->Xb->Prop)(x:V):List (Nat×Nat×List Nat)->Xb->Prop
 | [],ob=>K y ob
 | e::l,ob=>Xls ob e.1 e.2.1 e.2.2 y (fun _ ob'=>Xvm y K x l ob') x
def Xg0 (id n:Nat)(ob:Xb)(K:V->Xb->Prop):Option Ob->Prop
 | some (.arr _ sz xs)=>sz ≠ 0/\n=xs.length/\xs ≠ []/\K (.d (.list sz xs)) (setO ob id .gone)
 | _=>False
def Xy5 (ob:Xb)(K:V->Xb->Prop):V->Prop
 | .sl id n=>Xg0 id n ob K (Xd ob id)
 | _=>False
def Xmq (id n:Nat)(m:Int)(E:Nat)(ob:Xb)(K:V->Xb->Prop):Option Ob->Prop
 | some (.arr E' sz xs)=>E'=E/\sz=1/\n=xs.length/\m=n/\n<=9223372036854775807/\xs ≠ []/\∃s,xs=Zy s/\K (.d (.str s)) (setO ob id .gone)
 | _=>False
def Xwb (E:Nat)(ob:Xb)(K:V->Xb->Prop):V->V->Prop
 | .sd id n,.d (.int .i64 m)=>Xmq id n m E ob K (Xd ob id)
 | .d .nilp,.d (.int .i64 m)=>m=0/\K (.d (.str [])) ob
 | _,_=>False
def Yai (K:List D->Prop):V->Prop
 | .d (.str s)=>K (Zy s)
 | _=>False
def Yzf (K:V->Prop):V->Prop
 | .d (.str s)=>K (.d (.list 1 (Zy s)))
 | _=>False

def Rb0:D->D->Bool
 | .int k _,.int k' _=>decide (k=k')
 | .bool _,.bool _=>true
 | .str _,.str _=>true
 | _,_=>false
def Z4:List D->List D->Bool
 | [],[]=>true
 | x::r,y::s=>Rb0 x y&&Z4 r s
 | _,_=>false
def Rb1:D->D->Bool
 | .int k _,.int k' _=>decide (k=k')
 | .bool _,.bool _=>true
 | .str _,.str _=>true
 | .agg xs,.agg ys=>Z4 xs ys
 | _,_=>false
def Rb2:D->D->Bool
 | .int _ a,.int _ b=>a==b
 | .bool a,.bool b=>a==b
 | .str a,.str b=>a==b
 | .agg xs,.agg ys=>D.eqbs xs ys
 | _,_=>false
def Vb (k:D):List (D×V)->Option V
 | []=>none
 | (j,v)::r=>if Rb2 k j then some v else Vb k r
def Xmo (k:D)(x:V):List (D×V)->List (D×V)
 | []=>[(k,x)]
 | (j,v)::r=>if Rb2 k j then (k,x)::r else (j,v)::Xmo k x r
def Xdw (kd k:D)(es:List (D×V)):Prop:=Rb1 kd k=true/\∀e∈es,Rb1 k e.1=true
def X9q (z:D):Bool->Option V->V
 | true,some v=>.tup [v,.d (.bool true)]
 | true,none=>.tup [.d z,.d (.bool false)]
 | false,some v=>v
 | false,none=>.d z
def Xhe (kd z:D)(ok:Bool)(k:D)(K:V->Prop):Option Ob->Prop
 | some (.map es)=>Xdw kd k es/\K (X9q z ok (Vb k es))
 | _=>False
def X1o (ob:Xb)(kd z:D)(ok:Bool)(K:V->Prop):V->V->Prop
 | .mp id,.d k=>Xhe kd z ok k K (Xd ob id)
 | .d .nilm,.d k=>Rb1 kd k=true/\K (X9q z ok none)
 | _,_=>False
def Xag (ob:Xb)(id:Nat)(kd k:D)(v:V)(K:V->Xb->Prop):Option Ob->Prop
 | some (.map es)=>Xdw kd k es/\v.sto=true/\K .undef (setO ob id (.map (Xmo k v es)))
 | _=>False
def Xd4 (ob:Xb)(kd:D)(v:V)(K:V->Xb->Prop):V->V->Prop
 | .mp id,.d k=>Xag ob id kd k v K (Xd ob id)
 | _,_=>False
def Xlc:V->Prop
 | .d (.int _ _)=>True
 | _=>False
def X5n (sl:Xf):Option A->Prop
 | none=>True
 | some x=>Xlc (x.ev sl)
def X4f (n z:Nat)(K:D->Prop):Option V->Prop
 | some (.d (.agg xs))=>xs.length=n/\(∀x∈xs,x.sz=z)/\K (.list z xs)
 | _=>False
def Yl1 (ob:Xb)(n z:Nat)(K:V->Xb->Prop):V->Prop
 | .ptr id p=>X4f n z (fun x=>K (.d x) (setO ob id .gone)) (atO ob id p)
 | _=>False
def Yld (id:Nat)(p:List Nat)(n z:Nat)(lo hi:Option V)(K:V->Prop):Option (List V)->Prop
 | some ks=>ks.length=n/\(∀k∈ks,k.size=z)/\Jx n (fun l h=>K (.bs id p l (h-l))) lo hi
 | none=>False
def Yzg (ob:Xb)(n z:Nat)(lo hi:Option V)(K:V->Xb->Prop):V->Prop
 | .ptr id p=>Yld id p n z lo hi (fun v=>K v ob) (Z3 (atO ob id p))
 | _=>False
def Xea (lo:Nat)(xs ys:List D):List D:=xs.take lo++(ys++xs.drop (lo+ys.length))
def Y06 (ob:Xb)(id E:Nat)(t:V)(p:List Nat)(lo n z:Nat)(ys:List D)(r:V)(K:V->Xb->Prop):Option V->Prop
 | some (.d (.agg xs))=>lo+n<=xs.length/\(∀x∈xs,x.sz=z)/\(D.agg (Xea lo xs ys)).shape=(D.agg xs).shape/\∃t',t.set p (.d (.agg (Xea lo xs ys)))=some t'/\K r (setO ob id (.box E t'))
 | _=>False
def Ya5 (ob:Xb)(id:Nat)(p:List Nat)(lo n z:Nat)(ys:List D)(r:V)(K:V->Xb->Prop):Option Ob->Prop
 | some (.box E t)=>Y06 ob id E t p lo n z ys r K (t.at p)
 | _=>False
def Zau (z:Nat)(ob:Xb)(K:V->Xb->Prop):V->V->Prop
 | .bs id p lo n,.d (.list z' ys)=>z'=z/\Ya5 ob id p lo n z (ys.take n) (.d (.int .i64 (min ys.length n:Nat))) K (Xd ob id)
 | _,_=>False
def Zar (z0:D)(z:Nat)(ob:Xb)(K:V->Xb->Prop):V->Prop
 | .bs id p lo n=>(n=0->(∃E t,Xd ob id=some (.box E t))/\K (.tup []) ob)/\(n ≠ 0->(z0.sz=z/\z=1)/\Ya5 ob id p lo n z (List.replicate n z0) (.tup []) K (Xd ob id))
 | _=>False
def Zbf (n z:Nat)(K:V->Prop):D->V->Prop
 | .agg xs,.d (.int _ m)=>(0<=m/\m<n)/\xs.length=n/\(∀x∈xs,x.sz=z)/\K (.d (.ref (xs.getD m.toNat default)))
 | _,_=>False
def Yl2 (sz:Nat)(K:List V->Prop)(ob:Xb):V->Prop
 | .d (.list z ys)=>z=sz/\K (ys.map .d)
 | .d .nils=>K []
 | .sl id n=>(∃E ys,Xd ob id=some (.vec E sz ys)/\n=ys.length/\Rbr ys=true/\K ys)\/∃E ys,Xd ob id=some (.arr E sz ys)/\n=ys.length/\K (ys.map .d)
 | _=>False
def Xun (id E sz B n:Nat)(ob:Xb)(ys:List V)(K:V->Xb->Prop):Option Ob->Prop
 | some (.vec E' sz' xs)=>E'=E/\sz'=sz/\n=xs.length/\(2*(xs.length+ys.length)+192)*B<=281474976710656/\K (.sl id (xs.length+ys.length)) (setO ob id (.vec E sz (xs++ys)))
 | some (.arr E' sz' xs)=>E'=E/\sz'=sz/\n=xs.length/\(2*(xs.length+ys.length)+192)*B<=281474976710656/\K (.sl id (xs.length+ys.length)) (setO ob id (.vec E sz (xs.map .d++ys)))
 | _=>False
def Xwf (E sz B:Nat)(ob:Xb)(ys:List V)(K:V->Xb->Prop):V->Prop
 | .sl id n=>Xun id E sz B n ob ys K (Xd ob id)
 | .d .nils=>(2*ys.length+192)*B<=281474976710656/\K (.sl (Xa ob) ys.length) ((Xa ob,.vec E sz ys)::ob)
 | _=>False
def GlobIs (P:Prg)(g:Nat)(x:D):Prop:=∃cs T f,P.g g=some (.cells (List.toArray cs) T f)/\Rbf x cs=true

def Ylb (ob:Xb)(K:V->Xb->Prop):V->Option Ob->Prop
 | .mp id,some (.map es)=>K (.hd false (Xa ob)) ((Xa ob,.it (some id) es.length [])::ob)
 | .d .nilm,_=>K (.hd false (Xa ob)) ((Xa ob,.it none 0 [])::ob)
 | _,_=>False
def Ybv:V->Nat
 | .mp id=>id
 | _=>0
def Xvq (ob:Xb)(id j n:Nat)(seen:List Nat)(K:V->Xb->Prop):Option Ob->Prop
 | some (.map es)=>es.length=n/\((List.range n).all (fun i=>seen.contains i)=true->K (.tup [.d (.bool false)]) ob)/\
   ∀i,i<n->seen.contains i=false->K (.tup [.d (.bool true),.d (es.getD i default).1,(es.getD i default).2]) (setO ob id (.it (some j) n (seen++[i])))
 | _=>False
def Xl4 (ob:Xb)(id:Nat)(K:V->Xb->Prop):Option Ob->Prop
 | some (.it none _ _)=>K (.tup [.d (.bool false)]) ob
 | some (.it (some j) n seen)=>Xvq ob id j n seen K (Xd ob j)
 | _=>False
def X9w (ob:Xb)(K:V->Xb->Prop):V->Prop
 | .hd false id=>Xl4 ob id K (Xd ob id)
 | _=>False
def Xux (i n:Nat)(K:V->Prop):Option Ob->Prop
 | some (.map es)=>i<n/\es.length=n/\K (.tup [.d (es.getD i default).1,(es.getD i default).2])
 | _=>False
def Xnk (ob:Xb)(K:V->Prop):Option Ob->Prop
 | some (.it (some j) n seen)=>seen ≠ []/\Xux (seen.getLastD 0) n K (Xd ob j)
 | _=>False
def X76 (ob:Xb)(K:V->Prop):V->Prop
 | .hd false id=>Xnk ob K (Xd ob id)
 | _=>False
def Yh2 (K:V->Prop):Option Ob->Prop
 | some (.map es)=>K (.d (.int .i64 es.length))
 | _=>False
def Xvi (ob:Xb)(K:V->Prop):V->Prop
 | .mp id=>Yh2 K (Xd ob id)
 | .d .nilm=>K (.d (.int .i64 0))
 | _=>False
def Y2x (e:Bool)(n:Nat)(K:V->Prop):Option Ob->Prop
 | some (.arr _ _ xs)=>n=xs.length/\xs ≠ []/\K (.d (.bool !e))
 | some (.vec _ _ xs)=>n=xs.length/\xs ≠ []/\K (.d (.bool !e))
 | _=>False
def Y2w (e:Bool)(K:V->Prop):Option Ob->Prop
 | some (.map _)=>K (.d (.bool !e))
 | _=>False
def X09 (ob:Xb)(e:Bool)(K:V->Prop):Bool->V->Prop
 | true,.mp id=>Y2w e K (Xd ob id)
 | true,.d .nilm=>K (.d (.bool e))
 | false,.d .nils=>K (.d (.bool e))
 | false,.d (.list _ xs)=>K (.d (.bool !e))/\(xs=[]->K (.d (.bool e)))
 | false,.sl id n=>Y2x e n K (Xd ob id)
 | _,_=>False
def X97 (ob:Xb)(K:V->Prop)(v:V):Option (Nat×Nat×Nat×Bool)->Prop
 | none=>K v
 | some (fi,fo,n,ag)=>Uu ob fi fo (fun u=>ldK ob n ag K u) v
def Yy5 (P:Prg)(t f:Nat)(fl:Option (Nat×Nat×Nat×Bool))(args:List V)(ob:Xb)(K Pn:V->Xb->Prop):V->Prop
 | .iface t' (.ptr id p)=>t'=t/\Xm P.p f=true/\X97 ob (fun r=>ACall P f (r::args) ob (Xcx K Pn)) (.ptr id p) fl
 | _=>False
def Yy7 (E sz B:Nat)(z:D)(ob:Xb)(K:V->Xb->Prop):V->Prop
 | .d (.int .i64 n)=>0<=n/\n*B<=281474976710656/\K (.sl (Xa ob) n.toNat) ((Xa ob,.arr E sz (List.replicate n.toNat z))::ob)
 | _=>False
def Yzj (id n z:Nat)(h:Int)(ob:Xb)(K:V->Xb->Prop):Option Ob->Prop
 | some (.arr E sz xs)=>sz=z/\n=xs.length/\xs ≠ []/\(0<=h/\h<=n)/\K (.sl (Xa ob) h.toNat) ((Xa ob,.arr E sz (xs.take h.toNat))::setO ob id .gone)
 | _=>False
def Yao (z:Nat)(ob:Xb)(K:V->Xb->Prop):V->V->Prop
 | .sl id n,.d (.int .i64 h)=>Yzj id n z h ob K (Xd ob id)
 | _,_=>False

def I.wp (P:Prg)(sl:Xf)(ob:Xb)(K Pn:V->Xb->Prop):I->Prop
 | .c x=>x.wp sl ob (fun v=>K v ob)
 | .box E x=>Xwg E ob K (x.ev sl)
 | .alloc E z=>Xwg E ob K (.d z)
 | .bls sz z parts=>Jw (z.map .d) (parts.map fun (i,x)=>(i,x.ev sl)) fun ks=>dK (fun l=>K (.d (.list sz l)) ob) (Ra5 ks)
 | .blo E sz z parts=>Jw (z.map .d) (parts.map fun (i,x)=>(i,x.ev sl)) fun ks=>dK (fun l=>K (.sl (Xa ob) l.length) ((Xa ob,.arr E sz l)::ob)) (Ra5 ks)
 | .st n x v=>stK ob n (v.ev sl) K (x.ev sl)
 | .app E sz B x y=>X4z sz (fun ys=>Xfd E sz B ob ys K (x.ev sl)) (y.ev sl)
 | .appS E B x y=>Yai (fun ys=>Xfd E 1 B ob ys K (x.ev sl)) (y.ev sl)
 | .call f args=>ACall P f (args.map (A.ev sl)) ob (Xcx K Pn)
 | .pcall f args=>PCall P f (args.map (A.ev sl)) ob fun v=>K v ob
 | .callv x args=>Va P (args.map (A.ev sl)) ob K Pn (x.ev sl)
 | .panic x=>Xak ob Pn (x.ev sl)
 | .b2s x=>Yyw (fun v=>K v ob) (x.ev sl)
 | .s2b x=>Yzf (fun v=>K v ob) (x.ev sl)
 | .nilo E sz x=>Xis E sz ob K (x.ev sl)
 | .mvf x=>Xsz K (V.giv ob (x.ev sl))
 | .ldf n ag x=>X9h n ag ob K (x.ev sl)
 | .mvg E sz y x p=>Xls ob E sz p (y.ev sl) K (x.ev sl)
 | .mvn y x l=>Xvm (y.ev sl) K (x.ev sl) l ob
 | .cvb x=>Xy5 ob K (x.ev sl)
 | .ustr E x y=>Xwb E ob K (x.ev sl) (y.ev sl)
 | .mkm r=>X5n sl r/\K (.mp (Xa ob)) ((Xa ob,.map [])::ob)
 | .lkp kd z ok m k=>X1o ob kd z ok (fun v=>K v ob) (m.ev sl) (k.ev sl)
 | .mset kd m k v=>Xd4 ob kd (v.ev sl) K (m.ev sl) (k.ev sl)
 | .gld g n ag x=>GlobIs P g x/\x.sz=n/\(V.d x).isAgg=ag/\K (.d x) ob
 | .slg n z x=>Yl1 ob n z K (x.ev sl)
 | .blv E sz z parts=>Jw (z.map .d) (parts.map fun (i,x)=>(i,x.ev sl)) fun ks=>K (.sl (Xa ob) ks.length) ((Xa ob,.vec E sz ks)::ob)
 | .apv E sz B x y=>Yl2 sz (fun ys=>Xwf E sz B ob ys K (x.ev sl)) ob (y.ev sl)
 | .gv x=>Xsz K (Rby 40000 ob (x.ev sl))
 | .ldg n ag x=>Ylx n ag ob K (x.ev sl)
 | .slb n z x lo hi=>Yzg ob n z (lo.map (A.ev sl)) (hi.map (A.ev sl)) K (x.ev sl)
 | .cpy z x y=>Zau z ob K (x.ev sl) (y.ev sl)
 | .clr z0 z x=>Zar z0 z ob K (x.ev sl)
 | .gix g n z x i=>GlobIs P g x/\Zbf n z (fun v=>K v ob) x (i.ev sl)
 | .rng x=>Ylb ob K (x.ev sl) (Xd ob (Ybv (x.ev sl)))
 | .nxt x=>X9w ob K (x.ev sl)
 | .ety x=>X76 ob (fun v=>K v ob) (x.ev sl)
 | .lenM x=>Xvi ob (fun v=>K v ob) (x.ev sl)
 | .isn e m x=>X09 ob e (fun v=>K v ob) m (x.ev sl)
 | .inv _ t f fl x args=>Yy5 P t f fl (args.map (A.ev sl)) ob K Pn (x.ev sl)
 | .mks E sz B z l=>Yy7 E sz B z ob K (l.ev sl)
 | .trn z x h=>Yao z ob K (x.ev sl) (h.ev sl)
 | .xcall f args=>XCall P f (args.map (A.ev sl)) ob K
 | .boxr _ x=>Xna ob K (x.ev sl)

def Xew (P:Program)(e:TypeId)(len size:Nat):Option (List Value):=
 if len*size=0 then some [] else (Q4 P e).map fun z=>((Array.range (len*size)).map (z.toArray[· % z.toArray.size]!)).toList

def Xfi (P:Program)(op:Op)(E? : Option Nat)(sz:Nat)(z:List D)(parts:List (Nat×A)):Bool:=match op with
 | .buildSlice t len ps=>W0 ps.toList parts&&(match P.underlying t with
  | some (.slice e)=>(match E? with | some E=>e==E | none=>true)&&Yh P e==some sz&&z.length==len&&decide (len*sz<=2 ^ 24)&&z.all (fun x=>x.sz==sz)&&(match Xew P e len sz with | some cs=>Rbg z cs | none=>false)
  | _=>false)
 | _=>false

def U7:TypeDesc->D->Bool
 | .int _,.int _ _=>true
 | .string,.str _=>true
 | .bool,.bool _=>true
 | _,_=>false
def Xvh:D->KT
 | .int k _=>.int k
 | .bool _=>.bool
 | _=>.str
def Vu (P:Program)(t:TypeId):D->Bool
 | .agg xs=>(KT.st (xs.map Xvh)).chk P t
 | kd=>match P.underlying t with
  | some d=>U7 d kd
  | none=>false

def Ynr (P:Program)(t:TypeId)(nm:String)(f:Nat)(fl:Option (Nat×Nat×Nat×Bool)):Bool:=match (P.info? t).bind (fun i=>i.methods.find? (·.name==nm)) with
 | some m=>(match fl,m.func with
  | none,some (g,true)=>g==f&&m.path.isEmpty&&(P.underlying t matches some (.pointer _))
  | some (fi,fo,n,ag),some (g,false)=>g==f&&(match m.path.toList with
   | [s]=>s.deref&&s.index==fi&&(match P.underlying s.struct with
    | some (.struct fields)=>(match fields[fi]? with
     | some fd=>fd.offset==fo&&Yh P fd.type==some n&&n != 0&&agT P fd.type==ag&&!(P.underlying fd.type matches some (.pointer _))&&(P.underlying fd.type).isSome
     | none=>false)
    | _=>false)
   | _=>false)
  | _,_=>false)
 | none=>false
def Ysf:Bool->Option TypeDesc->Operand->Bool
 | false,some (.slice _),.const (.slice none n m)=>n==0&&m==0
 | true,some (.map _ _),.const (.map none)=>true
 | _,_,_=>false
def Yhx:BinOp->Bool->Bool
 | .eql,e=>e
 | .neq,e=>!e
 | _,_=>false

def I.chk (P:Program)(op:Op):I->Bool
 | .c x=>x.chk P op
 | .box E y=>match op with
  | .box e x=>e==E&&A.chk x y
  | _=>false
 | .boxr E y=>match op with
  | .box e x=>e==E&&A.chk x y
  | _=>false
 | .alloc E z=>match op with
  | .alloc e=>e==E&&match Q4 P e with
   | some cs=>Rbf z cs
   | none=>false
  | _=>false
 | .bls sz z parts=>Xfi P op none sz z parts
 | .blo E sz z parts=>Xfi P op (some E) sz z parts
 | .blv E sz z parts=>Xfi P op (some E) sz z parts
 | .st n x v=>match op with
  | .store t y u=>Yh P t==some n&&A.chk y x&&A.chk u v
  | _=>false
 | .app E sz B x y=>match op with
  | .call { callee:=.builtin .append,args:=args,argTypes:=ts }=>match args.toList,ts.toList with
   | [u,v],[t,t2]=>(match P.underlying t with | some (.slice e)=>e==E | _=>false)&&(match P.info? E with | some i=>i.size==sz&&i.bytes==B&&i.bytes != 0&&i.size != 0&&i.zero.isSome&&(i.zero.map (·.cells.size))==some sz | none=>false)&&
    (P.underlying t2 matches some (.slice _))&&A.chk u x&&A.chk v y
   | _,_=>false
  | _=>false
 | .apv E sz B x y=>match op with
  | .call { callee:=.builtin .append,args:=args,argTypes:=ts }=>match args.toList,ts.toList with
   | [u,v],[t,t2]=>(match P.underlying t with | some (.slice e)=>e==E | _=>false)&&(match P.info? E with | some i=>i.size==sz&&i.bytes==B&&i.bytes != 0&&i.size != 0&&i.zero.isSome&&(i.zero.map (·.cells.size))==some sz | none=>false)&&
    (P.underlying t2 matches some (.slice _))&&A.chk u x&&A.chk v y
   | _,_=>false
  | _=>false
 | .appS E B x y=>false
 | .call f args=>match op with
  | .call { callee:=.value (.func g),args:=as,.. }=>f==g&&Xm P f&&Xb9 as.toList args
  | _=>false
 | .xcall f args=>match op with
  | .call { callee:=.value (.func g),args:=as,.. }=>f==g&&Xm P f&&Xb9 as.toList args
  | _=>false
 | .pcall f args=>match op with
  | .call { callee:=.value (.func g),args:=as,.. }=>f==g&&Xm P f&&Xb9 as.toList args
  | _=>false
 | .callv y args=>match op with
  | .call { callee:=.value x,args:=as,.. }=>A.chk x y&&Xb9 as.toList args
  | _=>false
 | .panic y=>match op with
  | .panic x=>A.chk x y
  | _=>false
 | .b2s y=>false
 | .s2b y=>false
 | .nilo _ _ y=>match op with
  | .move x | .assign x=>A.chk x y
  | _=>false
 | .mvf y=>match op with
  | .move x | .assign x=>A.chk x y
  | _=>false
 | .gv y=>false
 | .ldf n ag y=>match op with
  | .load t x=>Yh P t==some n&&(P.underlying t).isSome&&agT P t==ag&&A.chk x y
  | _=>false
 | .ldg n ag y=>match op with
  | .load t x=>Yh P t==some n&&(P.underlying t).isSome&&agT P t==ag&&A.chk x y
  | _=>false
 | .mvg _ _ y _ _=>match op with
  | .move x | .assign x=>A.chk x y
  | _=>false
 | .mvn y _ _=>match op with
  | .move x | .assign x=>A.chk x y
  | _=>false
 | .cvb y=>match op with
  | .convert s t x=>s==t&&(match P.underlying s with | some (.slice e)=>(P.underlying e matches some (.int .u8)) | _=>false)&&A.chk x y
  | _=>false
 | .ustr E y z=>false
 | .mkm r=>match op with
  | .makeMap t h=>(P.underlying t matches some (.map _ _))&&Xjl h r
  | _=>false
 | .lkp kd z ok m k=>match op with
  | .lookup t x i o=>o==ok&&(match P.underlying t with
   | some (.map kt et)=>Vu P kt kd&&(match Q4 P et with | some cs=>Rbf z cs&&(((P.info? et).bind (·.zero)).map fun v=>match v with | .agg _=>true | _=>false)==some (V.d z).isAgg | none=>false)
   | _=>false)&&A.chk x m&&A.chk i k
  | _=>false
 | .mset kd m k v=>match op with
  | .mapUpdate t x i y=>(match P.underlying t with | some (.map kt _)=>Vu P kt kd | _=>false)&&A.chk x m&&A.chk i k&&A.chk y v
  | .insert t x i y=>(match P.underlying t with | some (.map kt _)=>Vu P kt kd | _=>false)&&A.chk x m&&A.chk i k&&A.chk y v
  | _=>false
 | .gld g n ag _=>match op with
  | .load t (.global h)=>h==g&&Yh P t==some n&&(P.underlying t).isSome&&agT P t==ag
  | _=>false
 | .slg n z y=>false
 | .slb n z y lo hi=>false
 | .cpy z y s=>false
 | .clr z0 z y=>false
 | .gix g n z _ j=>false
 | .rng y=>match op with
  | .range t x=>(P.underlying t matches some (.map _ _))&&A.chk x y
  | _=>false
 | .nxt y=>match op with
  | .next x false=>A.chk x y
  | _=>false
 | .ety y=>match op with
  | .entry x=>A.chk x y
  | _=>false
 | .lenM y=>match op with
  | .call { callee:=.builtin .len,args:=args,argTypes:=ts }=>match args.toList,ts.toList with
   | [u],[t]=>(P.underlying t matches some (.map _ _))&&A.chk u y
   | _,_=>false
  | _=>false
 | .isn e m y=>match op with
  | .binOp o t x cc _=>Yhx o e&&A.chk x y&&Ysf m (P.underlying t) cc
  | _=>false
 | .inv nm t f fl y args=>match op with
  | .call { callee:=.invoke x m,args:=as,.. }=>m==nm&&A.chk x y&&Xb9 as.toList args&&Ynr P t nm f fl
  | _=>false
 | .mks E sz B z l=>match op with
  | .makeSlice t x cc=>A.chk x l&&A.chk cc l&&(match P.underlying t with | some (.slice e)=>e==E | _=>false)&&(match P.info? E with | some i=>i.size==sz&&i.bytes==B | none=>false)&&sz != 0&&B != 0&&(match Q4 P E with | some cs=>Rbf z cs&&cs.length==sz | none=>false)&&z.sz==sz
  | _=>false
 | .trn z y h=>match op with
  | .slice t x none (some hh) none=>(match P.underlying t with | some (.slice e)=>Yh P e==some z&&z != 0 | _=>false)&&A.chk x y&&A.chk hh h
  | _=>false
end Go.Ab
namespace Go.Ab
open Go

def Ja (P:Program)(a:Act)(w:World)(ρ:Env)(op:Op)(K Pn:V->Xb->Prop):Prop:=
 ∀(o:Oper),o.op=op->∀(next:Act->World->Prop) (Q:Exit->Act->World->Prop),
  (∀v x ob' w' ρ',K x ob'->x.rep w' ρ' v->OM w' ρ' ob'->Tr w ρ w' ρ'->next (a.put o.dst v) w')->
  (∀u x ob' w' ρ',Pn x ob'->x.rep w' ρ' u->OM w' ρ' ob'->Tr w ρ w' ρ'->Q (.panic [{ v:=u,recovered:=false }]) a w')->
  wpA P o a w next Q

def Xwe (P:Program)(a:Act)(w:World)(ρ:Env)(op:Op)(ob:Xb)(K:V->Xb->Prop):Prop:=
 ∃v x w',K x ob/\x.rep w' ρ v/\Ext w w'/\∀(o:Oper),o.op=op->(execOp a.eval o).run P w=.ok (.value v) w'

section
variable {P:Program} {a:Act} {w:World} {ρ:Env} {sl:Xf} {ob:Xb} {K Pn:V->Xb->Prop}

theorem X0 {op:Op}{v:Value}{x:V}{ob':Xb}{w':World}{ρ':Env}(hr:∀o:Oper,o.op=op->(execOp a.eval o).run P w=.ok (.value v) w')
  (hK:K x ob') (h1:x.rep w' ρ' v) (h2:OM w' ρ' ob') (h3:Tr w ρ w' ρ'):Ja P a w ρ op K Pn:=by
 intro o ho next Q hn _
 unfold wpA;rw[hr o ho];exact hn v x ob' w' ρ' hK h1 h2 h3

theorem Xwe.does {op:Op}(h:Xwe P a w ρ op ob K)(hO:OM w ρ ob):Ja P a w ρ op K Pn:=by
 obtain⟨v,x,w',hK,h1,h2,h3⟩:=h;exact X0 h3 hK h1 (hO.ext h2) h2.tr

def Xwn (P:Program)(a:Act)(w:World)(ρ:Env)(op:Op)(ob:Xb)(K:V->Xb->Prop):Prop:=
 ∀(o:Oper),o.op=op->∀(next:Act->World->Prop) (Q:Exit->Act->World->Prop),
  (∀v x w',K x ob->x.rep w' ρ v->Ext w w'->next (a.put o.dst v) w')->wpA P o a w next Q

theorem Xwe.doesE {op:Op}(h:Xwe P a w ρ op ob K):Xwn P a w ρ op ob K:=by
 obtain⟨v,x,w',hK,h1,h2,h3⟩:=h;intro o ho next Q hn
 unfold wpA;rw[h3 o ho];exact hn v x w' hK h1 h2

theorem Xwn.does {op:Op}(h:Xwn P a w ρ op ob K)(hO:OM w ρ ob):Ja P a w ρ op K Pn:=fun o ho next Q hn _=>
 h o ho next Q fun v x w' hK h1 h2=>hn v x ob w' ρ hK h1 (hO.ext h2) h2.tr

def Xey (P:Program)(a:Act)(w:World)(ρ:Env)(op:Op)(K:V->Xb->Prop):Prop:=
 ∀(o:Oper),o.op=op->∀(next:Act->World->Prop) (Q:Exit->Act->World->Prop),
  (∀v x ob' w' ρ',K x ob'->x.rep w' ρ' v->OM w' ρ' ob'->Tr w ρ w' ρ'->Ext w w'->next (a.put o.dst v) w')->wpA P o a w next Q
theorem Xey.does {op:Op}(h:Xey P a w ρ op K):Ja P a w ρ op K Pn:=fun o ho next Q hn _=>
 h o ho next Q fun v x ob' w' ρ' h0 h1 h2 h3 _=>hn v x ob' w' ρ' h0 h1 h2 h3
theorem Z7 {op:Op}{v:Value}{x:V}{ob':Xb}{w':World}{ρ':Env}(hr:∀o:Oper,o.op=op->(execOp a.eval o).run P w=.ok (.value v) w')
  (hK:K x ob') (h1:x.rep w' ρ' v) (h2:OM w' ρ' ob') (h3:Tr w ρ w' ρ') (h4:Ext w w'):Xey P a w ρ op K:=by
 intro o ho next Q hn
 unfold wpA;rw[hr o ho];exact hn v x ob' w' ρ' hK h1 h2 h3 h4

theorem Jz {op:Op}{ob':Xb}{w':World}{ρ':Env}(hr:∀o:Oper,o.op=op->(execOp a.eval o).run P w=.ok .skip w')
  (hK:K .undef ob') (h2:OM w' ρ' ob') (h3:Tr w ρ w' ρ'):Ja P a w ρ op K Pn:=by
 intro o ho next Q hn _
 unfold wpA;rw[hr o ho];exact hn undef .undef ob' w' ρ' hK (Zc.2 rfl) h2 h3

theorem Ym2 (hs:SM w ρ sl a)(hO:OM w ρ ob){op:Op}{x:C}(hc:x.chk P op=true)(h:x.wp sl ob (fun v=>K v ob)):Ja P a w ρ op K Pn:=by
 obtain⟨v,y,hK,h1,h2⟩:=C.sound hs hO hc h;exact X0 (fun o ho=>h2 o ho w (fun _=>Ext.refl w)) hK h1 hO (Tr.refl _ _)

theorem Xkj (hs:SM w ρ sl a)(hO:OM w ρ ob){op:Op}{E:Nat}{x:A}(hc:I.chk P op (.box E x)=true)(h:Xwg E ob K (x.ev sl)):Xey P a w ρ op K:=by
 cases op<;>simp[I.chk]at hc;rename_i E' y;obtain⟨rfl,hc⟩:=hc;obtain⟨h2,hK⟩:=h;have h1:=X2 ob;have r1:=A.sound hs hc;have hre:=Wl (Rbu h2) r1;obtain⟨t1,o1,p1⟩:=X1g hO h1 hre E';refine Z7 (fun o ho=>?_) hK p1 o1 t1 (Zp w _);simp only[execOp,ho,Instr.box,newVar,newRow,Sem.run_bind,run_newObj,Result.andThen_ok,Sem.run_pure,Array.toArray_toList];rfl

theorem Xjv (hs:SM w ρ sl a)(hO:OM w ρ ob){op:Op}{E:Nat}{x:A}(hc:I.chk P op (.boxr E x)=true)(h:Xna ob K (x.ev sl)):Xwe P a w ρ op ob K:=by
 cases op<;>simp[I.chk]at hc;rename_i E' y;obtain⟨rfl,hc⟩:=hc;have r1:=A.sound hs hc;unfold Xna at h;split at h
 ·rename_i d e1;rw[e1]at r1;have hre:=Wl (Rbu (v:=.d d) rfl) r1;have he:=Zp w (.cells (a.eval y).cells E');have hno:¬own ρ w.heap.size:=by
   rintro (⟨id,o,h1,h2⟩ | h1)
   ·have:=Wy hO h1 h2; omega
   ·have:=hO.xlt _ h1; omega
  have hre':(V.d d).repC (Xay w (.cells (a.eval y).cells E')) ρ (a.eval y).cells.toList:=Rat he.tr _ _ hre;refine⟨.pointer (some ⟨w.heap.size,0,none⟩),.d (.ref d),Xay w (.cells (a.eval y).cells E'),h,?_,he,fun o ho=>?_⟩
  ·refine Qc.2 ⟨_,(a.eval y).cells.toList,rfl,rfl,⟨fun _=>⟨rfl,hno,?_⟩,fun i hi=>?_⟩,by simpa[V.repC]using hre'⟩
   ·show w.heap.size<(w.heap.push _).size;simp
   ·have:=Zx w (.cells (a.eval y).cells E');simp only[World.cell?,this];simp
  ·simp only[execOp,ho,Instr.box,newVar,newRow,Sem.run_bind,run_newObj,Result.andThen_ok,Sem.run_pure,Array.toArray_toList];rfl
 ·exact h.elim

theorem Xdm (hO:OM w ρ ob){op:Op}{E0:Nat}{z:D}(hc:I.chk P op (.alloc E0 z)=true)(h:Xwg E0 ob K (.d z)):Xey P a w ρ op K:=by
 cases op<;>simp only[I.chk,Uah]at hc;rename_i E;simp only[Uai,Ubn]at hc;obtain⟨rfl,hc⟩:=hc;obtain⟨h2,hK⟩:=h;have h1:=X2 ob;cases hz:Q4 P E with
 | none=>simp[hz]at hc
 | some cs=>
  simp only[hz]at hc;obtain⟨v,e1,_,hzr⟩:=Qy hz;have hre:(V.d z).repC w ρ cs:=by simp only[V.repC]; exact Rbj z cs hc
  obtain⟨t1,o1,p1⟩:=X1g hO h1 hre E;refine Z7 (fun o ho=>?_) hK p1 o1 t1 (Zp w _);simp only[execOp,ho,Instr.alloc,newVar,newRow,Sem.run_bind,hzr,run_newObj,Result.andThen_ok,Sem.run_pure];rw[<-e1,Array.toArray_toList];rfl

theorem Yfk (hs:SM w ρ sl a)(hO:OM w ρ ob){op:Op}{n:Nat}{x v:A}(hc:I.chk P op (.st n x v)=true)(h:stK ob n (v.ev sl) K (x.ev sl)):Ja P a w ρ op K Pn:=by
 cases op<;>simp[I.chk]at hc;rename_i t y u;obtain⟨⟨hn,h1⟩,h2⟩:=hc;have r1:=A.sound hs h1;have r2:=A.sound hs h2;unfold stK at h;split at h
 ·rename_i id p e1;rw[e1]at r1;unfold X43 at h;split at h
  ·rename_i E t0 hl;obtain⟨b,sh,hρ,r1⟩:=Zb hO hl r1;cases hat:t0.at p with
   | none=>simp[hat,X44]at h
   | some old=>
    simp only[hat,X44]at h;obtain⟨hsh,hsz,hst,t',hset,hK⟩:=h;obtain⟨b',cs,g1,g2,g3⟩:=hO.one id _ hl;rw[hρ]at g1;simp only[Uaq,RO.box.injEq]at g1;obtain⟨rfl,rfl⟩:=g1;have hre:=Wl (Rbu hst) r2;obtain⟨t'',e2,e3,h4⟩:=Ra9 p t0 old _ cs _ g3 hat hre hsh;rw[hset]at e2;simp only[Uaq]at e2;subst e2;obtain⟨t1,o1⟩:=Xmt hO hl hρ g2 e3 h4;obtain⟨c1,c2,c3,q1,q2,q3⟩:=Ra8 p t0 old cs g3 hat;have hlen:=Ra0 _ _ hre;have hl2:=Ra0 _ _ q3;refine Jz (fun o ho=>?_) hK o1 t1;have hsize:(a.eval u).cells.size=n:=by
     rw[<-hsz]; unfold V.size; rw[<-hsh,<-hlen]; simp
    have hrun:=run_storeCells_at (P:=P) b (t0.shape.off p) E (a.eval u).cells.toList 0 cs.toArray w g2 (by
     rw[hlen,hsh,<-hl2,<-q2,q1]; simp) (V.one _ _ hst hre)
    simp only[execOp,ho,Instr.storeAt,Instr.sureAddr,storeVar,r1,Sem.run_bind,Sem.run_pure,Result.andThen_ok,Xu hn,hsize,ne_eq,not_true,Uay];rw[hrun];simp
  ·exact h.elim
 ·rename_i id m z i f p e1;rw[e1]at r1;unfold Yyc at h;split at h
  ·rename_i ox hl;unfold Yzh at h;split at h
   ·rename_i v0 hel;obtain⟨⟨hs1,hs2⟩,h⟩:=h;cases hat:v0.at p with
    | none=>simp[hat,Yyd]at h
    | some old=>
     simp only[hat,Yyd]at h;obtain⟨hsh,hsz,hst,t',hset,hK⟩:=h;obtain⟨b,cap,E,c1,c2,c3,g1,g2,g3,g4,g5⟩:=Xwc hO hl hel;rw[Xmf]at r1;obtain⟨o,q1,q2⟩:=r1;rw[g1]at q1;simp only[Uaq]at q1;subst q1;have r1:=q2.2.2 rfl;have hre:=Wl (Rbu hst) r2;obtain⟨t'',e2,e3,h4⟩:=Ra9 p v0 old _ c2 _ g4 hat hre hsh;rw[hset]at e2;simp only[Uaq]at e2;subst e2;obtain⟨t1,o1⟩:=g5 t' _ e3 h4;obtain⟨d1,d2,d3,z1,z2,z3⟩:=Ra8 p v0 old c2 g4 hat;have hlen:=Ra0 _ _ hre;have hl2:=Ra0 _ _ z3;refine Jz (fun o ho=>?_) hK o1 t1;have hsize:(a.eval u).cells.size=n:=by
      rw[<-hsz]; unfold V.size; rw[<-hsh,<-hlen]; simp
     have eoff:i*z+f=c1.length+v0.shape.off p:=by rw[hs1,hs2,g3]
     have hl3:(a.eval u).cells.toList.length=d2.length:=by rw[hlen,hsh,<-hl2]
     have hrun:=run_storeCells_at (P:=P) b (c1.length+v0.shape.off p) E (a.eval u).cells.toList 0 (c1++(c2++c3)).toArray w g2 (by
      rw[hl3,<-z2,z1]; simp; omega) (V.one _ _ hst hre)
     simp only[execOp,ho,Instr.storeAt,Instr.sureAddr,storeVar,r1,Sem.run_bind,Sem.run_pure,Result.andThen_ok,Xu hn,hsize,ne_eq,not_true,Uay,eoff];rw[hrun];have e7:(c1++(c2++c3)).take (c1.length+v0.shape.off p)=c1++c2.take (v0.shape.off p):=by
      rw[Uad,List.take_append_of_le_length (by rw[z1,<-z2]; simp)]
     have e8:(c1++(c2++c3)).drop (c1.length+v0.shape.off p+(a.eval u).cells.toList.length)=c2.drop (v0.shape.off p+(a.eval u).cells.toList.length)++c3:=by
      rw[Uag,Uae,List.drop_append_of_le_length (by rw[z1,<-z2,hl3]; simp)]
     simp only[Sem.run_pure,Result.andThen_ok];congr 2;simp only[Nat.add_zero,List.toList_toArray]at e7 e8⊢;rw[e7,e8];simp only[Uav]
   ·exact h.elim
  ·exact h.elim
 ·exact h.elim

theorem Xuw (hs:SM w ρ sl a)(hO:OM w ρ ob){op:Op}{x:A}(hc:I.chk P op (.panic x)=true)(h:Xak ob Pn (x.ev sl)):Ja P a w ρ op K Pn:=by
 cases op<;>simp[I.chk]at hc;have r1:=A.sound hs hc;unfold Xak at h;split at h
 ·rename_i t v e1;rw[e1]at r1;have r2:=r1;rw[Wj (by simp[V.isAgg]) (by simp)]at r2;simp only[V.repC,Ua1,Ua2]at r2;obtain⟨c,r2,_⟩:=r2;intro o ho next Q _ hq
  unfold wpA;have:(execOp a.eval o).run P w=.halt (.panic (.iface t c)) w:=by simp[execOp,ho,Instr.panic,r2]
  rw[this];rw[r2]at r1;exact hq _ _ _ _ _ h r1 hO (Tr.refl _ _)
 ·rename_i t v e1;rw[e1]at r1;have r2:=r1;rw[Xap]at r2;obtain⟨c,r2,_⟩:=r2;intro o ho next Q _ hq
  unfold wpA;have:(execOp a.eval o).run P w=.halt (.panic (.iface t c)) w:=by simp[execOp,ho,Instr.panic,r2]
  rw[this];rw[r2]at r1;exact hq _ _ _ _ _ h r1 hO (Tr.refl _ _)
 ·exact h.elim

theorem reps_append {w:World}{ρ:Env}:∀{xs ys:List V} {us vs:List Value},V.reps w ρ xs us->V.reps w ρ ys vs->V.reps w ρ (xs++ys) (us++vs)
 | [],ys,us,vs,h1,h2=>by simp only[V.reps]at h1; subst h1; simpa using h2
 | x::r,ys,us,vs,h1,h2=>by
  simp only[V.reps]at h1;obtain⟨u,us',rfl,h3,h4⟩:=h1;simp only[List.cons_append,V.reps];exact⟨u,us'++vs,rfl,h3,reps_append h4 h2⟩

theorem Qi {P:Prg}(hg:ρ.gl=P.g){op:Op}{f:Nat}{vs:List V}{args:List Value}(hr:∀o:Oper,o.op=op->(execOp a.eval o).run P.p w=.ok (.enter f args.toArray) w)
  (h:ACall P f vs ob (Xcx K Pn)) (hO:OM w ρ ob) (h1:V.reps w ρ vs args):Ja P.p a w ρ op K Pn:=by
 intro o ho next Q hn hq
 unfold wpA;rw[hr o ho];simp only[Xcl];refine (h.run w ρ args hO hg h1).mono fun e w' ⟨out,ob',ρ',k,r,o1,t1⟩=>?_;cases e with
 | returned u=>
  cases out with
  | ret v=>exact hn u v ob' w' ρ' k r o1 t1
  | panic v=>exact r.elim
 | panicked ch=>
  cases out with
  | ret v=>exact r.elim
  | panic v=>obtain⟨u,rfl,r⟩:=r; exact hq u v ob' w' ρ' k r o1 t1
 | outgrown=>cases out<;>exact r.elim

theorem Yr {f:Nat}(h:Xm P f=true)(args:Array Value)(w:World):(callFunc f args).run P w=.ok (.enter f args) w:=by
 unfold Xm at h;split at h
 ·rename_i fn hf;simp only[Uai,bne_iff_ne,ne_eq]at h;obtain⟨b,hb⟩:=Ua3.1 h.2;simp[callFunc,hf,h.1,hb]
 ·simp at h

theorem Xy7 {P:Prg}(hg:ρ.gl=P.g)(hs:SM w ρ sl a)(hO:OM w ρ ob){op:Op}{f:Nat}{args:List A}(hc:I.chk P.p op (.call f args)=true)(h:ACall P f (args.map (A.ev sl)) ob (Xcx K Pn)):Ja P.p a w ρ op K Pn:=by
 cases op<;>simp only[I.chk,Uah]at hc;rename_i c;obtain⟨ca,as,ts⟩:=c;cases ca<;>(try simp only[Uah]at hc);rename_i g;cases g<;>(try simp only[Uah]at hc);simp only[Uai,Ubn]at hc;obtain⟨⟨rfl,h1⟩,h2⟩:=hc;refine Qi hg (args:=as.toList.map a.eval) (fun o ho=>?_) h hO (Zk hs h2);have:a.eval (.func f)=.func (.func f) #[] #[]:=rfl;simp only[execOp,ho,resolve,this,Deferred.ofValue,Sem.run_bind,Sem.run_pure,Result.andThen_ok,invoke,Yr h1,Zj];simp

theorem Xdl {P:Prg}(hg:ρ.gl=P.g)(hs:SM w ρ sl a)(hO:OM w ρ ob){op:Op}{f:Nat}{args:List A}(hc:I.chk P.p op (.pcall f args)=true)(h:PCall P f (args.map (A.ev sl)) ob fun v=>K v ob):Xwn P.p a w ρ op ob K:=by
 cases op<;>simp only[I.chk,Uah]at hc;rename_i c;obtain⟨ca,as,ts⟩:=c;cases ca<;>(try simp only[Uah]at hc);rename_i g;cases g<;>(try simp only[Uah]at hc);simp only[Uai,Ubn]at hc;obtain⟨⟨rfl,h1⟩,h2⟩:=hc;intro o ho next Q hn
 have hrun:(execOp a.eval o).run P.p w=.ok (.enter f (as.toList.map a.eval).toArray) w:=by
  have:a.eval (.func f)=.func (.func f) #[] #[]:=rfl;simp only[execOp,ho,resolve,this,Deferred.ofValue,Sem.run_bind,Sem.run_pure,Result.andThen_ok,invoke,Yr h1,Zj];simp
 unfold wpA;rw[hrun];simp only[Xcl];refine (h.run w ρ _ hO hg (Zk hs h2)).mono fun e w' ⟨v,u,k,he,r,x⟩=>?_;subst he;exact hn u v w' k r x

theorem Xdn {P:Prg}(hg:ρ.gl=P.g)(hs:SM w ρ sl a)(hO:OM w ρ ob){op:Op}{f:Nat}{args:List A}(hc:I.chk P.p op (.xcall f args)=true)(h:XCall P f (args.map (A.ev sl)) ob K):Xey P.p a w ρ op K:=by
 cases op<;>simp only[I.chk,Uah]at hc;rename_i c;obtain⟨ca,as,ts⟩:=c;cases ca<;>(try simp only[Uah]at hc);rename_i g;cases g<;>(try simp only[Uah]at hc);simp only[Uai,Ubn]at hc;obtain⟨⟨rfl,h1⟩,h2⟩:=hc;intro o ho next Q hn
 have hrun:(execOp a.eval o).run P.p w=.ok (.enter f (as.toList.map a.eval).toArray) w:=by
  have:a.eval (.func f)=.func (.func f) #[] #[]:=rfl;simp only[execOp,ho,resolve,this,Deferred.ofValue,Sem.run_bind,Sem.run_pure,Result.andThen_ok,invoke,Yr h1,Zj];simp
 unfold wpA;rw[hrun];simp only[Xcl];refine (h.run w ρ _ hO hg (Zk hs h2)).mono fun e w' ⟨v,b,ρ',u,k,he,r,o,t,x⟩=>?_;subst he;exact hn u v b w' ρ' k r o t x

theorem Xuv {P:Prg}(hg:ρ.gl=P.g)(hs:SM w ρ sl a)(hO:OM w ρ ob){op:Op}{x:A}{args:List A}(hc:I.chk P.p op (.callv x args)=true)(h:Va P (args.map (A.ev sl)) ob K Pn (x.ev sl)):Ja P.p a w ρ op K Pn:=by
 cases op<;>simp only[I.chk,Uah]at hc;rename_i c;obtain⟨ca,as,ts⟩:=c;cases ca<;>(try simp only[Uah]at hc);rename_i g;simp only[Uai]at hc;obtain⟨h1,h2⟩:=hc;have r1:=A.sound hs h1;unfold Va at h;split at h
 ·rename_i f fi ca e1;rw[e1,Xb5]at r1;obtain⟨fs,gs,r1,r2,r3⟩:=r1;refine Qi hg (args:=fs++as.toList.map a.eval++gs) (fun o ho=>?_) h.2 hO (reps_append (reps_append r2 (Zk hs h2)) r3);simp only[execOp,ho,resolve,r1,Deferred.ofValue,Sem.run_bind,Sem.run_pure,Result.andThen_ok,invoke,Yr h.1,Zj];simp
 ·rename_i f fi ca e1;rw[e1,Xeh]at r1;obtain⟨fs,gs,r1,r2,r3⟩:=r1;refine Qi hg (args:=fs++as.toList.map a.eval++gs) (fun o ho=>?_) h.2 hO (reps_append (reps_append r2 (Zk hs h2)) r3);simp only[execOp,ho,resolve,r1,Deferred.ofValue,Sem.run_bind,Sem.run_pure,Result.andThen_ok,invoke,Yr h.1,Zj];simp
 ·rename_i id e1;rw[e1,Xaq]at r1;obtain⟨hl,hy⟩:=h;rcases r1 with⟨b,hb,r1⟩ | ⟨hb,_⟩
  ·simp only[hdV]at r1;obtain⟨fn,tm,ca,cb,hyd,hrd⟩:=hy.run w ρ _ b hO hg (Zk hs h2) hb;intro o ho next Q hn hq
   have hrun:(execOp a.eval o).run P.p w=.ok (.round b fn tm ca cb) w:=by
    simp only[execOp,ho,resolve,r1,Deferred.ofValue,Sem.run_bind,Sem.run_pure,Result.andThen_ok,invoke];simpa[Zj]using hyd
   unfold wpA;rw[hrun];simp only[Xcl];refine hrd.mono fun e w' ⟨out,ob',ρ',k,r,o1,t1⟩=>?_;cases e with
   | returned u=>
    cases out with
    | ret v=>exact hn u v ob' w' ρ' k r o1 t1
    | panic v=>exact r.elim
   | panicked ch=>
    cases out with
    | ret v=>exact r.elim
    | panic v=>obtain⟨u,rfl,r⟩:=r; exact hq u v ob' w' ρ' k r o1 t1
   | outgrown=>cases out<;>exact r.elim
  ·exfalso;unfold Ylv at hl; split at hl
   ·rename_i hlk;obtain⟨b,_,_,_,_,_,_,h5,_⟩:=hO.one id _ hlk;rw[hb]at h5; cases h5
   ·exact hl
 ·exact h.elim

theorem X7f (hs:SM w ρ sl a)(hO:OM w ρ ob){op:Op}{x:A}(hc:I.chk P op (.mvf x)=true)(h:Xsz K (V.giv ob (x.ev sl))):Ja P a w ρ op K Pn:=by
 cases hg:V.giv ob (x.ev sl) with
 | none=>simp[hg,Xsz]at h
 | some q=>
  obtain⟨d,ob'⟩:=q;simp only[hg,Xsz]at h;cases op<;>simp[I.chk]at hc
  all_goals
   have r1:=A.sound hs hc;obtain⟨ρ',t1,o1,r2⟩:=Xcr hO r1 hg;exact X0 (fun o ho=>by simp[execOp,ho]) h r2 o1 t1

theorem X7a (hs:SM w ρ sl a)(hO:OM w ρ ob){op:Op}{n:Nat}{ag:Bool}{x:A}(hc:I.chk P op (.ldf n ag x)=true)(h:X9h n ag ob K (x.ev sl)):Ja P a w ρ op K Pn:=by
 have hc':C.chk P op (.ld n ag x)=true:=hc;unfold X9h at h;split at h
 ·rename_i id p e1;cases hat:atO ob id p with
  | none=>simp[hat,Xn2]at h
  | some v=>
   simp only[hat,Xn2]at h;obtain⟨h1,h2,h⟩:=h;cases hg:V.giv ob v with
   | none=>simp[hg,Xsz]at h
   | some q=>
    obtain⟨d,ob'⟩:=q;simp only[hg,Xsz]at h;obtain⟨u,y,hy,hr,hrun⟩:=Qu (K:=fun y=>y=v) hs hO hc' (by rw[e1]; simp only[ldK,hat,Xlk]; exact⟨h1,h2,trivial⟩);subst hy;obtain⟨ρ',t1,o1,r2⟩:=Xcr hO hr hg;exact X0 (fun o ho=>hrun o ho w (fun _=>Ext.refl w)) h r2 o1 t1
 ·exact h.elim

theorem X7b (hs:SM w ρ sl a)(hO:OM w ρ ob){op:Op}{n:Nat}{ag:Bool}{x:A}(hc:I.chk P op (.ldg n ag x)=true)(h:Ylx n ag ob K (x.ev sl)):Ja P a w ρ op K Pn:=by
 cases op<;>simp[I.chk]at hc;rename_i t y;obtain⟨⟨⟨hn,hu⟩,hag⟩,h1⟩:=hc;have r1:=A.sound hs h1;unfold Ylx at h;split at h
 ·rename_i id p e1;rw[e1]at r1;cases hat:atO ob id p with
  | none=>simp[hat,X1k]at h
  | some v=>
   simp only[hat,X1k]at h;obtain⟨h2,h3,h⟩:=h;cases hg:Rby 40000 ob v with
   | none=>simp[hg,X1j]at h
   | some q=>
    obtain⟨d,ob1⟩:=q;simp only[hg,X1j]at h;obtain⟨hsh,h⟩:=h;obtain⟨t0,b',cs,E,g1,g2,g3,g4,g5⟩:=Xdh hO hat;obtain⟨b,sh,hρ,r1⟩:=Zb hO g1 r1;rw[hρ]at g3;simp only[Uaq,RO.box.injEq]at g3;obtain⟨rfl,rfl⟩:=g3;obtain⟨c1,c2,c3,e2,e3,h4⟩:=Ra8 p t0 v cs g5 g2;obtain⟨⟨ρ',t1,o1,hx,hxa⟩,hk⟩:=Xk3 40000 v ob ρ c2 d ob1 hO h4 hg;have hlk:Xd ob1 id=some (.box E t0):=by
     rcases hk id with h5 | h5
     ·rw[h5,g1]
     ·rw[h5]at h; exact h.elim
    rw[hlk]at h;simp only[X9i]at h;obtain⟨t',hset,hK⟩:=h;have hρ':ρ'.m id=some (.box b t0.shape):=by
     obtain⟨o',p1,p2⟩:=t1.same id _ hρ;obtain⟨b2,cs2,q1,_⟩:=o1.one id _ hlk;rw[p1]at q1;cases p2 with
     | refl=>exact p1
     | gone=>cases q1
     | grow _ hh=>rcases hh with⟨hq,_⟩ | ⟨_,_,hq⟩<;>cases hq
    have g5':=Rat t1 _ _ g5;obtain⟨t'',e4,e5,h6⟩:=Ra9 p t0 v (.d d) cs c2 g5' g2 (by simpa only[V.repC]using hx) (by simpa only[V.shape]using hsh);rw[hset]at e4;simp only[Uaq]at e4;subst e4;have e7:cs.take (t0.shape.off p)++(c2++cs.drop (t0.shape.off p+c2.length))=cs:=by
     rw[<-e3,e2]; simp
    rw[e7]at h6;have o2:=o1.swap hlk (x':=.box E t') ⟨b,cs,by rw[e5]; exact hρ',g4,h6⟩;have hl:c2.length=n:=by rw[Ra0 _ _ h4,<-h2]; rfl
    have hrun:=Xhf (P:=P) (t:=t) (n:=n) hn hu (b:=b) (off:=t0.shape.off p) (cs:=c2) hl (w':=w) (fun i hi=>by
     rw[<-e3];simp[World.cell?,g4,e2,Ubc,hi]) (fun h4=>by rw[hag]at h4; rw[h4]at h3; rw[<-h2]; exact Wh h3)
    have hre:=Vp (w:=w) (ρ:=ρ') (v:=.d d) (cs:=c2) (by simpa only[V.repC]using hx);have hda:(V.d d).isAgg=ag:=by
     rw[<-h3,<-hxa]; cases d<;>rfl
    rw[hda]at hre;refine X0 (fun o ho=>?_) hK hre o2 t1;simp only[execOp,ho,r1,Sem.run_bind,hrun,Result.andThen_ok,Sem.run_pure,hag]
 ·exact h.elim

theorem Xtp (hO:OM w ρ ob){E sz:Nat}{y x:V}{p:List Nat}(h:Xls ob E sz p y K x):∃ρ' ob',Tr w ρ w ρ'/\OM w ρ' ob'/\K y ob':=by
 unfold Xls at h;split at h
 ·rename_i id q;unfold Xe5 at h;split at h
  ·rename_i E0 t hl;rcases h with⟨hat,h⟩ | ⟨_,h⟩
   case inr=>exact⟨ρ,ob,Tr.refl w ρ,hO,h⟩
   obtain⟨b,cs,g1,g2,g3⟩:=hO.one id _ hl;have hne:id ≠ Xa ob:=by intro e; subst e; rw[X2]at hl; cases hl
   have hbl:∀b,RO.virt.blk? = some b->w.heap.size<=b:=fun b hb=>by simp[RO.blk?]at hb
   have t1:=Vn w (Ext.refl w) (o:=.virt) (hO.free (X2 ob)) hbl;have o1:OM w (ρ.ins (Xa ob) .virt) ((Xa ob,.arr E sz [])::ob):=hO.ins (Ext.refl w) (X2 ob) hbl (.inl ⟨by simp[Env.ins],rfl⟩);have g3':=Rat t1 _ _ g3;obtain⟨c1,c2,c3,e2,e3,h4⟩:=Ra8 (q++p) t (.d .nils) cs g3' hat;simp only[V.repC,D.rep]at h4;subst h4;obtain⟨t',e4,e5,h6⟩:=Ra9 (q++p) t (.d .nils) (.sl (Xa ob) 0) cs [.slice none 0 0] g3' hat (by simp only[V.repC]; exact⟨.virt,_,by simp[Env.ins],rfl,rfl,rfl⟩) (by simp[V.shape,D.shape]);rw[e4]at h;simp only[Xlu]at h;have e7:cs.take (t.shape.off (q++p))++([Value.slice none 0 0]++cs.drop (t.shape.off (q++p) + [Value.slice none 0 0].length))=cs:=by
    rw[<-e3,e2]; simp
   rw[e7]at h6;have hl1:Xd ((Xa ob,Ob.arr E sz [])::ob) id=some (.box E0 t):=by simp[Xd,hne.symm,hl]
   obtain⟨t2,o2⟩:=Xmt o1 (t':=t') hl1 (by simp[Env.ins,hne,g1]) g2 e5 h6;have hw:w.setRow b cs.toArray=w:=by
    have:w.heap[b]? = some (.cells cs.toArray E0 (0,0)):=g2;obtain⟨hb,hb'⟩:=Array.getElem?_eq_some_iff.1 this;unfold World.setRow;have hh:(w.heap.modify b fun o=>match o with | .cells _ e f=>.cells cs.toArray e f | o=>o)=w.heap:=by
     apply Array.ext_getElem?;intro j;rw[Ub2];split
     ·rename_i e; subst e; rw[this]; simp
     ·rfl
    cases w;simp only[World.mk.injEq,Ua2,true_and];exact hh
   rw[hw]at t2 o2;simp only[setO,hne.symm,Uay]at o2;exact⟨_,_,t1,o2,h⟩
  ·exact h.elim
 ·exact h.elim

theorem Xtq {y x:V}:∀{l:List (Nat×Nat×List Nat)} {ρ ob},OM w ρ ob->Xvm y K x l ob->∃ρ' ob',Tr w ρ w ρ'/\OM w ρ' ob'/\K y ob'
 | [],ρ,ob,hO,h=>⟨ρ,ob,Tr.refl w ρ,hO,h⟩
 | e::l,ρ,ob,hO,h=>by
  obtain⟨ρ1,ob1,t1,o1,h1⟩:=Xtp hO h;obtain⟨ρ2,ob2,t2,o2,h2⟩:=Xtq o1 h1;exact⟨ρ2,ob2,t1.trans t2,o2,h2⟩

theorem X7g (hs:SM w ρ sl a)(hO:OM w ρ ob){op:Op}{E sz:Nat}{y x:A}{p:List Nat}(hc:I.chk P op (.mvg E sz y x p)=true)(h:Xls ob E sz p (y.ev sl) K (x.ev sl)):Ja P a w ρ op K Pn:=by
 obtain⟨ρ',ob',t1,o1,h1⟩:=Xtp hO h;cases op<;>simp[I.chk]at hc
 all_goals
  have r1:=A.sound hs hc;exact X0 (fun o ho=>by simp[execOp,ho]) h1 (Raw t1 r1) o1 t1

theorem X7h (hs:SM w ρ sl a)(hO:OM w ρ ob){op:Op}{y x:A}{l:List (Nat×Nat×List Nat)}(hc:I.chk P op (.mvn y x l)=true)(h:Xvm (y.ev sl) K (x.ev sl) l ob):Ja P a w ρ op K Pn:=by
 obtain⟨ρ',ob',t1,o1,h1⟩:=Xtq hO h;cases op<;>simp[I.chk]at hc
 all_goals
  have r1:=A.sound hs hc;exact X0 (fun o ho=>by simp[execOp,ho]) h1 (Raw t1 r1) o1 t1
end
end Go.Ab
namespace Go.Ab
open Go
section
variable {P:Program} {a:Act} {w:World} {ρ:Env} {sl:Xf} {ob:Xb} {K Pn:V->Xb->Prop}

theorem Xqj (hs:SM w ρ sl a){z:List D}{parts:List (Nat×A)}{t e:TypeId}{len sz:Nat}{ps:Array (Nat×Operand)}{K:List V->Prop}(hst:P.underlying t=some (.slice e))(he:Yh P e=some sz)
  (hp:W0 ps.toList parts=true) (hl:z.length=len) (h24:len*sz<=2 ^ 24) (hu:∀x∈z,x.sz=sz) (hz:(match Xew P e len sz with | some cs=>Rbg z cs | none=>false)=true)
  (h:Jw (z.map .d) (parts.map fun (i,x)=>(i,x.ev sl)) K) :
  ∃ks cs,K ks/\Rap w ρ ks cs/\ks.map V.shape=(z.map V.d).map V.shape/\∀o:Oper,o.op=.buildSlice t len ps->(execOp a.eval o).run P w=.ok (.value (.slice (some ⟨w.heap.size,0,none⟩) len len)) (Xay w (.cells cs.toArray e)):=by
 cases hzr:Xew P e len sz with
 | none=>simp[hzr]at hz
 | some cs=>
  simp only[hzr]at hz;have hrep:Rap w ρ (z.map .d) cs:=(Ray z cs).2 (Rbi z cs hz);have hplace:∀i,i<((z.map V.d).map V.shape).length->(fun i=>some (i*sz,sz)) i=some (Sh.sizes (((z.map V.d).map V.shape).take i),(((z.map V.d).map V.shape).getD i .leaf).size):=by
   intro i hi;have hi':i<z.length:=by simpa using hi
   have hx:z[i].shape.size=sz:=by rw[Ran]; exact hu _ (Uba hi')
   rw[<-Xt6,Raj (sz:=sz) _ (fun x hx=>hu x (Ua6 hx)),Ua7,Ua8 (by omega)];simp[hi',V.shape,hx]
  have hkeep:∀(ks:List V) (ps:List (Nat×V)) (K:List V->Prop),Jw ks ps K->Jw ks ps (fun ks'=>K ks'/\ks'.map V.shape=ks.map V.shape):=by
   intro ks ps;induction ps generalizing ks with
   | nil=>intro K h; exact⟨h,rfl⟩
   | cons p r ih=>
    obtain⟨i,v⟩:=p;intro K h;simp only[Jw]at h⊢;obtain⟨h1,h2,h3,h4⟩:=h;refine⟨h1,h2,h3,?_⟩;have h5:=ih (ks.set i v) K h4;have e:(ks.set i v).map V.shape=ks.map V.shape:=by
     rw[Uas,h2];apply Uat;intro j;by_cases hj:i=j
     ·subst hj; rw[Uau]; simp[h1]
     ·rw[Uau]; simp[hj]
    rw[e]at h5;exact h5
  obtain⟨ks',cs',⟨hK,hsh⟩,hR,hF⟩:=Xg6 (sl:=sl) hs (fun i=>some (i*sz,sz)) ((z.map V.d).map V.shape) hplace ps.toList parts (z.map .d) cs _ hp hrep rfl (hkeep _ _ _ h);refine⟨ks',cs',hK,hR,hsh,fun o ho=>?_⟩;have hparts:∀ρ':Operand->Value,(ps.map fun (i,x)=>(i,ρ' x)).toList=ps.toList.map fun (i,x)=>(i,ρ' x):=fun ρ'=>by simp
  simp only[execOp,ho,Instr.buildSlice,Sem.run_bind,Xe hst,Xu he,Result.andThen_ok,hparts];rw[Ubo (by omega)];unfold Xew at hzr;by_cases h0:len*sz=0
  ·simp only[h0,Ubb,Uaq]at hzr;subst hzr;simp only[h0,Ubb,Sem.run_pure];have:(Array.map (fun x=>(#[]:Array Value)[x % (#[]:Array Value).size]!) (Array.range 0))=([]:List Value).toArray:=by simp
   simp only[this,hF,newRow,Sem.run_bind,run_newObj,Result.andThen_ok,Sem.run_pure];rfl
  ·simp only[h0,Uay]at hzr⊢;cases hzt:Q4 P e with
   | none=>simp[hzt]at hzr
   | some zc=>
    simp only[hzt,Option.map_some,Uaq]at hzr;obtain⟨zv,e1,_,hzrun⟩:=Qy hzt;have e2:zv.cells=zc.toArray:=by rw[<-e1]
    have e3:Array.map (fun x=>zv.cells[x % zv.cells.size]!) (Array.range (len*sz))=cs.toArray:=by
     rw[e2,<-hzr,Array.toArray_toList]
    simp only[Sem.run_bind,hzrun,Result.andThen_ok,Sem.run_pure,e3,hF,newRow,run_newObj];rfl

theorem Xb7 {l z:List D}{sz:Nat}(h:(l.map V.d).map V.shape=(z.map V.d).map V.shape)(hu:∀x∈z,x.sz=sz):l.length=z.length/\∀x∈l,x.sz=sz:=by
 have hlen:l.length=z.length:=by simpa using Ua4 List.length h
 refine⟨hlen,fun x hx=>?_⟩;obtain⟨i,hi,rfl⟩:=List.getElem_of_mem hx;have h1:=Ua4 (fun s:List Sh=>(s.getD i .leaf).size) h;simp only[Ub3,List.getElem?_map,Ubf hi,Ubf (hlen▸hi),Option.map_some,Option.getD_some,V.shape,Ran]at h1;rw[h1]; exact hu _ (Uba _)

theorem Xnh {z:List D}{parts:List (Nat×A)}{op:Op}{sz:Nat}{E? : Option Nat}
  (hc:Xfi P op E? sz z parts=true) :
  ∃t len ps e,op=.buildSlice t len ps/\P.underlying t=some (.slice e)/\(∀E,E? = some E->e=E)/\Yh P e=some sz/\W0 ps.toList parts=true/\z.length=len/\len*sz<=2 ^ 24/\(∀x∈z,x.sz=sz)/\(match Xew P e len sz with | some cs=>Rbg z cs | none=>false)=true:=by
 cases op<;>simp only[Xfi,Uah]at hc;rename_i t len ps;simp only[Uai]at hc;obtain⟨hp,hc⟩:=hc;split at hc
 ·rename_i e hst;simp only[Uai,Ubn,Ubp,Ubt]at hc;obtain⟨⟨⟨⟨⟨h0,h1⟩,h2⟩,h3⟩,h4⟩,h5⟩:=hc;refine⟨t,len,ps,e,rfl,hst,fun E hE=>?_,h1,hp,h2,h3,h4,h5⟩;subst hE; simpa using h0
 ·simp at hc

theorem Xrk (hs:SM w ρ sl a)(hO:OM w ρ ob){op:Op}{sz:Nat}{z:List D}{parts:List (Nat×A)}(hc:I.chk P op (.bls sz z parts)=true)
  (h:Jw (z.map .d) (parts.map fun (i,x)=>(i,x.ev sl)) fun ks=>dK (fun l=>K (.d (.list sz l)) ob) (Ra5 ks)):Xwe P a w ρ op ob K:=by
 obtain⟨t,len,ps,e,rfl,hst,_,he,hp,hl,h24,hu,hz⟩:=Xnh (P:=P) (op:=op) (z:=z) (parts:=parts) (sz:=sz) (E?:=none) hc;obtain⟨ks,cs,hK,hR,hsh,hrun⟩:=Xqj hs hst he hp hl h24 hu hz h;cases ha:Ra5 ks with
 | none=>simp[ha,dK]at hK
 | some l=>
  simp only[ha,dK]at hK;have e1:=V.allD_map ha;subst e1;rw[Ray]at hR;obtain⟨g1,g2⟩:=Xb7 hsh hu;have he2:=Zp w (.cells cs.toArray e);refine⟨_,_,_,hK,Zn.2 (.inr ⟨_,len,cs,by rw[g1,hl],by omega,?_,Raf (he2.tr (ρ:=ρ)).mono _ _ hR,g2⟩),he2,hrun⟩;refine⟨fun _=>⟨rfl,?_,?_⟩,fun i hi=>?_⟩
  ·rintro (⟨id,o,h1,h2⟩ | h1)
   ·have:=Wy hO h1 h2; simp at this
   ·have:=hO.xlt _ h1; simp at this
  ·have:=Zx w (.cells cs.toArray e); exact Xj this
  ·simp[World.cell?,Zx,hi]

theorem Xkh (hs:SM w ρ sl a)(hO:OM w ρ ob){op:Op}{E sz:Nat}{z:List D}{parts:List (Nat×A)}(hc:I.chk P op (.blo E sz z parts)=true)
  (h:Jw (z.map .d) (parts.map fun (i,x)=>(i,x.ev sl)) fun ks=>dK (fun l=>K (.sl (Xa ob) l.length) ((Xa ob,.arr E sz l)::ob)) (Ra5 ks)):Xey P a w ρ op K:=by
 have hfree:=X2 ob;obtain⟨t,len,ps,e,rfl,hst,hE,he,hp,hl,h24,hu,hz⟩:=Xnh (P:=P) (op:=op) (z:=z) (parts:=parts) (sz:=sz) (E?:=some E) hc;obtain rfl:=hE E rfl;obtain⟨ks,cs,hK,hR,hsh,hrun⟩:=Xqj hs hst he hp hl h24 hu hz h;cases ha:Ra5 ks with
 | none=>simp[ha,dK]at hK
 | some l=>
  simp only[ha,dK]at hK;have e1:=V.allD_map ha;subst e1;rw[Ray]at hR;obtain⟨g1,g2⟩:=Xb7 hsh hu;have he2:=Zp w (.cells cs.toArray e);have hbl:∀b,(RO.arr w.heap.size l.length l.length).blk? = some b->w.heap.size<=b:=fun b hb=>by simp[RO.blk?]at hb; omega
  have t1:=Vn _ he2 (o:=.arr w.heap.size l.length l.length) (hO.free hfree) hbl;refine Z7 hrun hK (Yl.2 ⟨_,by simp[Env.ins]; rfl,?_⟩) (hO.ins he2 hfree hbl ?_) t1 he2
  ·simp only[RO.slice];exact⟨Uak _,⟨_,_,_,rfl⟩,fun _=>by rw[g1,hl]⟩
  ·refine .inr ⟨w.heap.size,l.length,cs,[],by simp[Env.ins],by simpa using Zx w (.cells cs.toArray e),Raf t1.mono _ _ hR,g2,?_⟩;rw[Ub4,Rah _ _ hR,Raj _ g2]

theorem Xe7 {l:List V}{z:List D}{sz:Nat}(h:l.map V.shape=(z.map V.d).map V.shape)(hu:∀x∈z,x.sz=sz):l.length=z.length/\∀x∈l,x.size=sz:=by
 have hlen:l.length=z.length:=by simpa using Ua4 List.length h
 refine⟨hlen,fun x hx=>?_⟩;obtain⟨i,hi,rfl⟩:=List.getElem_of_mem hx;have h1:=Ua4 (fun s:List Sh=>(s.getD i .leaf).size) h;simp only[Ub3,List.getElem?_map,Ubf hi,Ubf (hlen▸hi),Option.map_some,Option.getD_some,V.shape,Ran]at h1;unfold V.size;rw[h1]; exact hu _ (Uba _)
theorem Xki (hs:SM w ρ sl a)(hO:OM w ρ ob){op:Op}{E sz:Nat}{z:List D}{parts:List (Nat×A)}(hc:I.chk P op (.blv E sz z parts)=true)
  (h:Jw (z.map .d) (parts.map fun (i,x)=>(i,x.ev sl)) fun ks=>K (.sl (Xa ob) ks.length) ((Xa ob,.vec E sz ks)::ob)):Xey P a w ρ op K:=by
 have hfree:=X2 ob;obtain⟨t,len,ps,e,rfl,hst,hE,he,hp,hl,h24,hu,hz⟩:=Xnh (P:=P) (op:=op) (z:=z) (parts:=parts) (sz:=sz) (E?:=some E) hc;obtain rfl:=hE E rfl;obtain⟨ks,cs,hK,hR,hsh,hrun⟩:=Xqj hs hst he hp hl h24 hu hz h;obtain⟨g1,g2⟩:=Xe7 hsh hu;have he2:=Zp w (.cells cs.toArray e);have hbl:∀b,(RO.arr w.heap.size ks.length ks.length).blk? = some b->w.heap.size<=b:=fun b hb=>by simp[RO.blk?]at hb; omega
 have t1:=Vn _ he2 (o:=.arr w.heap.size ks.length ks.length) (hO.free hfree) hbl;refine Z7 hrun hK (Yl.2 ⟨_,by simp[Env.ins]; rfl,?_⟩) (hO.ins he2 hfree hbl ?_) t1 he2
 ·simp only[RO.slice];exact⟨Uak _,⟨_,_,_,rfl⟩,fun _=>by rw[g1,hl]⟩
 ·refine .inr ⟨w.heap.size,ks.length,cs,[],by simp[Env.ins],by simpa using Zx w (.cells cs.toArray e),Rau t1 _ _ hR,g2,?_⟩;rw[Ub4,Ra1 _ _ hR,V.shapes_eq,Yf (z:=sz) _ g2]

theorem J5 (hO:OM w ρ ob){id:Nat}{x x':Ob}{o:RO}{w':World}(hl:Xd ob id=some x)(t:Tr w ρ w' (ρ.ins id o))(hx:Un w' (ρ.ins id o) id x')
  (hb:∀b,o.blk? = some b->w.heap.size<=b\/∃p,ρ.m id=some p/\p.blk? = some b) (hk:∀j p b,j ≠ id->ρ.m j=some p->p.blk? = some b->w'.heap[b]? = w.heap[b]?):OM w' (ρ.ins id o) (setO ob id x'):=by
 refine⟨fun j y hy=>?_,fun j p hj=>?_,fun i j p q b h1 h2 h3 h4=>?_,fun b hb=>Uaz (hO.xlt b hb) t.size,J4 t hO.glb,fun b h1 h2=>?_,hO.once.set⟩
 ·rw[Xs ob id j ⟨_,hl⟩]at hy;split at hy
  ·rename_i e; subst e; simp at hy; subst hy; exact hx
  ·rename_i e;exact Un.tr t (hO.one j y hy) (by simp[Env.ins,e]) (fun b p h1 h2=>hk j p b e h1 h2)
 ·rw[Xs ob id j ⟨_,hl⟩];split
  ·exact⟨_,rfl⟩
  ·rename_i e; exact hO.dom j p (by simpa[Env.ins,e]using hj)
 ·simp only[Env.ins]at h1 h2;split at h1
  ·rename_i e1;split at h2
   ·rename_i e2; exact e1.trans e2.symm
   ·simp at h1; subst h1;rcases hb b h3 with h5 | ⟨r,h5,h6⟩
    ·have:=Wy hO h2 h4; omega
    ·subst e1; exact hO.inj _ _ _ _ _ h5 h2 h6 h4
  ·split at h2
   ·rename_i e2;simp at h2; subst h2;rcases hb b h4 with h5 | ⟨r,h5,h6⟩
    ·have:=Wy hO h1 h3; omega
    ·subst e2; exact hO.inj _ _ _ _ _ h1 h5 h3 h6
   ·exact hO.inj i j p q b h1 h2 h3 h4
 ·obtain⟨i,p,h3,h4⟩:=h1;simp only[Env.ins]at h3 h2;split at h3
  ·simp at h3; subst h3;rcases hb b h4 with h5 | ⟨r,h5,h6⟩
   ·have:=hO.xlt b h2; omega
   ·exact hO.xdis b ⟨_,r,h5,h6⟩ h2
  ·exact hO.xdis b ⟨i,p,h3,h4⟩ h2
end
end Go.Ab
namespace Go.Ab
open Go
section
variable {P:Program} {a:Act} {w:World} {ρ:Env} {sl:Xf} {ob:Xb} {K Pn:V->Xb->Prop}

theorem Yb.len:∀{es:List (D×V)} {l:List MapEntry},Yb w ρ es l->l.length=es.length
 | [],l,h=>by simp only[Yb]at h; subst h; rfl
 | (k,v)::r,l,h=>by obtain⟨e,l',rfl,_,_,h3⟩:=h; simp[Yb.len h3]
theorem Yb.nth:∀{es:List (D×V)} {l:List MapEntry},Yb w ρ es l->∀(i:Nat) (e:MapEntry),l[i]? = some e->(es.getD i default).1.key=some e.key/\(es.getD i default).2.rep w ρ e.val
 | [],l,h,i,e,he=>by simp only[Yb]at h; subst h; simp at he
 | (k,v)::r,l,h,0,e,he=>by obtain⟨e',l',rfl,h1,h2,h3⟩:=h; simp at he; subst he; exact⟨h1,h2⟩
 | (k,v)::r,l,h,i+1,e,he=>by obtain⟨e',l',rfl,h1,h2,h3⟩:=h; simpa using Yb.nth h3 i e (by simpa using he)
theorem Xa0.nth:∀{l:List MapEntry} {n:Nat},Xa0 n l->∀(i:Nat) (e:MapEntry),l[i]? = some e->e.born=n+i
 | [],n,h,i,e,he=>by simp at he
 | x::r,n,h,0,e,he=>by simp at he; subst he; simpa using h.1
 | x::r,n,h,i+1,e,he=>by have:=Xa0.nth h.2 i e (by simpa using he); omega
theorem Rb3 {l:List MapEntry}(h:Xa0 0 l){e:MapEntry}(he:e∈l):e.born<l.length/\l[e.born]? = some e:=by
 obtain⟨i,hi,rfl⟩:=Ub5.1 he;have:=Xa0.nth h i _ (Ubf hi);rw[Ub6]at this;exact⟨by omega,by rw[this]; exact Ubf hi⟩
theorem Xa0.find {l:List MapEntry}(h:Xa0 0 l){i:Nat}{e:MapEntry}(he:l[i]? = some e):l.find? (·.born==i)=some e:=by
 cases hf:l.find? (·.born==i) with
 | none=>
  have:=List.find?_eq_none.1 hf e (List.mem_of_getElem? he);have h2:=Xa0.nth h i e he;rw[Ub6]at h2;simp[h2]at this
 | some x=>
  have h1:=List.find?_some hf;have h2:=(Rb3 h (List.mem_of_find?_eq_some hf)).2;have h3:x.born=i:=by simpa using h1
  rw[h3,he]at h2;exact h2.symm▸rfl
theorem U5 {ow:Nat->Prop}:∀{xs:List D} {us:List Value},Vk xs=some us->Rac w ow xs us
 | [],us,h=>by simp only[Vk,Uaq]at h; subst h; rfl
 | x::r,us,h=>by
  simp only[Vk]at h;split at h
  ·rename_i u us' h1 h2;cases h;simp only[Rac];refine⟨[u],us',rfl,?_,U5 h2⟩;cases x<;>simp only[D.key0,Uaq,reduceCtorEq]at h1<;>subst h1<;>simp[D.rep]
  ·cases h
theorem Zh {o:Option (List Value)}{u:Value}(h:Yyr o=some u):∃us,o=some us/\u=.agg us.toArray:=by
 cases o with
 | none=>cases h
 | some us=>cases h; exact⟨us,rfl,rfl⟩
theorem X1d {d:D}{u:Value}(h:d.key=some u):(V.d d).rep w ρ u:=by
 cases d<;>simp only[D.key,Uaq,reduceCtorEq]at h
 ·subst h; exact X9.2 rfl
 ·subst h; exact rep_bool.2 rfl
 ·subst h; exact Vf.2 rfl
 ·obtain⟨us,h1,rfl⟩:=Zh h;exact .inr (.inl ⟨rfl,us,rfl,by simp only[V.repC,D.rep]; exact U5 h1⟩)

theorem X1h (h:OM w ρ ob)(o:Obj)(x:Ob)(hx:Un (Xay w o) (ρ.ins (Xa ob) (.map w.heap.size)) (Xa ob) x) :
  Tr w ρ (Xay w o) (ρ.ins (Xa ob) (.map w.heap.size))/\OM (Xay w o) (ρ.ins (Xa ob) (.map w.heap.size)) ((Xa ob,x)::ob)/\Ext w (Xay w o):=by
 have he:=Zp w o;have hl:=X2 ob;exact⟨Vn _ he (o:=.map w.heap.size) (h.free hl) (fun b hb=>by simp[RO.blk?]at hb; omega),h.ins he hl (fun b hb=>by simp[RO.blk?]at hb; omega) hx,he⟩

theorem Xkk (hs:SM w ρ sl a)(hO:OM w ρ ob){op:Op}{x:A}(hc:I.chk P op (.rng x)=true)(h:Ylb ob K (x.ev sl) (Xd ob (Ybv (x.ev sl)))):Xey P a w ρ op K:=by
 cases op<;>simp only[I.chk,Uah,Uai]at hc;rename_i t y;obtain⟨ht,hy⟩:=hc;obtain⟨kt,et,ht⟩:∃kt et,P.underlying t=some (.map kt et):=by revert ht; split<;>simp_all
 have r1:=A.sound hs hy;generalize x.ev sl=v at h r1;unfold Ylb at h;split at h
 ·rename_i id es hl;simp only[Ybv]at hl;obtain⟨b,l,clk,g1,g2,g3,rfl,g5⟩:=hO.one id _ hl;rw[Xgb]at r1;rcases r1 with⟨b',g4,r1⟩ | ⟨g4,_⟩
  ·rw[g1]at g4; cases g4;have hne:id ≠ Xa ob:=fun e=>by rw[e,X2]at hl; cases hl
   obtain⟨t1,o1,e1⟩:=X1h hO (.mapIter (some b) l.length #[] l.length) (.it (some id) es.length []) ⟨w.heap.size,b,by simp[Env.ins],.inl (by simp[Env.ins,hne,g1]),by rw[Zx,g3.len]⟩;refine Z7 (fun o ho=>?_) h (Xaq.2 (.inl ⟨w.heap.size,by simp[Env.ins],rfl⟩)) o1 t1 e1;have hget:(getObj b).run P w=.ok (.map l.toArray l.length) w:=by simp[getObj,Sem.run,g2]
   simp only[execOp,ho,Instr.range,r1,Sem.run_bind,Xe ht,Result.andThen_ok,hget,run_newObj,Sem.run_pure];rfl
  ·rw[g1]at g4; cases g4
 ·rw[Xar]at r1;obtain⟨t1,o1,e1⟩:=X1h hO (.mapIter none 0 #[] 0) (.it none 0 []) ⟨w.heap.size,by simp[Env.ins],by rw[Zx]⟩;refine Z7 (fun o ho=>?_) h (Xaq.2 (.inl ⟨w.heap.size,by simp[Env.ins],rfl⟩)) o1 t1 e1;simp only[execOp,ho,Instr.range,r1,Sem.run_bind,Xe ht,Result.andThen_ok,run_newObj,Sem.run_pure];rfl
 ·exact h.elim

theorem Xua (h:OM w ρ ob){id b:Nat}{y x:Ob}{o:Obj}(hl:Xd ob id=some y)(hr:ρ.m id=some (.map b))(hb:b<w.heap.size)(hx:Un (Xaz w b o) ρ id x) :
  Tr w ρ (Xaz w b o) ρ/\OM (Xaz w b o) ρ (setO ob id x):=by
 have t1:Tr w ρ (Xaz w b o) ρ:=by
  refine⟨by rw[Vh]; exact Uak _,fun j hj _=>Zv w _ (fun e=>hj ?_),fun _ h=>.inl h,rfl,rfl,fun _ o h=>⟨o,h,.refl o⟩,rfl,rfl,rfl,Uak _⟩;subst e; exact⟨id,_,hr,rfl⟩
 refine⟨t1,fun j z hz=>?_,fun j o hj=>?_,h.inj,fun b' hb'=>by rw[Vh]; exact h.xlt b' hb',J4 t1 h.glb,h.xdis,h.once.set⟩
 ·rw[Xs ob id j ⟨_,hl⟩]at hz;split at hz
  ·rename_i e; subst e;simp at hz; subst hz;exact hx
  ·rename_i e;refine Un.tr t1 (h.one j z hz) rfl (fun b' o h1 h2=>Zv w _ (fun e2=>e ?_));subst e2;exact h.inj j id _ _ _ h1 hr h2 rfl
 ·rw[Xs ob id j ⟨_,hl⟩];split
  ·exact⟨_,rfl⟩
  ·exact h.dom j o hj

theorem Qs {b:Nat}{o y:Obj}(w:World)(hb:w.heap[b]? = some y)(hy:y.isCells=false):(setObj b o).run P w=.ok () (Xaz w b o):=by
 cases y<;>simp_all[setObj,Sem.run,Xaz,Obj.isCells]
theorem Yac (P:Program)(w:World){n:Nat}(hn:0<n):∃k w',(choose (.mapNext n)).run P w=.ok k w'/\k<n/\Ext w w'/\w'.heap=w.heap:=by
 rw[run_choose_drew];split
 ·exact⟨0,w,rfl,hn,Ext.refl w,rfl⟩
 ·exact⟨_,_,rfl,Nat.mod_lt _ hn,Rba w _,rfl⟩

theorem X7i (hs:SM w ρ sl a)(hO:OM w ρ ob){op:Op}{x:A}(hc:I.chk P op (.nxt x)=true)(h:X9w ob K (x.ev sl)):Ja P a w ρ op K Pn:=by
 cases op<;>simp only[I.chk,Uah]at hc;rename_i y st;cases st<;>simp only[Uah]at hc;have r1:=A.sound hs hc;generalize x.ev sl=v at h r1;unfold X9w at h;split at h
 ·rename_i id;have tupF:(V.tup [.d (.bool false)]).rep w ρ (.tuple #[.bool false]):=by
   rw[We]; exact⟨[.bool false],rfl,by simp only[V.reps]; exact⟨_,_,rfl,rep_bool.2 rfl,rfl⟩⟩
  unfold Xl4 at h;split at h
  ·rename_i n sn hl;obtain⟨b,g1,g2⟩:=hO.one id _ hl;rw[Xaq]at r1;rcases r1 with⟨b',g4,r1⟩ | ⟨g4,_⟩
   ·rw[g1]at g4; cases g4;simp only[hdV]at r1;have hget:(getObj b).run P w=.ok (.mapIter none 0 #[] 0) w:=by simp[getObj,Sem.run,g2]
    exact X0 (fun o ho=>by simp[execOp,ho,Instr.next,r1,hget]) h tupF hO (Tr.refl _ _)
   ·rw[g1]at g4; cases g4
  ·rename_i j n seen hl;obtain⟨b,mb,g1,g2,g3⟩:=hO.one id _ hl;rw[Xaq]at r1;rcases r1 with⟨b',g4,r1⟩ | ⟨g4,_⟩
   ·rw[g1]at g4; cases g4;simp only[hdV]at r1;unfold Xvq at h;split at h
    ·rename_i es hlm;obtain⟨hlen,hov,hel⟩:=h;obtain⟨mb',l,clk,m1,m2,m3,rfl,m5⟩:=hO.one j _ hlm;rcases g2 with g2 | g2
     ·rw[m1]at g2; cases g2;have hln:l.length=n:=by rw[m3.len,hlen]
      have hget:(getObj b).run P w=.ok (.mapIter (some mb) n seen.toArray n) w:=by simp[getObj,Sem.run,g3]
      have hgm:(getObj mb).run P w=.ok (.map l.toArray l.length) w:=by simp[getObj,Sem.run,m2]
      have hbad:(!seen.toArray.isEmpty&&!l.toArray.isEmpty&&l.toArray.all (fun e=>decide (e.born≥n)))=false:=by
       cases l with
       | nil=>simp
       | cons e r=>
        have h0:=m5.1;have:decide (e.born≥n)=false:=by simp[h0]; rw[<-hln]; simp
        simp[this]
      let left:Array MapEntry:=l.toArray.filter fun e=>!seen.toArray.contains e.born;have hold:left.filter (fun e=>decide (e.born<n))=left:=by
       rw[Array.filter_eq_self];intro e he;have he':=(Array.mem_filter.1 he).1;have:=(Rb3 m5 (by simpa using he')).1;simp; omega
      have hnew:left.filter (fun e=>decide (e.born≥n))=#[]:=by
       rw[Array.filter_eq_empty_iff];intro e he;have he':=(Array.mem_filter.1 he).1;have:=(Rb3 m5 (by simpa using he')).1;simp; omega
      have hold2:Array.filter (fun x=>decide (x.born<n)) (Array.filter (fun e=>!seen.toArray.contains e.born) l.toArray)=left:=hold;have hnew2:Array.filter (fun x=>decide (x.born≥n)) (Array.filter (fun e=>!seen.toArray.contains e.born) l.toArray)=#[]:=hnew;let cand:Array (Option MapEntry):=(if left.isEmpty then #[none] else #[])++(left++#[]).map some;have hcs:0<cand.size:=by
       simp only[cand];cases hle:left.isEmpty with
       | true=>simp; omega
       | false=>simp[Array.isEmpty_iff]at hle; simp; exact Array.size_pos_iff.2 hle
      obtain⟨k,w1,hk1,hk2,hx1,hh1⟩:=Yac P w hcs;have hO1:=hO.ext hx1;cases hck:cand[k]? with
      | none=>simp[Array.getElem?_eq_none_iff]at hck; omega
      | some c=>
       cases c with
       | none=>
        have hle:left.isEmpty=true:=by
         cases hle:left.isEmpty with
         | true=>rfl
         | false=>
          exfalso;simp only[cand,hle,Uah,Uay]at hck;simp at hck
        have hall:(List.range n).all (fun i=>seen.contains i)=true:=by
         rw[Ubt];intro i hi;have hi:=Ub7.1 hi;have hil:i<l.length:=by omega
         have hb:=Xa0.nth m5 i _ (Ubf hil);rw[Ub6]at hb;cases hc:seen.contains i with
         | true=>rfl
         | false=>
          exfalso;have:l[i]∈left:=by
           simp only[left,Array.mem_filter];refine⟨by simp,?_⟩;rw[hb]; simpa using hc
          simp[Array.isEmpty_iff]at hle;rw[hle]at this; simp at this
        refine X0 (w':=w1) (ρ':=ρ) (fun o ho=>?_) (hov hall) tupF hO1 hx1.tr;simp only[execOp,ho,Instr.next,r1,Sem.run_bind,hget,Result.andThen_ok,hgm,hbad,Uah,Uay];rw[hold2,hnew2]
        change ((Sem.run P (choose (.mapNext cand.size)) w).andThen _).andThen _=_
        rw[hk1];simp only[Result.andThen_ok]
        change (Sem.run P (match cand[k]? with | some (some e)=>_ | some none=>_ | none=>_) w1).andThen _=_
        rw[hck];simp
       | some e=>
        have hel2:e∈left:=by
         have hm:some e∈cand:=Ubz hck;simp only[cand,Array.append_empty,Array.mem_append,Array.mem_map]at hm;rcases hm with hm | ⟨e',he',hm⟩
         ·split at hm<;>simp at hm
         ·cases hm; exact he'
        obtain⟨hem,hns⟩:=Array.mem_filter.1 hel2;obtain⟨hlt,hle⟩:=Rb3 m5 (e:=e) (by simpa using hem);have hns':seen.contains e.born=false:=by simpa using hns
        obtain⟨n1,n2⟩:=m3.nth e.born e hle;have hbs:b<w1.heap.size:=by rw[hh1]; exact Xj g3
        obtain⟨t2,o2⟩:=Xua (o:=.mapIter (some mb) n (seen++[e.born]).toArray n) hO1 hl g1 hbs (x:=.it (some j) n (seen++[e.born])) ⟨b,mb,g1,.inl m1,Xau w1 _ hbs⟩;have t3:=hx1.tr.trans t2;refine X0 (ρ':=ρ) (v:=.tuple #[.bool true,e.key,e.val]) (fun o ho=>?_) (hel e.born (by omega) hns') ?_ o2 t3
        ·simp only[execOp,ho,Instr.next,r1,Sem.run_bind,hget,Result.andThen_ok,hgm,hbad,Uah,Uay];rw[hold2,hnew2]
         change ((Sem.run P (choose (.mapNext cand.size)) w).andThen _).andThen _=_
         rw[hk1];simp only[Result.andThen_ok]
         change (Sem.run P (match cand[k]? with | some (some e)=>_ | some none=>_ | none=>_) w1).andThen _=_
         rw[hck];have hset:(setObj b (.mapIter (some mb) n (seen.toArray.push e.born) l.length)).run P w1=.ok () (Xaz w1 b (.mapIter (some mb) n (seen++[e.born]).toArray n)):=by
          rw[hln];have:(seen.toArray.push e.born)=(seen++[e.born]).toArray:=by simp
          rw[this];exact Qs w1 (y:=.mapIter (some mb) n seen.toArray n) (by rw[hh1]; exact g3) rfl
         simp only[Sem.run_bind,hset,Result.andThen_ok,Sem.run_pure]
        ·rw[We];refine⟨_,rfl,?_⟩;simp only[V.reps];exact⟨_,_,rfl,rep_bool.2 rfl,_,_,rfl,X1d n1,_,_,rfl,Raw t3 n2,rfl⟩
     ·rw[m1]at g2; cases g2
    ·exact h.elim
   ·rw[g1]at g4; cases g4
  ·exact h.elim
 ·exact h.elim

theorem Xrl (hs:SM w ρ sl a)(hO:OM w ρ ob){op:Op}{x:A}(hc:I.chk P op (.ety x)=true)(h:X76 ob (fun v=>K v ob) (x.ev sl)):Xwe P a w ρ op ob K:=by
 cases op<;>simp only[I.chk,Uah]at hc;rename_i y;have r1:=A.sound hs hc;generalize x.ev sl=v at h r1;unfold X76 at h;split at h
 ·rename_i id;unfold Xnk at h;split at h
  ·rename_i j n seen hl;obtain⟨hne,h⟩:=h;unfold Xux at h;split at h
   ·rename_i es hlm;obtain⟨hi,hlen,hK⟩:=h;obtain⟨b,mb,g1,g2,g3⟩:=hO.one id _ hl;obtain⟨mb',l,clk,m1,m2,m3,rfl,m5⟩:=hO.one j _ hlm;rw[Xaq]at r1;rcases r1 with⟨b',g4,r1⟩ | ⟨g4,_⟩
    ·rw[g1]at g4; cases g4;rcases g2 with g2 | g2
     ·rw[m1]at g2; cases g2;simp only[hdV]at r1;have hln:l.length=n:=by rw[m3.len,hlen]
      have hget:(getObj b).run P w=.ok (.mapIter (some mb) n seen.toArray n) w:=by simp[getObj,Sem.run,g3]
      have hgm:(getObj mb).run P w=.ok (.map l.toArray l.length) w:=by simp[getObj,Sem.run,m2]
      have hst:seen.toArray.back? = some (seen.getLastD 0):=by
       rw[List.back?_toArray];cases seen with
       | nil=>exact absurd rfl hne
       | cons x r=>simp[List.getLastD,List.getLast?_eq_some_getLast]
      generalize seen.getLastD 0=i at hi hK hst;have hle:l[i]? = some (l[i]'(by omega)):=Ubf (by omega);have hf:=m5.find hle;obtain⟨n1,n2⟩:=m3.nth _ _ hle;generalize l[i]'(by omega)=ee at hle hf n1 n2;refine⟨.tuple #[ee.key,ee.val],_,w,hK,?_,Ext.refl w,fun o ho=>?_⟩
      ·rw[We];refine⟨_,rfl,?_⟩;simp only[V.reps];exact⟨_,_,rfl,X1d n1,_,_,rfl,n2,rfl⟩
      ·simp[execOp,ho,Instr.entry,r1,hget,hst,hgm,hln,hf]
     ·rw[m1]at g2; cases g2
    ·rw[g1]at g4; cases g4
   ·exact h.elim
  ·exact h.elim
 ·exact h.elim

theorem Xjw (hs:SM w ρ sl a)(hO:OM w ρ ob){op:Op}{x:A}(hc:I.chk P op (.lenM x)=true)(h:Xvi ob (fun v=>K v ob) (x.ev sl)):Xwe P a w ρ op ob K:=by
 cases op<;>simp only[I.chk,Uah]at hc;rename_i c;obtain⟨ca,args,ts⟩:=c;cases ca<;>(try simp only[Uah]at hc);rename_i b;cases b<;>(try simp only[Uah]at hc);split at hc
 ·rename_i y t e1 e2;simp only[Uai]at hc;obtain⟨h0,h1⟩:=hc;obtain⟨kt,et,ht⟩:∃kt et,P.underlying t=some (.map kt et):=by revert h0; split<;>simp_all
  have r1:=A.sound hs h1;have ea:args=#[y]:=by simpa using Ua4 List.toArray e1
  have et:ts=#[t]:=by simpa using Ua4 List.toArray e2
  subst ea et;generalize x.ev sl=v at h r1;unfold Xvi at h;split at h
  ·rename_i id;unfold Yh2 at h;split at h
   ·rename_i es hl;obtain⟨b,l,clk,g1,g2,g3,rfl,g5⟩:=hO.one id _ hl;rw[Xgb]at r1;rcases r1 with⟨b',g4,r1⟩ | ⟨g4,_⟩
    ·rw[g1]at g4; cases g4;have hget:(getObj b).run P w=.ok (.map l.toArray l.length) w:=by simp[getObj,Sem.run,g2]
     refine⟨_,_,w,h,X9.2 rfl,Ext.refl w,fun o ho=>?_⟩;simp[execOp,ho,resolve,invoke,builtin,Builtin.len_,r1,Xe ht,goInt,hget,g3.len]
    ·rw[g1]at g4; cases g4
   ·exact h.elim
  ·rw[Xar]at r1;refine⟨_,_,w,h,X9.2 rfl,Ext.refl w,fun o ho=>?_⟩;simp[execOp,ho,resolve,invoke,builtin,Builtin.len_,r1,Xe ht,goInt]
  ·exact h.elim
 ·simp at hc

theorem X8w {t e:TypeId}(ht:P.underlying t=some (.slice e))(x:Option Addr)(n m:Nat)(w':World):(Op.equal t (.slice x n m) (.slice none 0 0)).run P w'=.ok x.isNone w':=by
 have:∀d,(Op.equalIn (d+1) t (.slice x n m) (.slice none 0 0)).run P w'=.ok x.isNone w':=fun d=>by cases x<;>simp[Op.equalIn,Xe ht]
 exact this 9999
theorem X8t {t k e:TypeId}(ht:P.underlying t=some (.map k e))(x:Option Nat)(w':World):(Op.equal t (.map x) (.map none)).run P w'=.ok x.isNone w':=by
 have:∀d,(Op.equalIn (d+1) t (.map x) (.map none)).run P w'=.ok x.isNone w':=fun d=>by cases x<;>simp[Op.equalIn,Xe ht]
 exact this 9999
theorem Xuz (op:BinOp)(t:TypeId)(x y:Operand)(b:Option Addr)(n m:Nat)(v:Value)(w':World):(eqGuard op t x y (.slice b n m) v).run P w'=.ok () w':=by
 cases op<;>simp[eqGuard]
theorem Xnl (op:BinOp)(t:TypeId)(x y:Operand)(b:Option Nat)(v:Value)(w':World):(eqGuard op t x y (.map b) v).run P w'=.ok () w':=by
 cases op<;>simp[eqGuard]

theorem Xrm (hs:SM w ρ sl a)(hO:OM w ρ ob){op:Op}{e m:Bool}{x:A}(hc:I.chk P op (.isn e m x)=true)(h:X09 ob e (fun v=>K v ob) m (x.ev sl)):Xwe P a w ρ op ob K:=by
 cases op<;>simp only[I.chk,Uah]at hc;rename_i o1 t x1 y1 t2;simp only[Uai]at hc;obtain⟨⟨h0,h1⟩,h2⟩:=hc;have r1:=A.sound hs h1;generalize x.ev sl=v at h r1;unfold Ysf at h2;split at h2
 ·rename_i el n m' ht;simp only[Uai,Ubn]at h2;obtain⟨rfl,rfl⟩:=h2;have hsl:∀{u:Option Addr} {n m:Nat},a.eval x1=.slice u n m->K (.d (.bool (if u.isNone then e else !e))) ob->Xwe P a w ρ (.binOp o1 t x1 (.const (.slice none 0 0)) t2) ob K:=by
   intro u n m e1 hK;have hk:a.eval (.const (.slice none 0 0))=.slice none 0 0:=rfl;refine⟨_,_,w,hK,rep_bool.2 rfl,Ext.refl w,fun o ho=>?_⟩;cases u<;>cases o1<;>simp only[Yhx,Uah]at h0<;>(try (cases e<;>simp at h0))<;>simp[execOp,ho,e1,hk,Xuz,binOp,X8w ht]
  unfold X09 at h;split at h
  ·rename_i hm; cases hm
  ·rename_i hm; cases hm
  ·rw[W1]at r1;exact hsl r1 h
  ·rename_i xs _;rw[Zn]at r1;rcases r1 with⟨rfl,r1⟩ | ⟨ad,cap,vs,r1,_⟩
   ·exact hsl r1 (h.2 rfl)
   ·exact hsl r1 h.1
  ·rename_i id k _;rw[Yl]at r1;obtain⟨o,g1,g2⟩:=r1;have real:∀b len cap,o=.arr b len cap->k=len->K (.d (.bool !e)) ob->Xwe P a w ρ (.binOp o1 t x1 (.const (.slice none 0 0)) t2) ob K:=by
    intro b len cap e1 e2 hK;subst e1;simp only[RO.slice]at g2;exact hsl (g2.2.2 e2) (by simpa using hK)
   unfold Y2x at h;split at h
   ·rename_i E sz xs hl;obtain⟨rfl,hne,hK⟩:=h;rcases hO.one id _ hl with⟨_,q2⟩ | ⟨b,cap,cs,sp,q1,_⟩
    ·exact absurd q2 hne
    ·rw[g1]at q1; cases q1;exact real _ _ _ rfl rfl hK
   ·rename_i E sz xs hl;obtain⟨rfl,hne,hK⟩:=h;rcases hO.one id _ hl with⟨_,q2⟩ | ⟨b,cap,cs,sp,q1,_⟩
    ·exact absurd q2 hne
    ·rw[g1]at q1; cases q1;exact real _ _ _ rfl rfl hK
   ·exact h.elim
  ·exact h.elim
 ·rename_i k el ht;have hmp:∀{u:Option Nat},a.eval x1=.map u->K (.d (.bool (if u.isNone then e else !e))) ob->Xwe P a w ρ (.binOp o1 t x1 (.const (.map none)) t2) ob K:=by
   intro u e1 hK;have hk:a.eval (.const (.map none))=.map none:=rfl;refine⟨_,_,w,hK,rep_bool.2 rfl,Ext.refl w,fun o ho=>?_⟩;cases u<;>cases o1<;>simp only[Yhx,Uah]at h0<;>(try (cases e<;>simp at h0))<;>simp[execOp,ho,e1,hk,Xnl,binOp,X8t ht]
  unfold X09 at h;split at h
  ·rename_i id _;unfold Y2w at h;split at h
   ·rename_i es hl;obtain⟨b,l,clk,g1,_⟩:=hO.one id _ hl;rw[Xgb]at r1;rcases r1 with⟨b',g4,r1⟩ | ⟨g4,_⟩
    ·exact hmp r1 (by simpa using h)
    ·rw[g1]at g4; cases g4
   ·exact h.elim
  ·rw[Xar]at r1;exact hmp r1 h
  all_goals first | contradiction | exact h.elim
 ·cases h2

theorem X9u {t f:Nat}{nm:String}{v:Value}{info:TypeInfo}{m:Method}(hi:P.info? t=some info)(hm:info.methods.find? (·.name==nm)=some m)(hp:m.path=#[])(hf:m.func=some (f,true)){e:TypeId}(ht:P.underlying t=some (.pointer e))(k:Nat) :
  (method (k+1) t v nm).run P w=.ok (f,v) w:=by
 simp only[method,Sem.run_bind,run_typeInfo w hi,Result.andThen_ok,hm,hp,follow,Sem.run_pure,hf,receiverAt,Xe ht,Place.get]
theorem X69 {P:Prg}(hg:ρ.gl=P.g)(hs:SM w ρ sl a)(hO:OM w ρ ob){op:Op}{nm:String}{t f:Nat}{fl:Option (Nat×Nat×Nat×Bool)}{x:A}{args:List A}(hc:I.chk P.p op (.inv nm t f fl x args)=true)
  (h:Yy5 P t f fl (args.map (A.ev sl)) ob K Pn (x.ev sl)):Ja P.p a w ρ op K Pn:=by
 cases op<;>simp only[I.chk,Uah]at hc;rename_i c;obtain⟨ca,as,ts⟩:=c;cases ca<;>(try simp only[Uah]at hc);rename_i rc m0;simp only[Uai,Ubn]at hc;obtain⟨⟨⟨rfl,h1⟩,h2⟩,h3⟩:=hc;have r1:=A.sound hs h1;generalize x.ev sl=v at h r1;unfold Yy5 at h;split at h
 ·rename_i t' id p;obtain⟨rfl,hcal,hr⟩:=h;rw[Wj (by simp[V.isAgg]) (by simp)]at r1;simp only[V.repC,Ua1,Ua2]at r1;obtain⟨c,r1,rc1⟩:=r1;have hpt:(V.ptr id p).rep w ρ c:=by
   rcases rc1 with rc1 | ⟨q,_⟩ | ⟨_,rc1⟩
   ·cases rc1
   ·simp[V.isAgg]at q
   ·exact Xc1.2 rc1
  obtain⟨ad,rfl⟩:=Qd hpt;have hmeth:∃rv r,(method (P.p.types.size+Made.depth) t' (.pointer (some ad)) m0).run P.p w=.ok (f,rv) w/\r.rep w ρ rv/\ACall P f (r::args.map (A.ev sl)) ob (Xcx K Pn):=by
   unfold Ynr at h3;split at h3
   ·rename_i m hm;obtain⟨info,hi,hm⟩:∃info,P.p.info? t'=some info/\info.methods.find? (·.name==m0)=some m:=by
     cases hi:P.p.info? t' with
     | none=>rw[hi]at hm; cases hm
     | some info=>rw[hi]at hm; exact⟨info,rfl,hm⟩
    split at h3
    ·rename_i g hfn;simp only[Uai,Ubn]at h3;obtain⟨⟨rfl,hpe⟩,hty⟩:=h3;obtain⟨e,ht⟩:∃e,P.p.underlying t'=some (.pointer e):=by revert hty; split<;>simp_all
     have hpe:m.path=#[]:=by simpa[Array.isEmpty_iff]using hpe
     exact⟨_,_,X9u hi hm hpe hfn ht _,hpt,hr⟩
    ·rename_i fi fo n ag g hfn;simp only[Uai,Ubn]at h3;obtain⟨rfl,h3⟩:=h3;split at h3
     ·rename_i s hpl;simp only[Uai,Ubn]at h3;obtain⟨⟨hdr,hix⟩,h3⟩:=h3;split at h3
      ·rename_i fields hst;split at h3
       ·rename_i fd hfd;simp only[Uai,Ubn,bne_iff_ne,ne_eq]at h3;obtain⟨⟨⟨⟨⟨ho,hsz⟩,hn0⟩,hag⟩,hnp⟩,hund⟩:=h3;simp only[X97]at hr;let a2:Act:=⟨#[.pointer (some ad)],[]⟩
        have hs2:SM w ρ [(0,.ptr id p)] a2:=by
         intro k;simp only[look];split
         ·rename_i e; subst e; exact hpt
         ·exact Jp
        have hfT:Q8 P.p s.struct fi=some fd:=by simp[Q8,hst,hfd]
        obtain⟨v2,y2,hK2,hr2,hrun2⟩:=Xgf (P:=P.p) (a:=a2) (f:=fi) (fo:=fo) (x:=.t 0) (op:=.fieldAddr s.struct (.tmp 0) fi) hs2 hO (by simp[C.chk,hfT,ho,hsz,hn0,A.chk]) (by simpa[A.ev,look]using hr)
        have e2:=hrun2 ⟨none,.fieldAddr s.struct (.tmp 0) fi,0, "", #[],none⟩ rfl w (fun _=>Ext.refl w)
        obtain⟨a',hfp,rfl⟩:∃a',(fieldPlace ad fd).run P.p w=.ok a' w/\v2=.pointer (some a'):=by
         have ea:a2.eval (.tmp 0)=.pointer (some ad):=rfl;simp only[execOp,ea,Instr.fieldAt,Sem.run_bind,Xe hst,Result.andThen_ok,hfd,Instr.sureAddr,Sem.run_pure]at e2;cases hq:(fieldPlace ad fd).run P.p w with
         | ok a' w'=>simp[hq]at e2; exact⟨a',by rw[e2.2],e2.1.symm⟩
         | halt q w'=>simp[hq]at e2
        let a3:Act:=⟨#[.pointer (some a')],[]⟩
        have hs3:SM w ρ [(0,y2)] a3:=by
         intro k;simp only[look];split
         ·rename_i e; subst e; exact hr2
         ·exact Jp
        obtain⟨v3,y3,hK3,hr3,hrun3⟩:=Qu (P:=P.p) (a:=a3) (n:=n) (ag:=ag) (x:=.t 0) (op:=.load fd.type (.tmp 0)) hs3 hO (by simp[C.chk,hsz,hund,hag,A.chk]) (by simpa[A.ev,look]using hK2)
        have e3:=hrun3 ⟨none,.load fd.type (.tmp 0),0, "", #[],none⟩ rfl w (fun _=>Ext.refl w)
        have hlv:(loadVar fd.type a').run P.p w=.ok v3 w:=by
         have ea:a3.eval (.tmp 0)=.pointer (some a'):=rfl;simp only[execOp,ea,Instr.loadAt,Sem.run_bind,Instr.sureAddr,Sem.run_pure,Result.andThen_ok]at e3;revert e3;generalize (loadVar fd.type a').run P.p w=res;intro e3;cases res with
         | ok x w'=>simp at e3; obtain⟨rfl,rfl⟩:=e3; rfl
         | halt x w'=>simp at e3
        refine⟨v3,y3,?_,hr3,hK3⟩;subst hix;have hk:P.p.types.size+Made.depth=(P.p.types.size+99)+1:=rfl;rw[hk];generalize P.p.types.size+99=kf;obtain⟨td,htd⟩:=Ua3.1 hund;have hnp':∀e,td ≠ .pointer e:=fun e he=>by rw[htd,he]at hnp; simp at hnp
        have hrec:∀wr,(receiverAt fd.type (.var a') false wr).run P.p w=.ok v3 w:=by
         intro wr;unfold receiverAt;simp only[Sem.run_bind,Xe htd,Result.andThen_ok];cases td<;>first | exact absurd rfl (hnp' _) | (simp only[Place.get]; exact hlv)
        simp only[method,Sem.run_bind,run_typeInfo w hi,Result.andThen_ok,hm,hpl,follow,Xe hst,hfd,hdr,Ubb,Place.get,Sem.run_pure,asAddr,hfp,hfn,hrec]
       ·cases h3
      ·cases h3
     ·cases h3
    ·cases h3
   ·cases h3
  obtain⟨rv,r,q1,q2,q3⟩:=hmeth;refine Qi hg (args:=rv::as.toList.map a.eval) (fun o ho=>?_) q3 hO (by simp only[V.reps]; exact⟨_,_,rfl,q2,Zk hs h2⟩);have e0:(#[Value.iface t' (.pointer (some ad))]++Array.map a.eval as)[0]? = some (.iface t' (.pointer (some ad))):=by simp[Ub8]
  have e1:(#[Value.iface t' (.pointer (some ad))]++Array.map a.eval as).extract 1 (#[Value.iface t' (.pointer (some ad))]++Array.map a.eval as).size=Array.map a.eval as:=by
   apply Array.ext'; simp; exact Ubk (by simp)
  simp only[execOp,ho,resolve,r1,Sem.run_bind,Sem.run_pure,Result.andThen_ok,invoke,e0,e1,callMethod];have hp:∀w,(program).run P.p w=.ok P.p w:=fun _=>rfl;simp only[Sem.run_bind,hp,Result.andThen_ok,q1,Yr hcal];congr 2;apply Array.ext'; simp
 ·exact h.elim
end
end Go.Ab
namespace Go.Ab
open Go
section
variable {P:Program} {a:Act} {w:World} {ρ:Env} {sl:Xf} {ob:Xb} {K Pn:V->Xb->Prop}

theorem Yk {id:Nat}{o:RO}:(ρ.ins id o).m id=some o:=by simp[Env.ins]

theorem Xk2 (n:Nat):∀(r c:Nat),c<=2*n+192->Builtin.growBy n r c<=2*n+192
 | 0,c,h=>by simpa[Builtin.growBy]using h
 | r+1,c,h=>by
  simp only[Builtin.growBy];split
  ·exact h
  ·exact Xk2 n r _ (by omega)

theorem Xvn {need cap:Nat}(h:cap<need):Builtin.nextslicecap need cap<=2*need+192:=by
 unfold Builtin.nextslicecap;split
 ·omega
 ·split
  ·omega
  ·exact Xk2 need 4 cap (by omega)

theorem X41 {sz:Nat}{v:V}{x:Value}{K:List D->Prop}(hv:v.rep w ρ x)(h:X4z sz K v) :
  ∃ys vs,K ys/\Rac w (own ρ) ys vs/\(∀y∈ys,y.sz=sz)/\(∀w',(Builtin.lenOf x).run P w'=.ok ys.length w')/\∀w',w'.heap=w.heap->(Builtin.firstCells sz ys.length x).run P w'=.ok vs.toArray w':=by
 unfold X4z at h;split at h
 ·rename_i z ys;obtain⟨rfl,h⟩:=h;rw[Zn]at hv;rcases hv with⟨rfl,rfl⟩ | ⟨ad,cap,vs,rfl,hcap,hce,hre,hu⟩
  ·exact⟨[],[],h,by simp[Rac],by simp,fun w'=>by simp[Builtin.lenOf],fun w' _=>by simp[Builtin.firstCells]⟩
  ·refine⟨ys,vs,h,hre,hu,fun w'=>by simp[Builtin.lenOf],fun w' hw=>?_⟩;have hl:vs.length=ys.length*z:=by rw[Rah _ _ hre,Raj _ hu]
   simp only[Builtin.firstCells,<-hl];exact run_loadCells_list w' ad vs (fun j u hj=>by
    obtain⟨hj',e⟩:=Uan.1 hj;have hne:vs ≠ []:=by intro h; simp[h]at hj'
    rw[Ram (hce.1 hne).1,cell?_congr (w:=w) (w':=w') (by rw[hw]),<-e];exact hce.2 j hj')
 ·rw[W1]at hv;subst hv;exact⟨[],[],h,by simp[Rac],by simp,fun w'=>by simp[Builtin.lenOf],fun w' _=>by simp[Builtin.firstCells]⟩
 ·exact h.elim

structure AppT (P:Program)(t t2 E sz B:Nat):Prop where
 u1:P.underlying t=some (.slice E)
 u2:(∃e,P.underlying t2=some (.slice e))\/P.underlying t2=some .string
 info:∃i z,P.info? E=some i/\i.size=sz/\i.bytes=B/\i.zero=some z/\z.cells.size=sz
 b0:B ≠ 0
 s0:sz ≠ 0

theorem Xrp {t t2 ty E sz B:Nat}(T:AppT P t t2 E sz B){base:Option Addr}{sLen sCap n:Nat}{x:Value}{cs vs:List Value}
  (hx:∀w',(Builtin.lenOf x).run P w'=.ok n w') (hf:∀w',w'.heap=w.heap->(Builtin.firstCells sz n x).run P w'=.ok vs.toArray w')
  (ho:∀w',w'.heap=w.heap->(Builtin.firstCells sz sLen (.slice base sLen sCap)).run P w'=.ok cs.toArray w') (hneed:sCap<sLen+n) (hB:(2*(sLen+n)+192)*B<=281474976710656) :
  ∃newCap rest,sLen+n<=newCap/\rest.length=(newCap-(sLen+n))*sz/\
   (Builtin.append_ #[t,t2] ty #[.slice base sLen sCap,x]).run P w=.ok (.slice (some ⟨w.heap.size,0,none⟩) (sLen+n) newCap) (Xay { w with drawn:=w.drawn+1 } (.cells ((cs++vs)++rest).toArray E)):=by
 obtain⟨i,z,hi,h1,h2,h3,h4⟩:=T.info;have hsz:Yh P E=some sz:=by simp[Yh,hi,h1]
 have hti:∀w',(typeInfo E).run P w'=.ok i w':=fun w'=>by simp[typeInfo,hi]
 have hzv:∀w',(zeroValue E).run P w'=.ok z w':=fun w'=>by simp[zeroValue,typeInfo,hi,h3]
 have hcap:=Xvn hneed;have hle:Builtin.nextslicecap (sLen+n) sCap*B<=281474976710656:=Ual (Ub9 B hcap) hB;have hq:(Question.appendCap (sLen+n) sCap E).forced=false:=rfl;refine⟨(Question.appendCap (sLen+n) sCap E).cut (w.tape w.drawn (.appendCap (sLen+n) sCap E)),(Builtin.zeroCells z.cells ((Question.appendCap (sLen+n) sCap E).cut (w.tape w.drawn (.appendCap (sLen+n) sCap E))-(sLen+n))).toList,?_,?_,?_⟩
 ·simp[Question.cut]
 ·simp[Builtin.zeroCells,h4]
 ·generalize hc:(Question.appendCap (sLen+n) sCap E).cut (w.tape w.drawn (.appendCap (sLen+n) sCap E))=newCap;unfold Builtin.append_;have e0:(#[t,t2]:Array TypeId)[0]? = some t:=rfl;have e1:(#[t,t2]:Array TypeId)[1]? = some t2:=rfl;rcases T.u2 with⟨e2,u2⟩ | u2
  all_goals
   simp only[e0,e1,List.getElem?_toArray,List.getElem?_cons_zero,List.getElem?_cons_succ,Sem.run_bind,Xe T.u1,Xe u2,Result.andThen_ok,Xu hsz,Sem.run_pure,hx,Uah,Uay,Bool.not_false,Ubb];rw[Ubo (by omega)];have hb:¬(Builtin.nextslicecap (sLen+n) sCap*B > 2 ^ 48):=by omega
   simp only[hb,T.b0,or_self,and_false,Uay,Sem.run_bind,run_choose,hq,Uah,hc,Result.andThen_ok,run_askRoom,hti,h2,ho { w with drawn:=w.drawn+1 } rfl,hf { w with drawn:=w.drawn+1 } rfl,hzv,newRow,run_newObj,Sem.run_pure];have e3:(cs.toArray++vs.toArray)++Builtin.zeroCells z.cells (newCap-(sLen+n))=((cs++vs)++(Builtin.zeroCells z.cells (newCap-(sLen+n))).toList).toArray:=by apply Array.ext'; simp
   rw[e3];rfl

theorem Xrr {t t2 ty E sz B:Nat}(T:AppT P t t2 E sz B){b sLen sCap n:Nat}{x:Value}{cs sp vs:List Value}
  (hx:∀w',(Builtin.lenOf x).run P w'=.ok n w') (hf:∀w',w'.heap=w.heap->(Builtin.firstCells sz n x).run P w'=.ok vs.toArray w')
  (hb:w.heap[b]? = some (.cells (List.toArray (cs++sp)) E (0,0))) (hcs:cs.length=sLen*sz) (hvs:vs.length=n*sz) (hlen:(cs++sp).length=sCap*sz) (hone:∀v∈vs,v.oneCell'=true) (hneed:sLen+n<=sCap) :
  (Builtin.append_ #[t,t2] ty #[.slice (some ⟨b,0,none⟩) sLen sCap,x]).run P w=.ok (.slice (some ⟨b,0,none⟩) (sLen+n) sCap) (w.setRow b ((cs++vs)++sp.drop vs.length).toArray):=by
 obtain⟨i,z,hi,h1,h2,h3,h4⟩:=T.info;have hsz:Yh P E=some sz:=by simp[Yh,hi,h1]
 unfold Builtin.append_;have e0:(#[t,t2]:Array TypeId)[0]? = some t:=rfl;have e1:(#[t,t2]:Array TypeId)[1]? = some t2:=rfl;have hsum:sLen*sz+n*sz<=sCap*sz:=by rw[<-Uac]; exact Ub9 sz hneed
 have hrun:=run_storeCells_at (P:=P) b (sLen*sz) E vs 0 (cs++sp).toArray w hb (by rw[hvs,List.size_toArray,hlen]; omega) hone;have hadd:(⟨b,0,none⟩:Addr).add (sLen*sz)=⟨b,sLen*sz,none⟩:=by rw[Ram rfl]; simp
 rcases T.u2 with⟨e2,u2⟩ | u2
 all_goals
  simp only[e0,e1,List.getElem?_toArray,List.getElem?_cons_zero,List.getElem?_cons_succ,Sem.run_bind,Xe T.u1,Xe u2,Result.andThen_ok,Xu hsz,Sem.run_pure,hx,Uah,Uay,Bool.not_false,Ubb];rw[Uby hneed];simp only[Sem.run_bind,hf w rfl,Result.andThen_ok,hadd,hrun,Sem.run_pure];congr 3;rw[Nat.add_zero,<-hcs];simp[List.drop_append]

theorem Xrq {t t2 ty E sz B:Nat}(T:AppT P t t2 E sz B){x:Value}
  (hx:∀w',(Builtin.lenOf x).run P w'=.ok 0 w') (hf:∀w',w'.heap=w.heap->(Builtin.firstCells sz 0 x).run P w'=.ok #[] w') :
  (Builtin.append_ #[t,t2] ty #[.slice none 0 0,x]).run P w=.ok (.slice none 0 0) w:=by
 obtain⟨i,z,hi,h1,h2,h3,h4⟩:=T.info;have hsz:Yh P E=some sz:=by simp[Yh,hi,h1]
 unfold Builtin.append_;rcases T.u2 with⟨e2,u2⟩ | u2<;>simp[Xe T.u1,Xe u2,Xu hsz,hx,hf w rfl]

theorem Xro {t t2 ty E sz B:Nat}(T:AppT P t t2 E sz B)(hO:OM w ρ ob){id:Nat}{xs ys:List D}{s x:Value}{vs:List Value}(hl:Xd ob id=some (.arr E sz xs))
  (hs:(V.sl id xs.length).rep w ρ s) (hre:Rac w (own ρ) ys vs) (hu:∀y∈ys,y.sz=sz)
  (hx:∀w',(Builtin.lenOf x).run P w'=.ok ys.length w') (hf:∀w',w'.heap=w.heap->(Builtin.firstCells sz ys.length x).run P w'=.ok vs.toArray w')
  (hB:(2*(xs.length+ys.length)+192)*B<=281474976710656) :
  ∃v w' ρ',(Builtin.append_ #[t,t2] ty #[s,x]).run P w=.ok v w'/\Tr w ρ w' ρ'/\OM w' ρ' (setO ob id (.arr E sz (xs++ys)))/\(V.sl id (xs.length+ys.length)).rep w' ρ' v:=by
 rw[Yl]at hs;obtain⟨o,hρ,hs⟩:=hs;have h1:=hO.one id _ hl;have hvl:vs.length=ys.length*sz:=by rw[Rah _ _ hre,Raj _ hu]
 -- a new row,from whatever was there
 have grow:∀(base:Option Addr) (sCap:Nat) (cs:List Value),s=.slice base xs.length sCap->Rac w (own ρ) xs cs->(∀y∈xs,y.sz=sz)->
   (∀w',w'.heap=w.heap->(Builtin.firstCells sz xs.length (.slice base xs.length sCap)).run P w'=.ok cs.toArray w')->sCap<xs.length+ys.length->
   (o=.virt/\xs.length=0\/∃b c,o=.arr b xs.length c)->xs.length<=sCap->
   ∃v w' ρ',(Builtin.append_ #[t,t2] ty #[s,x]).run P w=.ok v w'/\Tr w ρ w' ρ'/\OM w' ρ' (setO ob id (.arr E sz (xs++ys)))/\(V.sl id (xs.length+ys.length)).rep w' ρ' v:=by
  intro base sCap cs es hxs hux hold hneed ho hlc;subst es;obtain⟨newCap,rest,g1,g2,g3⟩:=Xrp (ty:=ty) T hx hf hold hneed hB;have he:Ext w (Xay { w with drawn:=w.drawn+1 } (.cells ((cs++vs)++rest).toArray E)):=(Rba w _).trans (Zp _ _);have t1:Tr w ρ (Xay { w with drawn:=w.drawn+1 } (.cells ((cs++vs)++rest).toArray E)) (ρ.ins id (.arr w.heap.size (xs.length+ys.length) newCap)):=by
   refine⟨he.size,fun b _ h=>he.keep b h,fun b h=>?_,rfl,rfl,fun j p hp=>?_,he.tape,he.os,he.out,he.drawn⟩
   ·obtain⟨j,p,q1,q2⟩:=h;simp only[Env.ins]at q1;split at q1
    ·simp at q1; subst q1; simp[RO.blk?]at q2; exact .inr (by omega)
    ·exact .inl ⟨j,p,q1,q2⟩
   ·by_cases ej:j=id
    ·subst ej;refine⟨_,Yk,.grow (n:=xs.length) (by omega) ?_⟩;rw[hρ]at hp; simp at hp; subst hp;exact ho
    ·exact⟨p,by simp[Env.ins,ej,hp],.refl p⟩
  refine⟨_,_,_,g3,t1,J5 hO hl t1 (.inr ⟨w.heap.size,newCap,cs++vs,rest,by simp[Env.ins],Zx _ _,Rai (Raf t1.mono _ _ hxs) (Raf t1.mono _ _ hre),?_,?_⟩) (fun b hb=>?_) (fun j p b hj h2 h3=>he.keep b (Wy hO h2 h3)),?_⟩
  ·intro y hy;rcases Ubu.1 hy with hy | hy
   ·exact hux y hy
   ·exact hu y hy
  ·have hcl:cs.length=xs.length*sz:=by rw[Rah _ _ hxs,Raj _ hux]
   rw[Uar,Uar,g2,hcl,hvl,<-Uac,<-Uac];congr 1; omega
  ·simp[RO.blk?]at hb; exact .inl (by omega)
  ·rw[Yl];refine⟨_,Yk,?_⟩;exact⟨Uak _,⟨_,_,_,rfl⟩,fun _=>rfl⟩
 rcases h1 with⟨h1,rfl⟩ | ⟨b,cap,cs,sp,h1,h2,h3,h4,h5⟩
 ·-- nothing yet
  rw[hρ]at h1; simp at h1; subst h1;simp only[RO.slice]at hs;obtain⟨_,rfl⟩:=hs;by_cases hy:ys=[]
  ·subst hy;have hv0:vs=[]:=by simpa using hvl
   subst hv0;refine⟨_,w,ρ,Xrq T hx (fun w' hw=>hf w' hw),Tr.refl _ _,?_,?_⟩
   ·refine⟨fun j y hy=>?_,fun j p hp=>?_,hO.inj,hO.xlt,hO.glb,hO.xdis,hO.once.set⟩
    ·rw[Xs ob id j ⟨_,hl⟩]at hy;split at hy
     ·rename_i e; subst e; simp at hy; subst hy; exact .inl ⟨hρ,rfl⟩
     ·exact hO.one j y hy
    ·rw[Xs ob id j ⟨_,hl⟩];split
     ·exact⟨_,rfl⟩
     ·exact hO.dom j p hp
   ·rw[Yl]; exact⟨_,hρ,rfl,rfl⟩
  ·refine grow none 0 [] rfl (by simp[Rac]) (by simp) (fun w' _=>by simp[Builtin.firstCells]) ?_ (.inl ⟨rfl,rfl⟩) (Uak _);cases ys with
   | nil=>exact absurd rfl hy
   | cons y r=>simp
 ·rw[hρ]at h1; simp at h1; subst h1;obtain⟨_,_,hs⟩:=hs;have hs:=hs rfl;have hcl:cs.length=xs.length*sz:=by rw[Rah _ _ h3,Raj _ h4]
  have hlc:xs.length<=cap:=by
   have:xs.length*sz<=cap*sz:=by rw[<-h5,<-hcl]; simp
   exact Ubv this (Ua9 T.s0)
  by_cases hroom:xs.length+ys.length<=cap
  ·subst hs;have hrun:=Xrr (ty:=ty) T hx hf h2 hcl hvl h5 (Rbs ys vs hre) hroom;have t1:Tr w ρ (w.setRow b ((cs++vs)++sp.drop vs.length).toArray) (ρ.ins id (.arr b (xs.length+ys.length) cap)):=by
    refine⟨by simp,fun j hj _=>setRow_other w b j _ (fun e=>hj ?_),fun j h=>?_,rfl,rfl,fun j p hp=>?_,rfl,rfl,rfl,Uak _⟩
    ·subst e; exact⟨id,_,hρ,rfl⟩
    ·obtain⟨k,p,q1,q2⟩:=h;simp only[Env.ins]at q1;split at q1
     ·simp at q1; subst q1; simp[RO.blk?]at q2; subst q2; exact .inl ⟨id,_,hρ,rfl⟩
     ·exact .inl ⟨k,p,q1,q2⟩
    ·by_cases ej:j=id
     ·subst ej;rw[hρ]at hp; simp at hp; subst hp;refine⟨_,Yk,?_⟩;cases ys with
      | nil=>exact .refl _
      | cons y r=>exact .grow (n:=xs.length) (by simp) (.inr ⟨_,_,rfl⟩)
     ·exact⟨p,by simp[Env.ins,ej,hp],.refl p⟩
   refine⟨_,_,_,hrun,t1,J5 hO hl t1 (.inr ⟨b,cap,cs++vs,sp.drop vs.length,by simp[Env.ins],setRow_heap w b _ _ E _ h2,Rai (Raf t1.mono _ _ h3) (Raf t1.mono _ _ hre),?_,?_⟩) (fun b' hb=>?_) (fun j p b' hj q1 q2=>setRow_other w b b' _ (fun e=>hj ?_)),?_⟩
   ·intro y hy;rcases Ubu.1 hy with hy | hy
    ·exact h4 y hy
    ·exact hu y hy
   ·have hsum:xs.length*sz+ys.length*sz<=cap*sz:=by rw[<-Uac]; exact Ub9 sz hroom
    simp only[Uar,List.length_drop]at h5⊢;omega
   ·simp[RO.blk?]at hb; subst hb; exact .inr ⟨_,hρ,rfl⟩
   ·subst e; exact hO.inj j id _ _ _ q1 hρ q2 rfl
   ·rw[Yl];refine⟨_,Yk,?_⟩;exact⟨Uak _,⟨_,_,_,rfl⟩,fun _=>rfl⟩
  ·refine grow (some ⟨b,0,none⟩) cap cs hs h3 h4 (fun w' hw=>?_) (by omega) (.inr ⟨_,_,rfl⟩) hlc;simp only[Builtin.firstCells,<-hcl];exact run_loadCells_list w' _ cs (fun j u hj=>by
    obtain⟨hj',e⟩:=Uan.1 hj;rw[Ram rfl,cell?_congr (w:=w) (w':=w') (by rw[hw])];simp[World.cell?,h2,Ubc,hj',e])

theorem Xdb {t t2 ty E sz B:Nat}(T:AppT P t t2 E sz B)(hO:OM w ρ ob){id:Nat}{xs ys:List V}{s x:Value}{vs:List Value}(hl:Xd ob id=some (.vec E sz xs))
  (hs:(V.sl id xs.length).rep w ρ s) (hst:Rbr ys=true) (hre:Rap w ρ ys vs) (hu:∀y∈ys,y.size=sz)
  (hx:∀w',(Builtin.lenOf x).run P w'=.ok ys.length w') (hf:∀w',w'.heap=w.heap->(Builtin.firstCells sz ys.length x).run P w'=.ok vs.toArray w')
  (hB:(2*(xs.length+ys.length)+192)*B<=281474976710656) :
  ∃v w' ρ',(Builtin.append_ #[t,t2] ty #[s,x]).run P w=.ok v w'/\Tr w ρ w' ρ'/\OM w' ρ' (setO ob id (.vec E sz (xs++ys)))/\(V.sl id (xs.length+ys.length)).rep w' ρ' v:=by
 rw[Yl]at hs;obtain⟨o,hρ,hs⟩:=hs;have h1:=hO.one id _ hl;have hvl:vs.length=ys.length*sz:=by rw[Ra1 _ _ hre,V.shapes_eq,Yf _ hu]
 -- a new row,from whatever was there
 have grow:∀(base:Option Addr) (sCap:Nat) (cs:List Value),s=.slice base xs.length sCap->Rap w ρ xs cs->(∀y∈xs,y.size=sz)->
   (∀w',w'.heap=w.heap->(Builtin.firstCells sz xs.length (.slice base xs.length sCap)).run P w'=.ok cs.toArray w')->sCap<xs.length+ys.length->
   (o=.virt/\xs.length=0\/∃b c,o=.arr b xs.length c)->xs.length<=sCap->
   ∃v w' ρ',(Builtin.append_ #[t,t2] ty #[s,x]).run P w=.ok v w'/\Tr w ρ w' ρ'/\OM w' ρ' (setO ob id (.vec E sz (xs++ys)))/\(V.sl id (xs.length+ys.length)).rep w' ρ' v:=by
  intro base sCap cs es hxs hux hold hneed ho hlc;subst es;obtain⟨newCap,rest,g1,g2,g3⟩:=Xrp (ty:=ty) T hx hf hold hneed hB;have he:Ext w (Xay { w with drawn:=w.drawn+1 } (.cells ((cs++vs)++rest).toArray E)):=(Rba w _).trans (Zp _ _);have t1:Tr w ρ (Xay { w with drawn:=w.drawn+1 } (.cells ((cs++vs)++rest).toArray E)) (ρ.ins id (.arr w.heap.size (xs.length+ys.length) newCap)):=by
   refine⟨he.size,fun b _ h=>he.keep b h,fun b h=>?_,rfl,rfl,fun j p hp=>?_,he.tape,he.os,he.out,he.drawn⟩
   ·obtain⟨j,p,q1,q2⟩:=h;simp only[Env.ins]at q1;split at q1
    ·simp at q1; subst q1; simp[RO.blk?]at q2; exact .inr (by omega)
    ·exact .inl ⟨j,p,q1,q2⟩
   ·by_cases ej:j=id
    ·subst ej;refine⟨_,Yk,.grow (n:=xs.length) (by omega) ?_⟩;rw[hρ]at hp; simp at hp; subst hp;exact ho
    ·exact⟨p,by simp[Env.ins,ej,hp],.refl p⟩
  refine⟨_,_,_,g3,t1,J5 hO hl t1 (.inr ⟨w.heap.size,newCap,cs++vs,rest,by simp[Env.ins],Zx _ _,Ra3 (Rau t1 _ _ hxs) (Rau t1 _ _ hre),?_,?_⟩) (fun b hb=>?_) (fun j p b hj h2 h3=>he.keep b (Wy hO h2 h3)),?_⟩
  ·intro y hy;rcases Ubu.1 hy with hy | hy
   ·exact hux y hy
   ·exact hu y hy
  ·have hcl:cs.length=xs.length*sz:=by rw[Ra1 _ _ hxs,V.shapes_eq,Yf _ hux]
   rw[Uar,Uar,g2,hcl,hvl,<-Uac,<-Uac];congr 1; omega
  ·simp[RO.blk?]at hb; exact .inl (by omega)
  ·rw[Yl];refine⟨_,Yk,?_⟩;exact⟨Uak _,⟨_,_,_,rfl⟩,fun _=>rfl⟩
 rcases h1 with⟨h1,rfl⟩ | ⟨b,cap,cs,sp,h1,h2,h3,h4,h5⟩
 ·-- nothing yet
  rw[hρ]at h1; simp at h1; subst h1;simp only[RO.slice]at hs;obtain⟨_,rfl⟩:=hs;by_cases hy:ys=[]
  ·subst hy;have hv0:vs=[]:=by simpa using hvl
   subst hv0;refine⟨_,w,ρ,Xrq T hx (fun w' hw=>hf w' hw),Tr.refl _ _,?_,?_⟩
   ·refine⟨fun j y hy=>?_,fun j p hp=>?_,hO.inj,hO.xlt,hO.glb,hO.xdis,hO.once.set⟩
    ·rw[Xs ob id j ⟨_,hl⟩]at hy;split at hy
     ·rename_i e; subst e; simp at hy; subst hy; exact .inl ⟨hρ,rfl⟩
     ·exact hO.one j y hy
    ·rw[Xs ob id j ⟨_,hl⟩];split
     ·exact⟨_,rfl⟩
     ·exact hO.dom j p hp
   ·rw[Yl]; exact⟨_,hρ,rfl,rfl⟩
  ·refine grow none 0 [] rfl (by simp[Rap]) (by simp) (fun w' _=>by simp[Builtin.firstCells]) ?_ (.inl ⟨rfl,rfl⟩) (Uak _);cases ys with
   | nil=>exact absurd rfl hy
   | cons y r=>simp
 ·rw[hρ]at h1; simp at h1; subst h1;obtain⟨_,_,hs⟩:=hs;have hs:=hs rfl;have hcl:cs.length=xs.length*sz:=by rw[Ra1 _ _ h3,V.shapes_eq,Yf _ h4]
  have hlc:xs.length<=cap:=by
   have:xs.length*sz<=cap*sz:=by rw[<-h5,<-hcl]; simp
   exact Ubv this (Ua9 T.s0)
  by_cases hroom:xs.length+ys.length<=cap
  ·subst hs;have hrun:=Xrr (ty:=ty) T hx hf h2 hcl hvl h5 (Rbt ys vs hst hre) hroom;have t1:Tr w ρ (w.setRow b ((cs++vs)++sp.drop vs.length).toArray) (ρ.ins id (.arr b (xs.length+ys.length) cap)):=by
    refine⟨by simp,fun j hj _=>setRow_other w b j _ (fun e=>hj ?_),fun j h=>?_,rfl,rfl,fun j p hp=>?_,rfl,rfl,rfl,Uak _⟩
    ·subst e; exact⟨id,_,hρ,rfl⟩
    ·obtain⟨k,p,q1,q2⟩:=h;simp only[Env.ins]at q1;split at q1
     ·simp at q1; subst q1; simp[RO.blk?]at q2; subst q2; exact .inl ⟨id,_,hρ,rfl⟩
     ·exact .inl ⟨k,p,q1,q2⟩
    ·by_cases ej:j=id
     ·subst ej;rw[hρ]at hp; simp at hp; subst hp;refine⟨_,Yk,?_⟩;cases ys with
      | nil=>exact .refl _
      | cons y r=>exact .grow (n:=xs.length) (by simp) (.inr ⟨_,_,rfl⟩)
     ·exact⟨p,by simp[Env.ins,ej,hp],.refl p⟩
   refine⟨_,_,_,hrun,t1,J5 hO hl t1 (.inr ⟨b,cap,cs++vs,sp.drop vs.length,by simp[Env.ins],setRow_heap w b _ _ E _ h2,Ra3 (Rau t1 _ _ h3) (Rau t1 _ _ hre),?_,?_⟩) (fun b' hb=>?_) (fun j p b' hj q1 q2=>setRow_other w b b' _ (fun e=>hj ?_)),?_⟩
   ·intro y hy;rcases Ubu.1 hy with hy | hy
    ·exact h4 y hy
    ·exact hu y hy
   ·have hsum:xs.length*sz+ys.length*sz<=cap*sz:=by rw[<-Uac]; exact Ub9 sz hroom
    simp only[Uar,List.length_drop]at h5⊢;omega
   ·simp[RO.blk?]at hb; subst hb; exact .inr ⟨_,hρ,rfl⟩
   ·subst e; exact hO.inj j id _ _ _ q1 hρ q2 rfl
   ·rw[Yl];refine⟨_,Yk,?_⟩;exact⟨Uak _,⟨_,_,_,rfl⟩,fun _=>rfl⟩
  ·refine grow (some ⟨b,0,none⟩) cap cs hs h3 h4 (fun w' hw=>?_) (by omega) (.inr ⟨_,_,rfl⟩) hlc;simp only[Builtin.firstCells,<-hcl];exact run_loadCells_list w' _ cs (fun j u hj=>by
    obtain⟨hj',e⟩:=Uan.1 hj;rw[Ram rfl,cell?_congr (w:=w) (w':=w') (by rw[hw])];simp[World.cell?,h2,Ubc,hj',e])

theorem Yeg {u v:Operand}{t t2 E sz B:Nat}{vx:V}{ys:List D}{vs:List Value}(T:AppT P t t2 E sz B)(r1:vx.rep w ρ (a.eval u))(hO:OM w ρ ob)(hK:Xfd E sz B ob ys K vx)
  (hre:Rac w (own ρ) ys vs) (hu:∀y∈ys,y.sz=sz) (hx:∀w',(Builtin.lenOf (a.eval v)).run P w'=.ok ys.length w')
  (hf:∀w',w'.heap=w.heap->(Builtin.firstCells sz ys.length (a.eval v)).run P w'=.ok vs.toArray w'):Ja P a w ρ (.call { callee:=.builtin .append,args:=#[u,v],argTypes:=#[t,t2] }) K Pn:=by
 have hrun:∀(w':World) (val:Value) (o:Oper),o.op=.call { callee:=.builtin .append,args:=#[u,v],argTypes:=#[t,t2] }->(Builtin.append_ #[t,t2] o.type #[a.eval u,a.eval v]).run P w=.ok val w'->(execOp a.eval o).run P w=.ok (.value val) w':=by
  intro w' val o ho hr;simp only[execOp,ho,resolve,invoke,builtin,Sem.run_bind,Sem.run_pure,Result.andThen_ok,List.map_toArray,Uam,Ubm,hr]
 unfold Xfd at hK;split at hK
 ·rename_i id n;unfold Xe0 at hK;split at hK
  ·rename_i E' sz' xs hl;obtain⟨rfl,rfl,rfl,hB,hK⟩:=hK;intro o ho next Q hn _
   obtain⟨val,w',ρ',g1,g2,g3,g4⟩:=Xro (ty:=o.type) T hO hl r1 hre hu hx hf hB;unfold wpA;rw[hrun w' val o ho g1];exact hn val _ _ w' ρ' hK g4 g3 g2
  ·exact hK.elim
 ·obtain⟨hB,hK⟩:=hK;have hl:=X2 ob;rw[W1]at r1;have hbl:∀b,RO.virt.blk? = some b->w.heap.size<=b:=fun b hb=>by simp[RO.blk?]at hb
  have t1:=Vn w (Ext.refl w) (o:=.virt) (hO.free hl) hbl;have o1:OM w (ρ.ins (Xa ob) .virt) ((Xa ob,.arr E sz [])::ob):=hO.ins (Ext.refl w) hl hbl (.inl ⟨Yk,rfl⟩);have q1:(V.sl (Xa ob) ([]:List D).length).rep w (ρ.ins (Xa ob) .virt) (a.eval u):=by
   rw[Yl]; exact⟨_,Yk,rfl,r1⟩
  intro o ho next Q hn _
  obtain⟨val,w',ρ',g1,g2,g3,g4⟩:=Xro (ty:=o.type) (ys:=ys) T o1 (by simp[Xd]) q1 (Raf t1.mono _ _ hre) hu hx hf (by simpa using hB);unfold wpA;rw[hrun w' val o ho g1];simp only[setO,Ubb,List.nil_append,List.length_nil,Ub6]at g3 g4;exact hn val _ _ w' ρ' hK g4 g3 (t1.trans g2)
 ·exact hK.elim

theorem X65 (hs:SM w ρ sl a)(hO:OM w ρ ob){op:Op}{E sz B:Nat}{x y:A}(hc:I.chk P op (.app E sz B x y)=true)
  (h:X4z sz (fun ys=>Xfd E sz B ob ys K (x.ev sl)) (y.ev sl)):Ja P a w ρ op K Pn:=by
 cases op<;>simp only[I.chk,Uah]at hc;rename_i c;obtain⟨ca,args,ts⟩:=c;cases ca<;>(try simp only[Uah]at hc);rename_i b;cases b<;>(try simp only[Uah]at hc);split at hc
 ·rename_i u v t t2 e1 e2;simp only[Uai]at hc;obtain⟨⟨⟨⟨h0,h1⟩,h2⟩,h3⟩,h4⟩:=hc;have ea:args=#[u,v]:=by simpa using Ua4 List.toArray e1
  have et:ts=#[t,t2]:=by simpa using Ua4 List.toArray e2
  subst ea et;have T:AppT P t t2 E sz B:=by
   cases hi:P.info? E with
   | none=>simp[hi]at h1
   | some i=>
    simp only[hi,Uai,Ubn,bne_iff_ne,ne_eq]at h1;obtain⟨⟨⟨⟨⟨g1,g2⟩,g3⟩,g4⟩,g5⟩,g6⟩:=h1;obtain⟨z,hz⟩:=Ua3.1 g5;rw[hz]at g6;simp at g6;refine⟨?_,?_,⟨i,z,hi,g1,g2,hz,g6⟩,by rw[<-g2]; exact g3,by rw[<-g1]; exact g4⟩
    ·revert h0; split<;>simp_all
    ·left; revert h2; split<;>simp_all
  have r1:=A.sound hs h3;have r2:=A.sound hs h4;obtain⟨ys,vs,hK,hre,hu,hx,hf⟩:=X41 (P:=P) r2 h;exact Yeg T r1 hO hK hre hu hx hf
 ·simp at hc

theorem Xya {id E sz:Nat}{xs:List D}(h:Un w ρ id (.arr E sz xs)):Un w ρ id (.vec E sz (xs.map .d)):=by
 rcases h with⟨h1,rfl⟩ | ⟨b,cap,cs,sp,h1,h2,h3,h4,h5⟩
 ·exact .inl ⟨h1,rfl⟩
 ·refine .inr ⟨b,cap,cs,sp,by simpa using h1,h2,(Ray _ _).2 h3,fun x hx=>?_,h5⟩;obtain⟨y,hy,rfl⟩:=Ua5.1 hx;simp[V.size,V.shape,Ran,h4 y hy]
theorem Yaj {sz:Nat}{v:V}{x:Value}{K:List V->Prop}(hO:OM w ρ ob)(hv:v.rep w ρ x)(h:Yl2 sz K ob v) :
  ∃ys vs,K ys/\Rap w ρ ys vs/\Rbr ys=true/\(∀y∈ys,y.size=sz)/\(∀w',(Builtin.lenOf x).run P w'=.ok ys.length w')/\∀w',w'.heap=w.heap->(Builtin.firstCells sz ys.length x).run P w'=.ok vs.toArray w':=by
 have dat:∀{ys:List D} {vs:List Value},Rac w (own ρ) ys vs->(∀y∈ys,y.sz=sz)->Rap w ρ (ys.map .d) vs/\Rbr (ys.map .d)=true/\∀y∈ys.map V.d,y.size=sz:=by
  intro ys vs h1 h2;refine⟨(Ray _ _).2 h1,?_,fun y hy=>?_⟩
  ·clear h1 h2; induction ys with
   | nil=>rfl
   | cons y r ih=>simp[Rbr,V.sto,ih]
  ·obtain⟨z,hz,rfl⟩:=Ua5.1 hy;simp[V.size,V.shape,Ran,h2 z hz]
 have own:∀{id:Nat} {E:Nat} {ys:List V},Un w ρ id (.vec E sz ys)->(V.sl id ys.length).rep w ρ x->Rbr ys=true->K ys->
   ∃ys vs,K ys/\Rap w ρ ys vs/\Rbr ys=true/\(∀y∈ys,y.size=sz)/\(∀w',(Builtin.lenOf x).run P w'=.ok ys.length w')/\∀w',w'.heap=w.heap->(Builtin.firstCells sz ys.length x).run P w'=.ok vs.toArray w':=by
  intro id E ys hm hv hst hK;rw[Yl]at hv;obtain⟨o,hρ,hv⟩:=hv;rcases hm with⟨h1,rfl⟩ | ⟨b,cap,cs,sp,h1,h2,h3,h4,h5⟩
  ·rw[hρ]at h1; simp at h1; subst h1;obtain⟨_,rfl⟩:=hv;exact⟨[],[],hK,by simp[Rap],rfl,by simp,fun w'=>by simp[Builtin.lenOf],fun w' _=>by simp[Builtin.firstCells]⟩
  ·rw[hρ]at h1; simp at h1; subst h1;have hx:=hv.2.2 rfl;subst hx;refine⟨ys,cs,hK,h3,hst,h4,fun w'=>by simp[Builtin.lenOf],fun w' hw=>?_⟩;have hcl:cs.length=ys.length*sz:=by rw[Ra1 _ _ h3,V.shapes_eq,Yf _ h4]
   simp only[Builtin.firstCells,<-hcl];exact run_loadCells_list w' _ cs (fun j u hj=>by
    obtain⟨hj',e⟩:=Uan.1 hj;rw[Ram rfl,cell?_congr (w:=w) (w':=w') (by rw[hw])];simp[World.cell?,h2,Ubc,hj',e])
 unfold Yl2 at h;split at h
 ·rename_i z ys;obtain⟨ys',vs,hK,hre,hu,hl,hf⟩:=X41 (P:=P) (K:=fun ys=>K (ys.map .d)) hv (by simpa only[X4z]using h);obtain⟨d1,d2,d3⟩:=dat hre hu;exact⟨_,vs,hK,d1,d2,d3,fun w'=>by simpa using hl w',fun w' hw=>by simpa using hf w' hw⟩
 ·rw[W1]at hv;subst hv;exact⟨[],[],h,by simp[Rap],rfl,by simp,fun w'=>by simp[Builtin.lenOf],fun w' _=>by simp[Builtin.firstCells]⟩
 ·rename_i id n;rcases h with⟨E,ys,hl,rfl,hst,hK⟩ | ⟨E,ys,hl,rfl,hK⟩
  ·exact own (hO.one id _ hl) hv hst hK
  ·have hm:Un w ρ id (.vec E sz (ys.map .d)):=Xya (hO.one id _ hl);refine own hm (by simpa using hv) ?_ hK;clear hm hl hv hK;induction ys with
   | nil=>rfl
   | cons y r ih=>simp[Rbr,V.sto,ih]
 ·exact h.elim
theorem Yeh {u v:Operand}{t t2 E sz B:Nat}{vx:V}{ys:List V}{vs:List Value}(T:AppT P t t2 E sz B)(r1:vx.rep w ρ (a.eval u))(hO:OM w ρ ob)(hK:Xwf E sz B ob ys K vx)
  (hst:Rbr ys=true) (hre:Rap w ρ ys vs) (hu:∀y∈ys,y.size=sz) (hx:∀w',(Builtin.lenOf (a.eval v)).run P w'=.ok ys.length w')
  (hf:∀w',w'.heap=w.heap->(Builtin.firstCells sz ys.length (a.eval v)).run P w'=.ok vs.toArray w'):Ja P a w ρ (.call { callee:=.builtin .append,args:=#[u,v],argTypes:=#[t,t2] }) K Pn:=by
 have hrun:∀(w':World) (val:Value) (o:Oper),o.op=.call { callee:=.builtin .append,args:=#[u,v],argTypes:=#[t,t2] }->(Builtin.append_ #[t,t2] o.type #[a.eval u,a.eval v]).run P w=.ok val w'->(execOp a.eval o).run P w=.ok (.value val) w':=by
  intro w' val o ho hr;simp only[execOp,ho,resolve,invoke,builtin,Sem.run_bind,Sem.run_pure,Result.andThen_ok,List.map_toArray,Uam,Ubm,hr]
 unfold Xwf at hK;split at hK
 ·rename_i id n;unfold Xun at hK;split at hK
  ·rename_i E' sz' xs hl;obtain⟨rfl,rfl,rfl,hB,hK⟩:=hK;intro o ho next Q hn _
   obtain⟨val,w',ρ',g1,g2,g3,g4⟩:=Xdb (ty:=o.type) T hO hl r1 hst hre hu hx hf hB;unfold wpA;rw[hrun w' val o ho g1];exact hn val _ _ w' ρ' hK g4 g3 g2
  ·rename_i E' sz' xs hl;obtain⟨rfl,rfl,rfl,hB,hK⟩:=hK;have o2:=hO.swap hl (Xya (hO.one id _ hl));have hl2:Xd (setO ob id (.vec E' sz' (xs.map .d))) id=some (.vec E' sz' (xs.map .d)):=by rw[Xs ob id id ⟨_,hl⟩]; simp
   intro o ho next Q hn _
   obtain⟨val,w',ρ',g1,g2,g3,g4⟩:=Xdb (ty:=o.type) T o2 hl2 (by simpa using r1) hst hre hu hx hf (by simpa using hB);rw[Xen]at g3;rw[List.length_map]at g4;unfold wpA;rw[hrun w' val o ho g1];exact hn val _ _ w' ρ' hK g4 g3 g2
  ·exact hK.elim
 ·obtain⟨hB,hK⟩:=hK;have hl:=X2 ob;rw[W1]at r1;have hbl:∀b,RO.virt.blk? = some b->w.heap.size<=b:=fun b hb=>by simp[RO.blk?]at hb
  have t1:=Vn w (Ext.refl w) (o:=.virt) (hO.free hl) hbl;have o1:OM w (ρ.ins (Xa ob) .virt) ((Xa ob,.vec E sz [])::ob):=hO.ins (Ext.refl w) hl hbl (.inl ⟨Yk,rfl⟩);have q1:(V.sl (Xa ob) ([]:List V).length).rep w (ρ.ins (Xa ob) .virt) (a.eval u):=by
   rw[Yl]; exact⟨_,Yk,rfl,r1⟩
  intro o ho next Q hn _
  obtain⟨val,w',ρ',g1,g2,g3,g4⟩:=Xdb (ty:=o.type) (ys:=ys) T o1 (by simp[Xd]) q1 hst (Rau t1 _ _ hre) hu hx hf (by simpa using hB);unfold wpA;rw[hrun w' val o ho g1];simp only[setO,Ubb,List.nil_append,List.length_nil,Ub6]at g3 g4;exact hn val _ _ w' ρ' hK g4 g3 (t1.trans g2)
 ·exact hK.elim

theorem X66 (hs:SM w ρ sl a)(hO:OM w ρ ob){op:Op}{E sz B:Nat}{x y:A}(hc:I.chk P op (.apv E sz B x y)=true)
  (h:Yl2 sz (fun ys=>Xwf E sz B ob ys K (x.ev sl)) ob (y.ev sl)):Ja P a w ρ op K Pn:=by
 cases op<;>simp only[I.chk,Uah]at hc;rename_i c;obtain⟨ca,args,ts⟩:=c;cases ca<;>(try simp only[Uah]at hc);rename_i b;cases b<;>(try simp only[Uah]at hc);split at hc
 ·rename_i u v t t2 e1 e2;simp only[Uai]at hc;obtain⟨⟨⟨⟨h0,h1⟩,h2⟩,h3⟩,h4⟩:=hc;have ea:args=#[u,v]:=by simpa using Ua4 List.toArray e1
  have et:ts=#[t,t2]:=by simpa using Ua4 List.toArray e2
  subst ea et;have T:AppT P t t2 E sz B:=by
   cases hi:P.info? E with
   | none=>simp[hi]at h1
   | some i=>
    simp only[hi,Uai,Ubn,bne_iff_ne,ne_eq]at h1;obtain⟨⟨⟨⟨⟨g1,g2⟩,g3⟩,g4⟩,g5⟩,g6⟩:=h1;obtain⟨z,hz⟩:=Ua3.1 g5;rw[hz]at g6;simp at g6;refine⟨?_,?_,⟨i,z,hi,g1,g2,hz,g6⟩,by rw[<-g2]; exact g3,by rw[<-g1]; exact g4⟩
    ·revert h0; split<;>simp_all
    ·left; revert h2; split<;>simp_all
  have r1:=A.sound hs h3;have r2:=A.sound hs h4;obtain⟨ys,vs,hK,hre,hst,hu,hx,hf⟩:=Yaj (P:=P) hO r2 h;exact Yeh T r1 hO hK hst hre hu hx hf
 ·simp at hc

theorem X67 (hs:SM w ρ sl a)(hO:OM w ρ ob){op:Op}{x:A}(hc:I.chk P op (.cvb x)=true)(h:Xy5 ob K (x.ev sl)):Ja P a w ρ op K Pn:=by
 cases op<;>simp only[I.chk,Uah]at hc;rename_i s t y;simp only[Uai,Ubn]at hc;obtain⟨⟨rfl,h0⟩,h2⟩:=hc;have r1:=A.sound hs h2;obtain⟨e,hs1,he⟩:∃e,P.underlying s=some (.slice e)/\P.underlying e=some (.int .u8):=by
  cases hu:P.underlying s with
  | none=>simp[hu]at h0
  | some d=>
   cases d<;>simp[hu]at h0;rename_i e;refine⟨e,rfl,?_⟩;revert h0; split<;>simp_all
 unfold Xy5 at h;split at h
 ·rename_i id n e1;unfold Xg0 at h;split at h
  ·rename_i E sz xs hl;obtain⟨hsz,rfl,hne,hK⟩:=h;rw[e1]at r1;have r3:=J3 hO hl hsz r1;rw[Yl]at r1;obtain⟨o,hρ,hv⟩:=r1;rcases hO.one id _ hl with⟨h1,rfl⟩ | ⟨b,cap,cs,sp,h1,h2,h3,h4,h5⟩
   ·exact absurd rfl hne
   ·rw[hρ]at h1; simp at h1; subst h1;have hu:=hv.2.2 rfl;have hw:∃w2,w2.heap.size=w.heap.size/\(∀j,j ≠ b->w2.heap[j]? = w.heap[j]?)/\w2.heap[b]? = some (.cells (List.toArray (cs++sp)) E ((cs++sp).length,(cs++sp).length+1))/\w2.tape=w.tape/\w2.os=w.os/\w2.output=w.output/\w2.drawn=w.drawn/\(markStringish ⟨b,0,none⟩).run P w=.ok () w2:=by
     have hsh:w.shape? b=some (E,(cs++sp).length):=by simp[World.shape?,h2]
     refine⟨w.freeze ⟨b,(cs++sp).length,none⟩ 1,by simp[World.freeze],fun j hj=>?_,?_,rfl,rfl,rfl,rfl,?_⟩
     ·simp only[World.freeze];simp[Ub2,Ne.symm hj]
     ·simp only[World.freeze];simp[Ub2,h2]
     ·simp only[markStringish,Sem.run_bind,run_shape,hsh,Result.andThen_ok,run_freeze]
    obtain⟨w2,q1,q2,q3,q4,q5,q6,q8,q7⟩:=hw;obtain⟨t1,o1,hno⟩:=Xhb hO (w2:=w2) ⟨_,hl⟩ q1 (fun j hj=>q2 j (fun e=>hj _ hρ (by rw[e]; rfl))) q4 q5 q6 (by rw[q8]; exact Uak _);refine X0 (v:=.slice (some ⟨b,0,none⟩) xs.length cap) (fun o ho=>?_) hK ?_ o1 t1
    ·simp only[execOp,ho,hu,convert,Sem.run_bind,Xe hs1,Result.andThen_ok,beq_self_eq_true,Xe he,q7,Sem.run_pure]
    ·rw[Zn];refine .inr ⟨_,cap,cs,rfl,?_,⟨fun _=>⟨rfl,hno b _ hρ rfl,Xj q3⟩,fun i hi=>?_⟩,Raf t1.mono _ _ h3,h4⟩
     ·have hcl:cs.length=xs.length*sz:=by rw[Rah _ _ h3,Raj _ h4]
      have:xs.length*sz<=cap*sz:=by rw[<-h5,<-hcl]; simp
      exact Ubv this (Ua9 hsz)
     ·simp[World.cell?,q3,Ubc,hi]
  ·exact h.elim
 ·exact h.elim

theorem Xy9 (hs:SM w ρ sl a)(hO:OM w ρ ob){op:Op}{E sz:Nat}{x:A}(hc:I.chk P op (.nilo E sz x)=true)(h:Xis E sz ob K (x.ev sl)):Ja P a w ρ op K Pn:=by
 unfold Xis at h;split at h
 ·rename_i e1;have hf:=X2 ob;have hbl:∀b,RO.virt.blk? = some b->w.heap.size<=b:=fun b hb=>by simp[RO.blk?]at hb
  have t1:=Vn w (Ext.refl w) (o:=.virt) (hO.free hf) hbl;have o1:OM w (ρ.ins (Xa ob) .virt) ((Xa ob,.arr E sz [])::ob):=hO.ins (Ext.refl w) hf hbl (.inl ⟨Yk,rfl⟩);cases op<;>simp[I.chk]at hc
  all_goals
   have r1:=A.sound hs hc;rw[e1,W1]at r1;exact X0 (fun o ho=>by simp[execOp,ho]) h (Yl.2 ⟨.virt,Yk,⟨rfl,r1⟩⟩) o1 t1
 ·exact h.elim

theorem X7d (hs:SM w ρ sl a)(hO:OM w ρ ob){op:Op}{r:Option A}(hc:I.chk P op (.mkm r)=true)(h:X5n sl r/\K (.mp (Xa ob)) ((Xa ob,.map [])::ob)):Ja P a w ρ op K Pn:=by
 cases op<;>simp only[I.chk,Uah]at hc;rename_i t hint;simp only[Uai]at hc;obtain⟨hm,hK⟩:=h;obtain⟨kt,et,ht⟩:∃kt et,P.underlying t=some (.map kt et):=by
  have:=hc.1;revert this; split<;>simp_all
 obtain⟨t1,o1,p1⟩:=Yhz hO (X2 ob);refine X0 (fun o ho=>?_) hK p1 o1 t1;cases hint with
 | none=>
  simp only[execOp,ho,Option.map_none,Instr.makeMap,Sem.run_bind,run_newObj,Result.andThen_ok,Sem.run_pure];rfl
 | some x=>
  cases r with
  | none=>simp[Xjl]at hc
  | some y=>
   simp only[Xjl]at hc;have r1:=A.sound hs hc.2;simp only[X5n]at hm;unfold Xlc at hm;split at hm
   ·rename_i k n e1;rw[e1,X9]at r1;simp only[execOp,ho,Option.map_some,Instr.makeMap,Sem.run_bind,Xe ht,run_newObj,Result.andThen_ok,Sem.run_pure,r1,asInt];rfl
   ·exact hm.elim

theorem Xum {x y:D}(h:Rb0 x y=true):∃u v,x.key0=some u/\y.key0=some v:=by
 unfold Rb0 at h;split at h<;>first | exact⟨_,_,rfl,rfl⟩ | cases h
theorem Xfc:∀{xs ys:List D},Z4 xs ys=true->∃us vs,Vk xs=some us/\Vk ys=some vs
 | [],[],_=>⟨[],[],rfl,rfl⟩
 | x::r,y::s,h=>by
  simp only[Z4,Uai]at h;obtain⟨u,v,h1,h2⟩:=Xum h.1;obtain⟨us,vs,h3,h4⟩:=Xfc h.2;exact⟨u::us,v::vs,by simp only[Vk,h1,h3],by simp only[Vk,h2,h4]⟩
 | [],_::_,h=>by cases h
 | _::_,[],h=>by cases h
theorem Xda {k j:D}(h:Rb1 k j=true):∃u v,k.key=some u/\j.key=some v:=by
 unfold Rb1 at h;split at h<;>first | exact⟨_,_,rfl,rfl⟩ | (cases h; done) | skip
 obtain⟨us,vs,h1,h2⟩:=Xfc h;exact⟨.agg us.toArray,.agg vs.toArray,by simp only[D.key,h1,Yyr],by simp only[D.key,h2,Yyr]⟩
def D.flat0:D->Bool
 | .agg _=>false
 | _=>true
theorem Xn1 {td:TypeDesc}{k:D}(h:U7 td k=true):k.flat0=true:=by
 unfold U7 at h; split at h<;>first | rfl | cases h
theorem Xf2 {td:TypeDesc}{kd k:D}(h:U7 td kd=true)(h2:Rb1 kd k=true):U7 td k=true:=by
 unfold U7 at h;split at h
 ·cases k<;>simp[Rb1]at h2<;>rfl
 ·cases k<;>simp[Rb1]at h2<;>rfl
 ·cases k<;>simp[Rb1]at h2<;>rfl
 ·cases h
theorem Xvv {td:TypeDesc}{k j:D}{u v:Value}(hk:U7 td k=true)(ha:Rb1 k j=true)(hu:k.key=some u)(hv:j.key=some v):Instr.sameNow td u v=some (Rb2 k j):=by
 have hfl:=Xn1 hk;cases k<;>simp only[D.flat0,Uah]at hfl<;>cases j<;>simp only[Rb1,Uah,Ubp]at ha<;>simp only[D.key,Uaq]at hu hv<;>subst hu<;>subst hv<;>cases td<;>simp only[U7,Uah]at hk
 ·subst ha; simp[Instr.sameNow,Rb2]
 ·simp[Instr.sameNow,Rb2]
 ·rename_i s t;simp only[Instr.sameNow,Rb2,Uaq];rw[beq_toListBytes,Xmn,Xmn]
theorem X4a:∀{xs ys:List D} {us vs:List Value},Z4 xs ys=true->D.eqbs xs ys=true->Vk xs=some us->Vk ys=some vs->vs=us:=by
 intro xs ys us vs _ h2 h3 h4;rw[D.eqbs_eq _ _ h2]at h3;rw[h3]at h4; exact (Ub1 h4).symm
theorem Xi3 {k j:D}{u v:Value}(ha:Rb1 k j=true)(hs:Rb2 k j=true)(hu:k.key=some u)(hv:j.key=some v):v=u:=by
 cases k<;>cases j<;>simp only[Rb1,Uah,Ubp]at ha<;>simp only[Rb2,Ubn]at hs<;>simp only[D.key,Uaq]at hu hv
 ·rw[<-hu,<-hv]; simp_all
 ·rw[<-hu,<-hv]; simp_all
 ·rw[<-hu,<-hv]; simp_all
 ·obtain⟨us,h1,rfl⟩:=Zh hu;obtain⟨vs,h2,rfl⟩:=Zh hv;rw[X4a ha hs h1 h2]
theorem X9d {x y:D}{u:Value}(h1:x.key0=some u)(h2:y.key0=some u)(ha:Rb0 x y=true):D.eqb x y=true:=by
 cases x<;>cases y<;>simp only[Rb0,Uah,Ubp]at ha<;>simp only[D.key0,Uaq]at h1 h2<;>rw[<-h1]at h2
 ·simp only[Value.int.injEq]at h2; simp[D.eqb,h2.1,h2.2]
 ·simp only[Value.bool.injEq]at h2; simp[D.eqb,h2]
 ·simp only[Value.string.injEq,ByteArray.mk.injEq]at h2;have h2:=Ua4 Array.toList h2;simp only[List.toList_toArray]at h2;simp[D.eqb,h2]
theorem Xlh:∀{xs ys:List D} {us:List Value},Vk xs=some us->Vk ys=some us->Z4 xs ys=true->D.eqbs xs ys=true
 | [],[],_,_,_,_=>rfl
 | x::r,y::s,us,h1,h2,ha=>by
  simp only[Z4,Uai]at ha;simp only[Vk]at h1 h2;split at h1
  ·rename_i u1 us1 a1 a2;split at h2
   ·rename_i u2 us2 b1 b2;cases h1; cases h2;simp only[D.eqbs,Uai];exact⟨X9d a1 b1 ha.1,Xlh a2 b2 ha.2⟩
   ·cases h2
  ·cases h1
 | [],_::_,_,_,_,h=>by cases h
 | _::_,[],_,_,_,h=>by cases h
theorem Xn0 {k j:D}{u:Value}(hu:k.key=some u)(hj:j.key=some u)(ha:Rb1 k j=true):Rb2 k j=true:=by
 cases k<;>cases j<;>simp only[Rb1,Uah,Ubp]at ha<;>simp only[D.key,Uaq]at hu hj
 ·rw[<-hu]at hj; simp only[Value.int.injEq]at hj; simp[Rb2,hj.2]
 ·rw[<-hu]at hj; simp only[Value.bool.injEq]at hj; simp[Rb2,hj]
 ·rw[<-hu]at hj; simp only[Value.string.injEq,ByteArray.mk.injEq]at hj;have hj:=Ua4 Array.toList hj;simp only[List.toList_toArray]at hj;simp[Rb2,hj]
 ·obtain⟨us,h1,rfl⟩:=Zh hu;obtain⟨vs,h2,h3⟩:=Zh hj;have h3:us=vs:=by simpa using h3
  subst h3;exact Xlh h1 h2 ha
theorem Xss {e:MapEntry}{l:List MapEntry}{u:Value}{j:Nat}(h:∀i,i<j->∀e',l[i]? = some e'->e'.key ≠ u)(h0:e.key ≠ u):∀i,i<j+1->∀e',(e::l)[i]? = some e'->e'.key ≠ u
 | 0,_,e',he=>by simp at he; subst he; exact h0
 | i+1,hi,e',he=>h i (by omega) e' (by simpa using he)
theorem X0n {td:TypeDesc}{k:D}{u:Value}(hk:U7 td k=true)(hu:k.key=some u):∀(es:List (D×V)) (l:List MapEntry) (i:Nat),Yb w ρ es l->(∀e∈es,Rb1 k e.1=true)->
  (Vb k es=none/\Instr.findNow td u l i=some none)\/∃v j e,Vb k es=some v/\Instr.findNow td u l i=some (some (i+j,e.val))/\l[j]? = some e/\v.rep w ρ e.val/\e.key=u/\∀i,i<j->∀e',l[i]? = some e'->e'.key ≠ u
 | [],l,i,h,_=>by
  simp only[Yb]at h; subst h;exact .inl ⟨rfl,rfl⟩
 | (j,v)::r,l,i,h,ha=>by
  obtain⟨e,l',rfl,h1,h2,h3⟩:=h;have haj:=ha (j,v) (by simp);have hs:=Xvv hk haj hu h1;simp only[Instr.findNow,Vb,hs];cases hsk:Rb2 k j with
  | true=>
   exact .inr ⟨v,0,e,by simp,by simp,by simp,h2,Xi3 haj hsk hu h1,fun _ h=>(by omega)⟩
  | false=>
   rcases X0n hk hu r l' (i+1) h3 (fun x hx=>ha x (by simp[hx])) with⟨f1,f2⟩ | ⟨v',j',e',f1,f2,f3,f4,f5,f6⟩
   ·exact .inl ⟨by simpa using f1,by simpa using f2⟩
   ·exact .inr ⟨v',j'+1,e',by simpa using f1,by simp only[f2]; congr 3; omega,by simpa using f3,f4,f5,Xss f6 fun hk=>by rw[Xn0 hu (by rw[h1,hk]) haj]at hsk; cases hsk⟩
theorem Xdt {kt:TypeId}{td:TypeDesc}(ht:P.underlying kt=some td){u:Value}{l:List MapEntry}{r:Option (Nat×Value)}(h:Instr.findNow td u l 0=some r)(w':World):(Instr.findKey kt u l).run P w'=.ok r w':=by
 simp[Instr.findKey,Xe ht,h]
theorem Xkc {kt:TypeId}{td:TypeDesc}(ht:P.underlying kt=some td){k:D}(hk:U7 td k=true)(u:Value)(b:Bool)(w':World):(Instr.checkKey b 10000 kt u).run P w'=.ok () w':=by
 unfold Instr.checkKey;simp only[Sem.run_bind,Xe ht,Result.andThen_ok];unfold U7 at hk;split at hk<;>first | (cases hk; done) | simp
theorem Xg9:∀{kd xs:List D},Z4 kd xs=true->Rbd (kd.map Xvh) xs=true
 | [],[],_=>rfl
 | x::r,y::s,h=>by
  simp only[Z4,Uai]at h;simp only[Uam,Rbd,Uai];refine⟨?_,Xg9 h.2⟩;have h1:=h.1;unfold Rb0 at h1; split at h1
  ·simpa[Xvh,KT.fits]using h1
  ·rfl
  ·rfl
  ·cases h1
 | [],_::_,h=>by cases h
 | _::_,[],h=>by cases h
theorem Xr0:∀{kd:List D},Rbc (kd.map Xvh)<=1
 | []=>by simp[Rbc]
 | x::r=>by
  simp only[Uam,Rbc];have:=Xr0 (kd:=r);have h1:(Xvh x).depth<=1:=by cases x<;>simp[Xvh,KT.depth]
  omega
theorem Yfc {t:TypeId}{x:D}(hc:(Xvh x).chk P t=true)(b:Bool)(u:Value)(n:Nat)(w':World):(Instr.checkKey b (n+1) t u).run P w'=.ok () w':=by
 unfold Instr.checkKey;cases x<;>simp only[Xvh,KT.chk]at hc<;>(split at hc<;>first | (cases hc; done) | (rename_i hu; simp only[Sem.run_bind,Xe hu,Result.andThen_ok]; simp))
theorem Xke (b:Bool)(n:Nat):∀(kd:List D) (fds:List Field) (o:Nat) (xs:List D) (px cx:List Value),KT.chks P (kd.map Xvh) fds o=true->Rbd (kd.map Xvh) xs=true->Rac w (own ρ) xs cx->px.length=o->∀w',
  (forIn fds PUnit.unit (fun f (_:PUnit)=>(if f.name ≠ "_" then (do Instr.checkKey b (n+1) f.type (<-part f.type (px++cx).toArray f.offset); pure (ForInStep.yield PUnit.unit)) else pure (ForInStep.yield PUnit.unit):Sem (ForInStep PUnit)))).run P w'=.ok PUnit.unit w'
 | [],fds,o,xs,px,cx,hc,hx,rx,lx,w'=>by
  cases fds<;>simp[KT.chks]at hc;simp
 | t::r,fds,o,xs,px,cx,hc,hx,rx,lx,w'=>by
  cases fds<;>simp only[Uam,KT.chks,Uah,Uai,bne_iff_ne,ne_eq,Ubn]at hc;rename_i f fs;cases xs<;>simp only[Uam,Rbd,Uah,Uai]at hx;rename_i x xs;simp only[Rac]at rx;obtain⟨a1,a2,rfl,ra,rx⟩:=rx;obtain⟨⟨⟨⟨hn,ho⟩,hsz⟩,hct⟩,hcr⟩:=hc;have e1:f.offset=px.length:=by omega
  have p1:=Xal (c1:=px) (c3:=a2) hct hsz hx.1 ra w';rw[<-e1]at p1;have la:=Rag _ _ ra;rw[Rbl _ x hx.1]at la;have ih:=Xke b n r fs (o+(Xvh t).cells) xs (px++a1) a2 hcr hx.2 rx (by simp; omega) w';simp only[Uav]at ih;simp only[List.forIn_cons,Sem.run_bind,hn,ne_eq,not_false_eq_true,Ubb,p1,Yfc hct,Result.andThen_ok,Sem.run_pure];exact ih
theorem Jc {kt:TypeId}{kd k:D}{u:Value}(hk:Vu P kt kd=true)(ha:Rb1 kd k=true)(hu:k.key=some u)(b:Bool)(w':World):(Instr.checkKey b 10000 kt u).run P w'=.ok () w':=by
 unfold Vu at hk;split at hk
 ·rename_i xs;cases k<;>simp only[Rb1,Uah]at ha;rename_i ys;simp only[D.key]at hu;obtain⟨us,h1,rfl⟩:=Zh hu;simp only[KT.chk]at hk;split at hk
  ·rename_i fds hst;simp only[Uai]at hk;unfold Instr.checkKey;simp only[Sem.run_bind,Xe hst,Result.andThen_ok];rw[<-Array.forIn_toList];have:=Xke (P:=P) (w:=w') (ρ:=⟨fun _=>none,fun _=>False,⟨fun _=>none,fun _ _ _ _ _=>False⟩⟩) b 9998 xs fds.toList 0 ys [] us hk.2 (Xg9 ha) (U5 h1) rfl w';simp only[List.nil_append]at this;simp only[this,Result.andThen_ok,Sem.run_pure]
  ·cases hk
 ·split at hk
  ·rename_i td htd;exact Xkc htd (Xf2 hk ha) u b w'
  ·cases hk
theorem X0j {kt:TypeId}{xs ys zs:List D}{us vs:List Value}(hk:(KT.st (xs.map Xvh)).chk P kt=true)(ha:Z4 xs ys=true)(hb:Z4 ys zs=true)(hc:Z4 xs zs=true)(h1:Vk ys=some us)(h2:Vk zs=some vs)(w':World) :
  (Op.equal kt (.agg us.toArray) (.agg vs.toArray)).run P w'=.ok (Rb2 (.agg ys) (.agg zs)) w':=by
 have:=KT.equal (P:=P) (w:=w') (ow:=fun _=>False) (KT.st (xs.map Xvh)) kt (.agg ys) (.agg zs) us vs 10000 hk (by simp only[KT.fits]; exact Xg9 ha) (by simp only[KT.fits]; exact Xg9 hc) (by simp only[D.rep]; exact U5 h1) (by simp only[D.rep]; exact U5 h2) (by simp only[KT.depth]; have:=Xr0 (kd:=xs); omega) w';simp only[Xex,D.isAgg,Ubb,D.eqb]at this;exact this
theorem Xbt:∀{a b c:List D},Z4 a b=true->Z4 b c=true->Z4 a c=true
 | [],[],[],_,_=>rfl
 | x::r,y::s,z::t,h,h2=>by
  simp only[Z4,Uai]at h h2⊢;refine⟨?_,Xbt h.2 h2.2⟩;have h1:=h.1; have h3:=h2.1;cases x<;>cases y<;>simp[Rb0]at h1<;>cases z<;>simp[Rb0]at h3<;>simp_all[Rb0]
 | [],[],_::_,_,h=>by cases h
 | [],_::_,_,h,_=>by cases h
 | _::_,[],_,h,_=>by cases h
 | _::_,_::_,[],_,h=>by cases h
theorem Yay {kt:TypeId}{k:D}{u:Value}(hu:k.key=some u)(hs:∀j v,Rb1 k j=true->j.key=some v->∀w',(Op.equal kt u v).run P w'=.ok (Rb2 k j) w'):∀(es:List (D×V)) (l:List MapEntry) (i:Nat),Yb w ρ es l->(∀e∈es,Rb1 k e.1=true)->
  (Vb k es=none/\∀w',(Instr.findAsking kt u l i).run P w'=.ok none w')\/∃v j e,Vb k es=some v/\(∀w',(Instr.findAsking kt u l i).run P w'=.ok (some (i+j,e.val)) w')/\l[j]? = some e/\v.rep w ρ e.val/\e.key=u/\∀i,i<j->∀e',l[i]? = some e'->e'.key ≠ u
 | [],l,i,h,_=>by
  simp only[Yb]at h; subst h;exact .inl ⟨rfl,fun w'=>by simp[Instr.findAsking]⟩
 | (j,v)::r,l,i,h,ha=>by
  obtain⟨e,l',rfl,h1,h2,h3⟩:=h;have haj:=ha (j,v) (by simp);have hq:=hs j _ haj h1;simp only[Vb];cases hsk:Rb2 k j with
  | true=>
   rw[hsk]at hq;exact .inr ⟨v,0,e,by simp,fun w'=>by simp[Instr.findAsking,hq],by simp,h2,Xi3 haj hsk hu h1,fun _ h=>(by omega)⟩
  | false=>
   rw[hsk]at hq;rcases Yay hu hs r l' (i+1) h3 (fun x hx=>ha x (by simp[hx])) with⟨f1,f2⟩ | ⟨v',j',e',f1,f2,f3,f4,f5,f6⟩
   ·exact .inl ⟨by simpa using f1,fun w'=>by simp[Instr.findAsking,hq,f2]⟩
   ·exact .inr ⟨v',j'+1,e',by simpa using f1,fun w'=>by simp only[Instr.findAsking,Sem.run_bind,hq,Result.andThen_ok,Uah,Uay,f2]; congr 3; omega,by simpa using f3,f4,f5,Xss f6 fun hk=>by rw[Xn0 hu (by rw[h1,hk]) haj]at hsk; cases hsk⟩
theorem Xds {kt:TypeId}{fds:Array Field}(hst:P.underlying kt=some (.struct fds)){u:Value}{l:List MapEntry}(w':World):(Instr.findKey kt u l).run P w'=(Instr.findAsking kt u l).run P w':=by
 cases l with
 | nil=>simp[Instr.findKey,Xe hst,Instr.findNow,Instr.findAsking]
 | cons e r=>
  have:Instr.findNow (.struct fds) u (e::r) 0=none:=by simp[Instr.findNow,Instr.sameNow]
  simp[Instr.findKey,Xe hst,this]
theorem Xbc {kt:TypeId}{kd k:D}{u:Value}(hk:Vu P kt kd=true)(hkd:Rb1 kd k=true)(hu:k.key=some u){es:List (D×V)}{l:List MapEntry}(h:Yb w ρ es l)(ha:∀e∈es,Rb1 k e.1=true) :
  (Vb k es=none/\∀w',(Instr.findKey kt u l).run P w'=.ok none w')\/∃v j e,Vb k es=some v/\(∀w',(Instr.findKey kt u l).run P w'=.ok (some (j,e.val)) w')/\l[j]? = some e/\v.rep w ρ e.val/\e.key=u/\∀i,i<j->∀e',l[i]? = some e'->e'.key ≠ u:=by
 have hk0:=hk;unfold Vu at hk;split at hk
 ·rename_i xs;cases k<;>simp only[Rb1,Uah]at hkd;rename_i ys;have hu0:=hu;simp only[D.key]at hu;obtain⟨us,h1,rfl⟩:=Zh hu;have hst:∃fds,P.underlying kt=some (.struct fds):=by
   simp only[KT.chk]at hk;split at hk
   ·exact⟨_,by assumption⟩
   ·cases hk
  obtain⟨fds,hst⟩:=hst;have hs:∀j v,Rb1 (.agg ys) j=true->j.key=some v->∀w',(Op.equal kt (.agg us.toArray) v).run P w'=.ok (Rb2 (.agg ys) j) w':=by
   intro j v haj hv w';cases j<;>simp only[Rb1,Uah]at haj;simp only[D.key]at hv;obtain⟨vs,h2,rfl⟩:=Zh hv;exact X0j hk hkd haj (Xbt hkd haj) h1 h2 w'
  rcases Yay (w:=w) (ρ:=ρ) hu0 hs es l 0 h ha with⟨f1,f2⟩ | ⟨v,j,e,f1,f2,f3⟩
  ·exact .inl ⟨f1,fun w'=>(Xds hst w').trans (f2 w')⟩
  ·exact .inr ⟨v,j,e,f1,fun w'=>(Xds hst w').trans (by simpa using f2 w'),f3⟩
 ·split at hk
  ·rename_i td htd;rcases X0n (Xf2 hk hkd) hu es l 0 h ha with⟨f1,f2⟩ | ⟨v,j,e,f1,f2,f3⟩
   ·exact .inl ⟨f1,fun w'=>Xdt htd f2 w'⟩
   ·exact .inr ⟨v,j,e,f1,fun w'=>Xdt htd (by simpa using f2) w',f3⟩
  ·cases hk
theorem X1c {w:World}{ow:Nat->Prop}:∀{xs:List D} {us cs:List Value},Vk xs=some us->Rac w ow xs cs->cs=us
 | [],us,cs,h,h2=>by simp only[Vk,Uaq]at h; simp only[Rac]at h2; rw[h2,h]
 | x::r,us,cs,h,h2=>by
  simp only[Vk]at h;split at h
  ·rename_i u us' h1 h3;cases h;simp only[Rac]at h2;obtain⟨c1,c2,rfl,r1,r2⟩:=h2;rw[X1c h3 r2];cases x<;>simp only[D.key0,Uaq,reduceCtorEq]at h1<;>subst h1<;>simp only[D.rep]at r1<;>rw[r1]<;>rfl
  ·cases h
theorem X1b {d:D}{u v:Value}(h1:d.key=some u)(h2:(V.d d).rep w ρ v):v=u:=by
 cases d<;>simp only[D.key,Uaq,reduceCtorEq]at h1
 ·rw[X9]at h2; rw[h2,<-h1]
 ·rw[rep_bool]at h2; rw[h2,<-h1]
 ·rw[Vf]at h2; rw[h2,<-h1]
 ·obtain⟨us,h3,rfl⟩:=Zh h1;rw[Xao]at h2;rcases h2 with⟨_,ds,rfl,h2⟩ | ⟨h2,_⟩
  ·simp only[D.rep]at h2;rw[X1c h3 h2]
  ·cases h2
theorem Yaw {et:TypeId}{z:D}(h:(match Q4 P et with | some cs=>Rbf z cs&&(((P.info? et).bind (·.zero)).map fun v=>match v with | .agg _=>true | _=>false)==some (V.d z).isAgg | none=>false)=true) :
  ∃zv,(V.d z).rep w ρ zv/\∀w',(zeroValue et).run P w'=.ok zv w':=by
 cases hzt:Q4 P et with
 | none=>simp[hzt]at h
 | some cs=>
  simp only[hzt,Uai,Ubn]at h;obtain⟨hz1,hz2⟩:=h;obtain⟨zv,e1,e2,hzr⟩:=Qy hzt;refine⟨zv,?_,hzr⟩;have hr:(V.d z).repC w ρ cs:=by simp only[V.repC]; exact Rbj z cs hz1
  rw[e2]at hz2;simp only[Option.map_some,Uaq]at hz2;cases zv with
  | agg cs'=>
   simp only at hz2;refine .inr (.inl ⟨hz2.symm,cs,?_,hr⟩);simp only[Value.cells]at e1;rw[<-e1]
  | _=>
   simp only at hz2;refine .inr (.inr ⟨hz2.symm,?_⟩);simp only[Value.cells]at e1;rw[<-e1]at hr;simpa using hr
theorem X7c (hs:SM w ρ sl a)(hO:OM w ρ ob){op:Op}{kd z:D}{ok:Bool}{m k:A}(hc:I.chk P op (.lkp kd z ok m k)=true)(h:X1o ob kd z ok (fun v=>K v ob) (m.ev sl) (k.ev sl)):Ja P a w ρ op K Pn:=by
 cases op<;>simp only[I.chk,Uah]at hc;rename_i t x i o;simp only[Uai,Ubn]at hc;obtain⟨⟨⟨rfl,hty⟩,hx⟩,hi⟩:=hc;obtain⟨kt,et,ht,hkk,hz⟩:∃kt et,P.underlying t=some (.map kt et)/\Vu P kt kd=true/\(match Q4 P et with | some cs=>Rbf z cs&&(((P.info? et).bind (·.zero)).map fun v=>match v with | .agg _=>true | _=>false)==some (V.d z).isAgg | none=>false)=true:=by
  revert hty; split
  ·rename_i kt et h; intro h1; simp only[Uai]at h1; exact⟨kt,et,h,h1.1,h1.2⟩
  ·intro h; cases h
 obtain⟨zv,hzv,hzr⟩:=Yaw (w:=w) (ρ:=ρ) hz;have r1:=A.sound hs hx;have r2:=A.sound hs hi;have tup:∀{v:V} {u:Value} (b:Bool),v.rep w ρ u->(V.tup [v,.d (.bool b)]).rep w ρ (.tuple #[u,.bool b]):=fun b hv=>by
  rw[We];refine⟨[_,.bool b],rfl,?_⟩;simp only[V.reps];exact⟨_,_,rfl,hv,_,_,rfl,rep_bool.2 rfl,rfl⟩
 unfold X1o at h;split at h
 ·rename_i id kk e1 e2;rw[e1]at r1;rw[e2]at r2;unfold Xhe at h;split at h
  ·rename_i es hl;obtain⟨⟨ha0,hall⟩,hK⟩:=h;obtain⟨b,l,clk,g1,g2,g3,_⟩:=hO.one id _ hl;rw[Xgb]at r1;rcases r1 with⟨b',g4,r1⟩ | ⟨g4,_⟩
   ·rw[g1]at g4; cases g4;obtain⟨_,ku,_,hku⟩:=Xda ha0;have r2':=X1b hku r2;have hck:=fun b w'=>Jc hkk ha0 hku b w';have hget:(getObj b).run P w=.ok (.map l.toArray clk) w:=by simp[getObj,Sem.run,g2]
    rcases Xbc hkk ha0 hku g3 hall with⟨f1,f2⟩ | ⟨v,j,e,f1,f2,f3,f4,f5,_⟩
    ·rw[f1]at hK;cases o
     ·exact X0 (fun o ho=>by simp[execOp,ho,Instr.lookup,r1,r2',Xe ht,hget,hck,f2,hzr]) hK hzv hO (Tr.refl _ _)
     ·exact X0 (fun o ho=>by simp[execOp,ho,Instr.lookup,r1,r2',Xe ht,hget,hck,f2,hzr]) hK (tup false hzv) hO (Tr.refl _ _)
    ·rw[f1]at hK;cases o
     ·exact X0 (fun o ho=>by simp[execOp,ho,Instr.lookup,r1,r2',Xe ht,hget,hck,f2]) hK f4 hO (Tr.refl _ _)
     ·exact X0 (fun o ho=>by simp[execOp,ho,Instr.lookup,r1,r2',Xe ht,hget,hck,f2]) hK (tup true f4) hO (Tr.refl _ _)
   ·rw[g1]at g4; cases g4
  ·exact h.elim
 ·rename_i kk e1 e2;rw[e1,Xar]at r1;rw[e2]at r2;obtain⟨ha0,hK⟩:=h;obtain⟨_,ku,_,hku⟩:=Xda ha0;have r2':=X1b hku r2;have hck:=fun b w'=>Jc hkk ha0 hku b w';have f2:∀w',(Instr.findKey kt ku ([]:List MapEntry)).run P w'=.ok none w':=fun w'=>by
   rcases Xbc (w:=w) (ρ:=ρ) (es:=[]) (l:=[]) hkk ha0 hku rfl (by simp) with⟨_,f⟩ | ⟨_,_,_,f,_⟩
   ·exact f w'
   ·cases f
  cases o
  ·exact X0 (fun o ho=>by simp[execOp,ho,Instr.lookup,r1,r2',Xe ht,hck,f2,hzr]) hK hzv hO (Tr.refl _ _)
  ·exact X0 (fun o ho=>by simp[execOp,ho,Instr.lookup,r1,r2',Xe ht,hck,f2,hzr]) hK (tup false hzv) hO (Tr.refl _ _)
 ·exact h.elim

theorem Ydm {k:D}{u:Value}{x:V}{xv:Value}(hu:k.key=some u)(hx:x.rep w ρ xv)(clk:Nat):∀(es:List (D×V)) (l:List MapEntry),Yb w ρ es l->Vb k es=none->Yb w ρ (Xmo k x es) (l++[{ key:=u,val:=xv,born:=clk }])
 | [],l,h,_=>by simp only[Yb]at h; subst h; exact⟨_,[],rfl,hu,hx,rfl⟩
 | (j,v)::r,l,h,hf=>by
  obtain⟨e,l',rfl,h1,h2,h3⟩:=h;simp only[Vb]at hf;split at hf
  ·cases hf
  ·rename_i hs;simp only[Xmo,hs];exact⟨e,_,rfl,h1,h2,Ydm hu hx clk r l' h3 hf⟩
theorem X5b {k:D}{u:Value}{x:V}{xv:Value}(hu:k.key=some u)(hx:x.rep w ρ xv):∀(es:List (D×V)) (l:List MapEntry) (v:V) (j:Nat) (e:MapEntry),Yb w ρ es l->(∀e∈es,Rb1 k e.1=true)->(∀i,i<j->∀e',l[i]? = some e'->e'.key ≠ u)->l[j]? = some e->e.key=u->
  Yb w ρ (Xmo k x es) (l.modify j fun e=>{ e with key:=u,val:=xv })
 | [],l,v,j,e,h,_,_,hl,_=>by simp only[Yb]at h; subst h; simp at hl
 | (q,y)::r,l,v,0,e,h,ha,_,hl,hk=>by
  obtain⟨e',l',rfl,h1,h2,h3⟩:=h;simp only[List.getElem?_cons_zero,Uaq]at hl;subst hl;have hs:=Xn0 hu (by rw[h1,hk]) (ha (q,y) (by simp));simp only[Xmo,hs,Ubb];exact⟨_,l',rfl,hu,hx,h3⟩
 | (q,y)::r,l,v,j+1,e,h,ha,hb,hl,hk=>by
  obtain⟨e',l',rfl,h1,h2,h3⟩:=h;have hne:=hb 0 (by omega) e' (by simp);have hs:Rb2 k q=false:=by
   cases hs:Rb2 k q with
   | false=>rfl
   | true=>exact absurd (Xi3 (ha (q,y) (by simp)) hs hu h1) hne
  simp only[Xmo,hs,Uah,Uay];exact⟨e',_,rfl,h1,h2,X5b hu hx r l' v j e h3 (fun x hx=>ha x (by simp[hx])) (fun i hi e2 he=>hb (i+1) (by omega) e2 (by simpa using he)) (by simpa using hl) hk⟩
theorem Xat {n:Nat}:∀{xs:List D} {us:List Value},Vk xs=some us->(us.zip us).all (fun (x,y)=>Instr.sameBits n x y)=true
 | [],us,h=>by simp only[Vk,Uaq]at h; subst h; rfl
 | x::r,us,h=>by
  simp only[Vk]at h;split at h
  ·rename_i u us' h1 h2;cases h;simp only[List.zip_cons_cons,List.all_cons,Uai];refine⟨?_,Xat h2⟩;cases x<;>simp only[D.key0,Uaq,reduceCtorEq]at h1<;>subst h1<;>cases n<;>simp[Instr.sameBits,beq_toListBytes]
  ·cases h
theorem Xmh {k:D}{u:Value}(h:k.key=some u):Instr.sameBits 10000 u u=true:=by
 cases k<;>simp only[D.key,Uaq,reduceCtorEq]at h
 ·subst h; show (_==_&&_==_)=true; simp
 ·subst h; show (_==_)=true; simp
 ·subst h; show (_==_)=true; rw[beq_toListBytes]; simp
 ·obtain⟨us,h1,rfl⟩:=Zh h;have:=Xat (n:=9999) h1;show (_==_&&_)=true;simpa using this
theorem Rb4:∀{l:List MapEntry} {n:Nat} {e:MapEntry},Xa0 n l->e.born=n+l.length->Xa0 n (l++[e])
 | [],n,e,_,h=>⟨by simpa using h,trivial⟩
 | x::r,n,e,h,h2=>⟨h.1,Rb4 h.2 (by simp at h2; omega)⟩
theorem Rb5:∀{l:List MapEntry} {n:Nat},Xa0 n l->∀(j:Nat) (u v:Value),Xa0 n (l.modify j fun e=>{ e with key:=u,val:=v })
 | [],n,h,j,u,v=>by simpa using h
 | x::r,n,h,0,u,v=>⟨h.1,h.2⟩
 | x::r,n,h,j+1,u,v=>⟨h.1,Rb5 h.2 j u v⟩
theorem Xy8 (hs:SM w ρ sl a)(hO:OM w ρ ob){op:Op}{kd:D}{m k v:A}(hc:I.chk P op (.mset kd m k v)=true)(h:Xd4 ob kd (v.ev sl) K (m.ev sl) (k.ev sl)):Ja P a w ρ op K Pn:=by
 obtain⟨t,x,i,y,hop,hty,hx,hi,hy⟩:∃t x i y,(op=.mapUpdate t x i y\/op=.insert t x i y)/\(match P.underlying t with | some (.map kt _)=>Vu P kt kd | _=>false)=true/\A.chk x m=true/\A.chk i k=true/\A.chk y v=true:=by
  cases op<;>simp only[I.chk,Uah,Uai]at hc
  ·rename_i t x i y; exact⟨t,x,i,y,.inr rfl,hc.1.1.1,hc.1.1.2,hc.1.2,hc.2⟩
  ·rename_i t x i y; exact⟨t,x,i,y,.inl rfl,hc.1.1.1,hc.1.1.2,hc.1.2,hc.2⟩
 obtain⟨kt,et,ht,hkk⟩:∃kt et,P.underlying t=some (.map kt et)/\Vu P kt kd=true:=by
  revert hty; split
  ·rename_i kt et h; intro h1; exact⟨kt,et,h,h1⟩
  ·intro h; cases h
 have r1:=A.sound hs hx;have r2:=A.sound hs hi;have r3:=A.sound hs hy;unfold Xd4 at h;split at h
 ·rename_i id kk e1 e2;rw[e1]at r1;rw[e2]at r2;unfold Xag at h;split at h
  ·rename_i es hl;obtain⟨⟨ha0,hall⟩,hst,hK⟩:=h;obtain⟨b,l,clk,g1,g2,g3,g5,g6⟩:=hO.one id _ hl;rw[Xgb]at r1;rcases r1 with⟨b',g4,r1⟩ | ⟨g4,_⟩
   ·rw[g1]at g4; cases g4;obtain⟨_,ku,_,hku⟩:=Xda ha0;have r2':=X1b hku r2;have hck:=fun b w'=>Jc hkk ha0 hku b w';have hget:(getObj b).run P w=.ok (.map l.toArray clk) w:=by simp[getObj,Sem.run,g2]
    rcases Xbc hkk ha0 hku g3 hall with⟨f0,f1⟩ | ⟨v',j,e,f0,f1,f2,_,f3,f6⟩
    ·have f2:=Ydm hku r3 clk es l g3 f0;obtain⟨t1,o1⟩:=Xmu (clk':=clk+1) hO hl g1 g2 f2 ⟨by simp[g5],Rb4 g6 (by simp[g5])⟩;refine Jz (fun o ho=>?_) hK o1 t1;have hset:(setObj b (.map ((l++[(⟨ku,a.eval y,clk⟩:MapEntry)]).toArray) (clk+1))).run P w=.ok () (Xaz w b (.map ((l++[(⟨ku,a.eval y,clk⟩:MapEntry)]).toArray) (clk+1))):=by simp[setObj,Sem.run,g2,Xaz]
     rcases hop with rfl | rfl<;>simp[execOp,ho,Instr.mapUpdate,r1,r2',Xe ht,hget,hck,f1]<;>(rw[hset]; simp)
    ·have f4:=X5b hku r3 es l v' j e g3 hall f6 f2 f3;obtain⟨t1,o1⟩:=Xmu (clk':=clk) hO hl g1 g2 f4 ⟨by simp[g5],Rb5 g6 j _ _⟩;refine Jz (fun o ho=>?_) hK o1 t1;have hks:(Instr.keyThatStays e.key ku).run P w=.ok ku w:=by simp[Instr.keyThatStays,f3,Xmh hku]
     have hm:(l.toArray.modify j fun e=>{ e with key:=ku,val:=a.eval y })=(l.modify j fun e=>{ e with key:=ku,val:=a.eval y }).toArray:=by simp
     have hset:(setObj b (.map (l.modify j fun e=>{ e with key:=ku,val:=a.eval y }).toArray clk)).run P w=.ok () (Xaz w b (.map (l.modify j fun e=>{ e with key:=ku,val:=a.eval y }).toArray clk)):=by simp[setObj,Sem.run,g2,Xaz]
     rcases hop with rfl | rfl<;>simp[execOp,ho,Instr.mapUpdate,r1,r2',Xe ht,hget,hck,f1,f2,hks]<;>(rw[hset]; simp)
   ·rw[g1]at g4; cases g4
  ·exact h.elim
 ·exact h.elim

theorem X68 {P:Prg}(hg:ρ.gl=P.g)(hO:OM w ρ ob){op:Op}{g n:Nat}{ag:Bool}{x:D}(hc:I.chk P.p op (.gld g n ag x)=true)(h:GlobIs P g x/\x.sz=n/\(V.d x).isAgg=ag/\K (.d x) ob):Ja P.p a w ρ op K Pn:=by
 obtain⟨t,hop,h1,h2,h3⟩:∃t,op=.load t (.global g)/\Yh P.p t=some n/\(P.p.underlying t).isSome=true/\agT P.p t=ag:=by
  simp only[I.chk]at hc;split at hc
  ·rename_i t hh;simp only[Uai,Ubn]at hc;obtain⟨⟨⟨rfl,h1⟩,h2⟩,h3⟩:=hc;exact⟨t,rfl,h1,h2,h3⟩
  ·cases hc
 obtain⟨⟨cs,T,f,hgl,hx⟩,hsz,hag,hK⟩:=h;obtain⟨hh,hno⟩:=hO.glb g _ (by rw[hg]; exact hgl);have hrep:x.rep w (own ρ) cs:=Rbj x cs hx;have hr:(V.d (.ref x)).rep w ρ (.pointer (some ⟨g,0,none⟩)):=Qc.2 ⟨⟨g,0,none⟩,cs,rfl,rfl,⟨fun _=>⟨rfl,hno,Xj hh⟩,fun i hi=>by simp[World.cell?,hh,hi]⟩,hrep⟩;let a2:Act:=⟨#[.pointer (some ⟨g,0,none⟩)],[]⟩
 have hs2:SM w ρ [(0,.d (.ref x))] a2:=by
  intro k;simp only[look];split
  ·rename_i e; subst e; exact hr
  ·exact Jp
 obtain⟨v,y,hK2,hr2,hrun⟩:=Qu (P:=P.p) (K:=fun v=>v=V.d x) (a:=a2) (n:=n) (ag:=ag) (x:=.t 0) (op:=.load t (.tmp 0)) hs2 hO (by simp[C.chk,h1,h2,h3,A.chk]) (by simp[A.ev,look,ldK,hsz,hag]);subst hK2;refine X0 (fun o ho=>?_) hK hr2 hO (Tr.refl _ _)
 have:=hrun ⟨none,.load t (.tmp 0),0, "", #[],none⟩ rfl w (fun _=>Ext.refl w)
 simp only[execOp,Act.eval,a2]at this;simp only[execOp,ho,hop,Act.eval];simpa using this

theorem X37 (zs:List Value)(hz:zs.length ≠ 0):∀n:Nat,((Array.range (n*zs.length)).map (fun i=>zs.toArray[i % zs.toArray.size]!))=((List.replicate n zs).flatten).toArray:=by
 intro n;apply Array.ext';simp only[Array.toList_map,Array.toList_range,List.toList_toArray];induction n with
 | zero=>simp
 | succ n ih=>
  rw[List.replicate_succ,List.flatten_cons,<-ih,Nat.succ_mul,Nat.add_comm,List.range_add,Uca,List.map_map];congr 1
  ·apply List.ext_getElem
   ·simp
   ·intro i h1 h2;simp only[List.length_map,List.length_range]at h1;simp[Nat.mod_eq_of_lt h1,h1]
  ·apply List.map_congr_left;intro i _;simp

theorem X7e (hs:SM w ρ sl a)(hO:OM w ρ ob){op:Op}{E sz B:Nat}{z:D}{l:A}(hc:I.chk P op (.mks E sz B z l)=true)(h:Yy7 E sz B z ob K (l.ev sl)):Ja P a w ρ op K Pn:=by
 cases op<;>simp only[I.chk,Uah]at hc;rename_i t x y;simp only[Uai,bne_iff_ne,ne_eq,Ubn]at hc;obtain⟨⟨⟨⟨⟨⟨⟨h1,h2⟩,h3⟩,h4⟩,h5⟩,h6⟩,h7⟩,h8⟩:=hc;have ht:P.underlying t=some (.slice E):=by
  revert h3; split
  ·rename_i e he; intro h; simp at h; subst h; exact he
  ·intro h; cases h
 obtain⟨info,hi,hi1,hi2⟩:∃info,P.info? E=some info/\info.size=sz/\info.bytes=B:=by
  revert h4; split
  ·rename_i i hi; intro h; simp at h; exact⟨i,hi,h.1,h.2⟩
  ·intro h; cases h
 obtain⟨cs,hzt,hzc,hzl⟩:∃cs,Q4 P E=some cs/\Rbf z cs=true/\cs.length=sz:=by
  revert h7; split
  ·rename_i cs hz; intro h; simp at h; exact⟨cs,hz,h.1,h.2⟩
  ·intro h; cases h
 have r1:=A.sound hs h1;have r2:=A.sound hs h2;unfold Yy7 at h;split at h
 ·rename_i m e1;obtain⟨hm0,hmB,hK⟩:=h;rw[e1,X9]at r1 r2;have hmle:m<=281474976710656:=by
   have:m*1<=m*(B:Int):=Int.mul_le_mul_of_nonneg_left (by omega) hm0;omega
  have hwr:IntKind.i64.wrap m=m:=by
   have e0:m % (2 ^ IntKind.i64.bits:Int)=m:=Int.emod_eq_of_lt hm0 (by show m<2 ^ 64; omega);have e2:¬m≥(2 ^ (IntKind.i64.bits-1):Int):=by show ¬m≥2 ^ 63; omega
   simp only[IntKind.wrap,e0,e2,decide_false,Bool.and_false,Uah,Uay]
  obtain⟨zv,ez,_,hzrun⟩:=Qy hzt;have hti:∀w',(typeInfo E).run P w'=.ok info w':=fun w'=>by simp[typeInfo,hi]
  have hsz:Yh P E=some sz:=by simp[Yh,hi,hi1]
  have he2:=Zp w (.cells ((List.replicate m.toNat cs).flatten).toArray E);have hbl:∀b,(RO.arr w.heap.size m.toNat m.toNat).blk? = some b->w.heap.size<=b:=fun b hb=>by simp[RO.blk?]at hb; omega
  have hfree:=X2 ob;have t1:=Vn _ he2 (o:=.arr w.heap.size m.toNat m.toNat) (hO.free hfree) hbl;have hrows:∀n,Rac w (own ρ) (List.replicate n z) (List.replicate n cs).flatten:=by
   intro n;induction n with
   | zero=>simp[Rac]
   | succ n ih=>simp only[List.replicate_succ,List.flatten_cons,Rac]; exact⟨cs,_,rfl,Rbj z cs hzc,ih⟩
  refine X0 (v:=.slice (some ⟨w.heap.size,0,none⟩) m.toNat m.toNat) (fun o ho=>?_) hK (Yl.2 ⟨_,by simp[Env.ins]; rfl,?_⟩) (hO.ins he2 hfree hbl ?_) t1
  ·have hb1:¬((B:Int)*m > 2 ^ 48):=by rw[Int.mul_comm]; omega
   have hg:∀n,(Array.range n).map (fun i=>zv.cells[i % zv.cells.size]!)=(Array.range n).map (fun i=>cs.toArray[i % cs.toArray.size]!):=fun n=>by
    have:zv.cells=cs.toArray:=by rw[<-ez]
    rw[this]
   have hcond:(decide (m<0)||decide ((B:Int)*m > 2 ^ 48)||decide (m<0)||decide (m > m))=false:=by
    simp only[Ucb,Ucc]; omega
   simp only[execOp,ho,Instr.makeSlice,Sem.run_bind,Xe ht,Result.andThen_ok,r1,r2,asInt,asIntOf,Sem.run_pure,hti,hi2,hwr,hcond,Uah,Uay,run_askRoom,Xu hsz];by_cases h0:m.toNat=0
   ·have e0:(Array.map (fun x=>(#[]:Array Value)[x % (#[]:Array Value).size]!) (Array.range 0))=(List.replicate 0 cs).flatten.toArray:=by simp
    simp only[h0,Nat.zero_mul,Ubb,Sem.run_pure,Result.andThen_ok,newRow,Sem.run_bind,run_newObj];rw[e0]; rfl
   ·have h00:m.toNat*sz ≠ 0:=Nat.mul_ne_zero h0 h5;simp only[h00,Uay,Sem.run_bind,hzrun,Result.andThen_ok,Sem.run_pure,newRow,run_newObj,hg];have:=X37 cs (by rw[hzl]; exact h5) m.toNat;rw[hzl]at this;rw[this];rfl
  ·simp[RO.slice]
  ·refine .inr ⟨w.heap.size,m.toNat,(List.replicate m.toNat cs).flatten,[],by simp[Env.ins],by simpa using Zx w (.cells ((List.replicate m.toNat cs).flatten).toArray E),Raf t1.mono _ _ (hrows _),fun x hx=>by rw[List.eq_of_mem_replicate hx]; exact h8,?_⟩;simp[hzl]
 ·exact h.elim

theorem Yfe (h:OM w ρ ob){id E sz k b cap:Nat}{xs:List D}(hl:Xd ob id=some (.arr E sz xs))(hr:ρ.m id=some (.arr b xs.length cap))(hk:k<=xs.length)(hsz:sz ≠ 0) :
  Tr w ρ w ((ρ.ins id .gone).ins (Xa ob) (.arr b k cap))/\OM w ((ρ.ins id .gone).ins (Xa ob) (.arr b k cap)) ((Xa ob,.arr E sz (xs.take k))::setO ob id .gone):=by
 have hne:id ≠ Xa ob:=fun e=>by rw[e,X2]at hl; cases hl
 have hfm:ρ.m (Xa ob)=none:=h.free (X2 ob);let ρ1:=(ρ.ins id .gone).ins (Xa ob) (.arr b k cap);have hm1:ρ1.m (Xa ob)=some (.arr b k cap):=by simp[ρ1,Env.ins]
 have hm2:ρ1.m id=some .gone:=by simp[ρ1,Env.ins,hne]
 have hm3:∀j,j ≠ Xa ob->j ≠ id->ρ1.m j=ρ.m j:=fun j h1 h2=>by simp[ρ1,Env.ins,h1,h2]
 have t1:Tr w ρ w ρ1:=by
  refine⟨Uak _,fun _ _ _=>rfl,fun c hc=>.inl ?_,rfl,rfl,fun j o hj=>?_,rfl,rfl,rfl,Uak _⟩
  ·obtain⟨j,o,h1,h2⟩:=hc;by_cases e1:j=Xa ob
   ·subst e1; rw[hm1]at h1; cases h1; simp[RO.blk?]at h2; subst h2; exact⟨id,_,hr,rfl⟩
   ·by_cases e2:j=id
    ·subst e2; rw[hm2]at h1; cases h1; simp[RO.blk?]at h2
    ·rw[hm3 j e1 e2]at h1; exact⟨j,o,h1,h2⟩
  ·by_cases e1:j=Xa ob
   ·subst e1; rw[hfm]at hj; cases hj
   ·by_cases e2:j=id
    ·subst e2; exact⟨_,hm2,.gone o⟩
    ·exact⟨o,by rw[hm3 j e1 e2]; exact hj,.refl o⟩
 refine⟨t1,⟨fun j y hy=>?_,fun j o hj=>?_,fun i j p q c h1 h2 h3 h4=>?_,h.xlt,J4 t1 h.glb,fun c hc=>?_,⟨?_,h.once.set⟩⟩⟩
 ·simp only[Xd]at hy;split at hy
  ·rename_i e; subst e; simp only[Uaq]at hy; subst hy;rcases h.one id _ hl with⟨q,_⟩ | ⟨b',cap',cs,sp,g1,g2,g3,g4,g5⟩
   ·rw[hr]at q; cases q
   ·rw[hr]at g1; simp only[Uaq,RO.arr.injEq]at g1;obtain⟨rfl,_,rfl⟩:=g1;have g3':=Raf t1.mono _ _ g3;have q1:=(Rak xs k cs g3').1;generalize hcn:Raa (xs.take k)=cn at q1;refine .inr ⟨b,cap,cs.take cn,cs.drop cn++sp,by rw[hm1]; simp[Ua8 hk],by rw[<-Uav,Uao]; exact g2,q1,fun x hx=>g4 x (Ua6 hx),by rw[<-Uav,Uao]; exact g5⟩
  ·rename_i e1;rw[Xs ob id j ⟨_,hl⟩]at hy;split at hy
   ·rename_i e; subst e; simp at hy; subst hy; exact hm2
   ·rename_i e2;exact Un.tr t1 (h.one j y hy) (hm3 j (fun e=>e1 e.symm) e2) (fun _ _ _ _=>rfl)
 ·simp only[Xd];split
  ·exact⟨_,rfl⟩
  ·rename_i e1;rw[Xs ob id j ⟨_,hl⟩];split
   ·exact⟨_,rfl⟩
   ·rename_i e2; exact h.dom j o (by rw[<-hm3 j (fun e=>e1 e.symm) e2]; exact hj)
 ·have back:∀{j:Nat} {o:RO} {c:Nat},ρ1.m j=some o->o.blk? = some c->∃j' o',ρ.m j'=some o'/\o'.blk? = some c/\(j=if j'=id then Xa ob else j'):=by
   intro j o c h1 h2;by_cases e1:j=Xa ob
   ·subst e1; rw[hm1]at h1; cases h1; simp[RO.blk?]at h2; subst h2; exact⟨id,_,hr,rfl,by simp⟩
   ·by_cases e2:j=id
    ·subst e2; rw[hm2]at h1; cases h1; simp[RO.blk?]at h2
    ·rw[hm3 j e1 e2]at h1; exact⟨j,o,h1,h2,by simp[e2]⟩
  obtain⟨i',p',a1,a2,a3⟩:=back h1 h3;obtain⟨j',q',b1,b2,b3⟩:=back h2 h4;have:=h.inj i' j' p' q' c a1 b1 a2 b2;subst this; rw[a3,b3]
 ·rcases t1.owns c hc with hc | hc
  ·exact h.xdis c hc
  ·intro hx; have:=h.xlt c hx; omega
 ·exact Xel ob _ (X2 ob)

theorem X7j (hs:SM w ρ sl a)(hO:OM w ρ ob){op:Op}{z:Nat}{x hh:A}(hc:I.chk P op (.trn z x hh)=true)(h:Yao z ob K (x.ev sl) (hh.ev sl)):Ja P a w ρ op K Pn:=by
 cases op<;>simp only[I.chk,Uah]at hc;rename_i t x1 lo hi mx;cases lo<;>cases hi<;>cases mx<;>(try simp only[Uah]at hc)
 ·rename_i h1;simp only[Uai]at hc;obtain⟨⟨h0,hx⟩,hy⟩:=hc;obtain⟨E,ht,he,hz⟩:∃E,P.underlying t=some (.slice E)/\Yh P E=some z/\z ≠ 0:=by
   revert h0; split
   ·rename_i e he; intro h; simp at h; exact⟨e,he,h.1,h.2⟩
   ·intro h; cases h
  have r1:=A.sound hs hx;have r2:=A.sound hs hy;unfold Yao at h;split at h
  ·rename_i id n m e1 e2;rw[e1,Yl]at r1;rw[e2,X9]at r2;obtain⟨o,g1,g2⟩:=r1;unfold Yzj at h;split at h
   ·rename_i E' sz xs hl;obtain⟨rfl,rfl,hne,⟨hm0,hmn⟩,hK⟩:=h;rcases hO.one id _ hl with⟨_,q2⟩ | ⟨b,cap,cs,sp,q1,q2,q3,q4,q5⟩
    ·exact absurd q2 hne
    ·rw[g1]at q1; cases q1;simp only[RO.slice]at g2;have e3:a.eval x1=.slice (some ⟨b,0,none⟩) xs.length cap:=by simpa using g2.2.2
     have hcap:xs.length<=cap:=by
      have e4:cs.length=xs.length*sz:=by rw[Rah _ _ q3,Raj _ q4]
      have e5:xs.length*sz<=cap*sz:=by rw[<-q5,Uar]; omega
      exact Ubv e5 (by omega)
     obtain⟨t1,o1⟩:=Yfe hO (k:=m.toNat) hl g1 (by omega) hz;refine X0 (v:=.slice (some ⟨b,0,none⟩) m.toNat cap) (fun o ho=>?_) hK (Yl.2 ⟨.arr b m.toNat cap,by simp[Env.ins],?_⟩) o1 t1
     ·have hsb:(Instr.sliceBound (.int .i64 m) cap .sliceAcap).run P w=.ok m.toNat w:=by
       simp only[Instr.sliceBound,asIntOf,Sem.run_bind,Sem.run_pure,Result.andThen_ok];rw[Uby ⟨hm0,by omega⟩]; simp
      simp[execOp,ho,Instr.sliceAt,Instr.slice,e3,r2,Xe ht,Instr.sliceBounds,hsb,Xu he,Addr.add]
     ·simp[RO.slice]
   ·exact h.elim
  ·exact h.elim

theorem I.sound {P:Prg}(hg:ρ.gl=P.g)(hs:SM w ρ sl a)(hO:OM w ρ ob){op:Op}:∀{i:I},i.chk P.p op=true->i.wp P sl ob K Pn->Ja P.p a w ρ op K Pn
 | .c _,hc,h=>Ym2 hs hO hc h
 | .box _ _,hc,h=>(Xkj hs hO hc h).does
 | .alloc _ _,hc,h=>(Xdm hO hc h).does
 | .bls _ _ _,hc,h=>(Xrk hs hO hc h).does hO
 | .blo _ _ _ _,hc,h=>(Xkh hs hO hc h).does
 | .st _ _ _,hc,h=>Yfk hs hO hc h
 | .app _ _ _ _ _,hc,h=>X65 hs hO hc h
 | .appS _ _ _ _,hc,_=>absurd hc (by simp[I.chk])
 | .call _ _,hc,h=>Xy7 hg hs hO hc h
 | .pcall _ _,hc,h=>(Xdl hg hs hO hc h).does hO
 | .callv _ _,hc,h=>Xuv hg hs hO hc h
 | .panic _,hc,h=>Xuw hs hO hc h
 | .b2s _,hc,_=>absurd hc (by simp[I.chk])
 | .s2b _,hc,_=>absurd hc (by simp[I.chk])
 | .nilo _ _ _,hc,h=>Xy9 hs hO hc h
 | .mvf _,hc,h=>X7f hs hO hc h
 | .ldf _ _ _,hc,h=>X7a hs hO hc h
 | .mvg _ _ _ _ _,hc,h=>X7g hs hO hc h
 | .mvn _ _ _,hc,h=>X7h hs hO hc h
 | .cvb _,hc,h=>X67 hs hO hc h
 | .ustr _ _ _,hc,_=>absurd hc (by simp[I.chk])
 | .mkm _,hc,h=>X7d hs hO hc h
 | .lkp _ _ _ _ _,hc,h=>X7c hs hO hc h
 | .mset _ _ _ _,hc,h=>Xy8 hs hO hc h
 | .gld _ _ _ _,hc,h=>X68 hg hO hc h
 | .slg _ _ _,hc,_=>absurd hc (by simp[I.chk])
 | .blv _ _ _ _,hc,h=>(Xki hs hO hc h).does
 | .apv _ _ _ _ _,hc,h=>X66 hs hO hc h
 | .gv _,hc,_=>absurd hc (by simp[I.chk])
 | .ldg _ _ _,hc,h=>X7b hs hO hc h
 | .slb _ _ _ _ _,hc,_=>absurd hc (by simp[I.chk])
 | .cpy _ _ _,hc,_=>absurd hc (by simp[I.chk])
 | .clr _ _ _,hc,_=>absurd hc (by simp[I.chk])
 | .gix _ _ _ _ _,hc,_=>absurd hc (by simp[I.chk])
 | .rng _,hc,h=>(Xkk hs hO hc h).does
 | .nxt _,hc,h=>X7i hs hO hc h
 | .ety _,hc,h=>(Xrl hs hO hc h).does hO
 | .lenM _,hc,h=>(Xjw hs hO hc h).does hO
 | .isn _ _ _,hc,h=>(Xrm hs hO hc h).does hO
 | .inv _ _ _ _ _ _,hc,h=>X69 hg hs hO hc h
 | .mks _ _ _ _ _,hc,h=>X7e hs hO hc h
 | .trn _ _ _,hc,h=>X7j hs hO hc h
 | .xcall _ _,hc,h=>(Xdn hg hs hO hc h).does
 | .boxr _ _,hc,h=>(Xjv hs hO hc h).does hO

def I.kind:I->Nat
 | .c cc=>if cc.isLdd then 5 else if cc.isLd then 1 else 0
 | .boxr _ _ | .bls _ _ _ | .s2b _ | .pcall _ _ | .gix _ _ _ _ _ | .ety _ | .lenM _ | .isn _ _ _=>2
 | .box _ _ | .alloc _ _ | .blo _ _ _ _ | .blv _ _ _ _ | .rng _ | .xcall _ _=>4
 | _=>3

theorem Rb6 {P:Prg}(hg:ρ.gl=P.g)(hs:SM w ρ sl a)(hO:OM w ρ ob){op:Op}:∀{i:I},i.kind=2->i.chk P.p op=true->i.wp P sl ob K Pn->Xwn P.p a w ρ op ob K
 | .bls _ _ _,_,hc,h=>(Xrk hs hO hc h).doesE
 | .gix _ _ _ _ _,_,hc,_=>absurd hc (by simp[I.chk])
 | .s2b _,_,hc,_=>absurd hc (by simp[I.chk])
 | .pcall _ _,_,hc,h=>Xdl hg hs hO hc h
 | .ety _,_,hc,h=>(Xrl hs hO hc h).doesE
 | .lenM _,_,hc,h=>(Xjw hs hO hc h).doesE
 | .isn _ _ _,_,hc,h=>(Xrm hs hO hc h).doesE
 | .boxr _ _,_,hc,h=>(Xjv hs hO hc h).doesE
 | .c cc,hk,_,_=>by exfalso; simp only[I.kind]at hk; revert hk; cases cc.isLdd<;>cases cc.isLd<;>simp
 | .xcall _ _,hk,_,_ | .rng _,hk,_,_ | .nxt _,hk,_,_ | .inv _ _ _ _ _ _,hk,_,_ | .mks _ _ _ _ _,hk,_,_ | .trn _ _ _,hk,_,_ | .box _ _,hk,_,_ | .alloc _ _,hk,_,_ | .blo _ _ _ _,hk,_,_ | .st _ _ _,hk,_,_ | .app _ _ _ _ _,hk,_,_ | .appS _ _ _ _,hk,_,_ | .call _ _,hk,_,_ | .callv _ _,hk,_,_ | .panic _,hk,_,_ | .b2s _,hk,_,_ | .nilo _ _ _,hk,_,_ | .mvf _,hk,_,_ | .ldf _ _ _,hk,_,_ | .mvg _ _ _ _ _,hk,_,_ | .mvn _ _ _,hk,_,_ | .cvb _,hk,_,_ | .ustr _ _ _,hk,_,_ | .mkm _,hk,_,_ | .lkp _ _ _ _ _,hk,_,_ | .mset _ _ _ _,hk,_,_ | .gld _ _ _ _,hk,_,_ | .slg _ _ _,hk,_,_ | .blv _ _ _ _,hk,_,_ | .apv _ _ _ _ _,hk,_,_ | .gv _,hk,_,_ | .ldg _ _ _,hk,_,_ | .slb _ _ _ _ _,hk,_,_ | .cpy _ _ _,hk,_,_ | .clr _ _ _,hk,_,_=>by simp[I.kind]at hk
theorem Rb7 {P:Prg}(hg:ρ.gl=P.g)(hs:SM w ρ sl a)(hO:OM w ρ ob){op:Op}:∀{i:I},i.kind=4->i.chk P.p op=true->i.wp P sl ob K Pn->Xey P.p a w ρ op K
 | .xcall _ _,_,hc,h=>Xdn hg hs hO hc h
 | .box _ _,_,hc,h=>Xkj hs hO hc h
 | .alloc _ _,_,hc,h=>Xdm hO hc h
 | .blo _ _ _ _,_,hc,h=>Xkh hs hO hc h
 | .blv _ _ _ _,_,hc,h=>Xki hs hO hc h
 | .rng _,_,hc,h=>Xkk hs hO hc h
 | .c cc,hk,_,_=>by exfalso; simp only[I.kind]at hk; revert hk; cases cc.isLdd<;>cases cc.isLd<;>simp
 | .boxr _ _,hk,_,_ | .nxt _,hk,_,_ | .ety _,hk,_,_ | .lenM _,hk,_,_ | .isn _ _ _,hk,_,_ | .inv _ _ _ _ _ _,hk,_,_ | .mks _ _ _ _ _,hk,_,_ | .trn _ _ _,hk,_,_ | .bls _ _ _,hk,_,_ | .s2b _,hk,_,_ | .pcall _ _,hk,_,_ | .st _ _ _,hk,_,_ | .app _ _ _ _ _,hk,_,_ | .appS _ _ _ _,hk,_,_ | .call _ _,hk,_,_ | .callv _ _,hk,_,_ | .panic _,hk,_,_ | .b2s _,hk,_,_ | .nilo _ _ _,hk,_,_ | .mvf _,hk,_,_ | .ldf _ _ _,hk,_,_ | .mvg _ _ _ _ _,hk,_,_ | .mvn _ _ _,hk,_,_ | .cvb _,hk,_,_ | .ustr _ _ _,hk,_,_ | .mkm _,hk,_,_ | .lkp _ _ _ _ _,hk,_,_ | .mset _ _ _ _,hk,_,_ | .gld _ _ _ _,hk,_,_ | .slg _ _ _,hk,_,_ | .apv _ _ _ _ _,hk,_,_ | .gv _,hk,_,_ | .ldg _ _ _,hk,_,_ | .slb _ _ _ _ _,hk,_,_ | .cpy _ _ _,hk,_,_ | .clr _ _ _,hk,_,_ | .gix _ _ _ _ _,hk,_,_=>by simp[I.kind]at hk
end
end Go.Ab
