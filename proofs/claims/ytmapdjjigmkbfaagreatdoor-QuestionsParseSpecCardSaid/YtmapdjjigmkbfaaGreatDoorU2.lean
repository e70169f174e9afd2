/- Texts of this claim joined by a program, part 2 of 15; the last is: Regions that draw their order: which operations may be taken first. Over any program; no condition. -/
import Derived.Test.YtmapdjjigmkbfaaGreatDoorU1
import Derived.OrdersHeld
set_option linter.unusedSimpArgs false
set_option linter.unusedVariables false
set_option linter.unusedSectionVars false
set_option linter.defProp false
namespace Go.Ab
open Go

def fresh:Objs->Nat
 | []=>0
 | (j,_)::r=>if fresh r<=j then j+1 else fresh r
theorem Yn:∀(ob:Objs) (j:Nat),fresh ob<=j->lookO ob j=none
 | [],_,_=>rfl
 | (i,o)::r,j,h=>by
  simp only[fresh]at h
  simp only[lookO]
  split at h
  ·rw[if_neg (by omega)]; exact Yn r j (by omega)
  ·rw[if_neg (by omega)]; exact Yn r j h
theorem Yt (ob:Objs):lookO ob (fresh ob)=none:=Yn ob _ (Nat.le_refl _)

def X14 (ob:Objs)(id n:Nat):Option Ob->Option (D×Objs)
 | some (.arr _ sz xs)=>if sz ≠ 0/\n=xs.length then some (.list sz xs,setO ob id .gone) else none
 | _=>none
def Xjn:Option (List D×Objs)->Option (D×Objs)
 | some (l,ob)=>some (.agg l,ob)
 | none=>none
def Yei (t:Nat):Option (D×Objs)->Option (D×Objs)
 | some (x,ob)=>some (.iface t x,ob)
 | none=>none
def fnG (f:Nat)(ob:Objs):Option (List D)->Option (List D)->Option (D×Objs)
 | some l,some m=>some (.fn f l m,ob)
 | _,_=>none
def Qk (x:D):Option (List D×Objs)->Option (List D×Objs)
 | some (l,ob)=>some (x::l,ob)
 | none=>none
mutual
def V.giv (ob:Objs):V->Option (D×Objs)
 | .d x=>some (x,ob)
 | .sl id n=>X14 ob id n (lookO ob id)
 | .agg xs=>Xjn (V.givs ob xs)
 | .iface t x=>Yei t (V.giv ob x)
 | .fn f a b=>fnG f ob (V.allD a) (V.allD b)
 | _=>none
def V.givs (ob:Objs):List V->Option (List D×Objs)
 | []=>some ([],ob)
 | x::r=>match V.giv ob x with
  | some (y,ob1)=>Qk y (V.givs ob1 r)
  | none=>none
end

section
variable {w:World}
theorem Xj5 {ρ:Env}{f:Nat}{a b:List V}{ob ob':Objs}{d:D}{cs:List Value}(h:(V.fn f a b).repC w ρ cs)(e:fnG f ob (V.allD a) (V.allD b)=some (d,ob')):ob'=ob/\d.rep w (own ρ) cs/\d.isAgg=false:=by
 cases ha:V.allD a with
 | none=>simp[ha,fnG]at e
 | some l=>
  cases hb:V.allD b with
  | none=>simp[ha,hb,fnG]at e
  | some m=>
   simp only[ha,hb,fnG,Option.some.injEq,Prod.mk.injEq]at e
   obtain⟨rfl,rfl⟩:=e
   have h1:=V.allD_map ha
   have h2:=V.allD_map hb
   subst h1; subst h2
   simp only[V.repC]at h
   obtain⟨fs,gs,e1,h3,h4⟩:=h
   exact⟨rfl,by simp only[D.rep]; exact⟨fs,gs,e1,Xld.1 h3,Xld.1 h4⟩,rfl⟩
mutual
theorem V.giv_sound:∀(v:V) (ob:Objs) (ρ:Env) (cs:List Value) (d:D) (ob':Objs),OM w ρ ob->v.repC w ρ cs->V.giv ob v=some (d,ob')->
  ∃ρ',Tr w ρ w ρ'/\OM w ρ' ob'/\d.rep w (own ρ') cs/\d.isAgg=v.isAgg
 | .d x,ob,ρ,cs,dd,ob',hO,h,e=>by
  simp only[V.giv,Option.some.injEq,Prod.mk.injEq]at e
  obtain⟨rfl,rfl⟩:=e
  exact⟨ρ,Tr.refl _ _,hO,by simpa only[V.repC]using h,by cases x<;>rfl⟩
 | .sl id n,ob,ρ,cs,dd,ob',hO,h,e=>by
  simp only[V.giv]at e
  unfold X14 at e
  split at e
  ·rename_i E sz xs hl
   split at e
   ·rename_i hc
    simp only[Option.some.injEq,Prod.mk.injEq]at e
    obtain⟨rfl,rfl⟩:=e
    obtain⟨hsz,rfl⟩:=hc
    obtain⟨t1,o1,_⟩:=Xbt hO ⟨_,hl⟩
    have h0:=h
    simp only[V.repC]at h0
    obtain⟨o,u,h1,rfl,h2⟩:=h0
    have:=Jf hO hl hsz (u:=u) (by rw[Y2]; exact⟨o,h1,h2⟩)
    refine⟨_,t1,o1,?_,rfl⟩
    rw[Wq (by simp[V.isAgg]) (by simp)]at this
    simpa only[V.repC]using this
   ·cases e
  ·cases e
 | .agg xs,ob,ρ,cs,dd,ob',hO,h,e=>by
  simp only[V.giv]at e
  cases hg:V.givs ob xs with
  | none=>simp[hg,Xjn]at e
  | some r=>
   obtain⟨l,ob1⟩:=r
   simp only[hg,Xjn,Option.some.injEq,Prod.mk.injEq]at e
   obtain⟨rfl,rfl⟩:=e
   simp only[V.repC]at h
   obtain⟨ρ',t,o,hr⟩:=V.givs_sound xs ob ρ cs l ob1 hO h hg
   exact⟨ρ',t,o,by simpa only[D.rep]using hr,rfl⟩
 | .iface t x,ob,ρ,cs,dd,ob',hO,h,e=>by
  simp only[V.giv]at e
  cases hg:V.giv ob x with
  | none=>simp[hg,Yei]at e
  | some r=>
   obtain⟨y,ob1⟩:=r
   simp only[hg,Yei,Option.some.injEq,Prod.mk.injEq]at e
   obtain⟨rfl,rfl⟩:=e
   simp only[V.repC]at h
   obtain⟨u,e1,h1⟩:=h
   rcases h1 with h1 | ⟨p,ds,q,r⟩ | ⟨p,r⟩
   ·subst h1; simp[V.giv]at hg
   ·obtain⟨ρ',t1,o,hr,ha⟩:=V.giv_sound x ob ρ ds y ob1 hO r hg
    exact⟨ρ',t1,o,by simp only[D.rep]; exact⟨u,e1,.inl ⟨by rw[ha]; exact p,ds,q,hr⟩⟩,rfl⟩
   ·obtain⟨ρ',t1,o,hr,ha⟩:=V.giv_sound x ob ρ [u] y ob1 hO r hg
    exact⟨ρ',t1,o,by simp only[D.rep]; exact⟨u,e1,.inr ⟨by rw[ha]; exact p,hr⟩⟩,rfl⟩
 | .fn f a b,ob,ρ,cs,dd,ob',hO,h,e=>by
  simp only[V.giv]at e
  obtain⟨rfl,h1,h2⟩:=Xj5 h e
  exact⟨ρ,Tr.refl _ _,hO,h1,by rw[h2]; rfl⟩
 | .ptr _ _,_,_,_,_,_,_,_,e | .sd _ _,_,_,_,_,_,_,_,e | .mp _,_,_,_,_,_,_,_,e | .ep _ _ _ _ _ _,_,_,_,_,_,_,_,e | .bs _ _ _ _,_,_,_,_,_,_,_,e | .tup _,_,_,_,_,_,_,_,e | .undef,_,_,_,_,_,_,_,e | .any,_,_,_,_,_,_,_,e=>by simp[V.giv]at e
theorem V.givs_sound:∀(vs:List V) (ob:Objs) (ρ:Env) (cs:List Value) (l:List D) (ob':Objs),OM w ρ ob->V.repCs w ρ vs cs->V.givs ob vs=some (l,ob')->
  ∃ρ',Tr w ρ w ρ'/\OM w ρ' ob'/\D.repL w (own ρ') l cs
 | [],ob,ρ,cs,l,ob',hO,h,e=>by
  simp only[V.givs,Option.some.injEq,Prod.mk.injEq]at e
  obtain⟨rfl,rfl⟩:=e
  exact⟨ρ,Tr.refl _ _,hO,by simpa only[V.repCs,D.repL]using h⟩
 | x::r,ob,ρ,cs,l,ob',hO,h,e=>by
  simp only[V.givs]at e
  simp only[V.repCs]at h
  obtain⟨c1,c2,rfl,h1,h2⟩:=h
  split at e
  ·rename_i dd ob1 hg
   obtain⟨ρ1,t1,o1,hr,_⟩:=V.giv_sound x ob ρ c1 dd ob1 hO h1 hg
   cases hg2:V.givs ob1 r with
   | none=>simp[hg2,Qk]at e
   | some q=>
    obtain⟨l2,ob2⟩:=q
    simp only[hg2,Qk,Option.some.injEq,Prod.mk.injEq]at e
    obtain⟨rfl,rfl⟩:=e
    obtain⟨ρ2,t2,o2,hr2⟩:=V.givs_sound r ob1 ρ1 c2 l2 ob2 o1 (V.repCs_tr t1 _ _ h2) hg2
    exact⟨ρ2,t1.trans t2,o2,by simp only[D.repL]; exact⟨c1,c2,rfl,D.rep_mono t2.mono _ _ hr,hr2⟩⟩
  ·cases e
end
theorem Xc3 {ρ:Env}{ob ob':Objs}{v:V}{d:D}{u:Value}(hO:OM w ρ ob)(h:v.rep w ρ u)(e:V.giv ob v=some (d,ob')):∃ρ',Tr w ρ w ρ'/\OM w ρ' ob'/\(V.d d).rep w ρ' u:=by
 rcases h with h | ⟨p,ds,q,r⟩ | ⟨p,r⟩
 ·subst h; simp[V.giv]at e
 ·obtain⟨ρ',t1,o,hr,ha⟩:=V.giv_sound v ob ρ ds d ob' hO r e
  exact⟨ρ',t1,o,Xb3.2 (.inl ⟨by rw[ha]; exact p,ds,q,hr⟩)⟩
 ·obtain⟨ρ',t1,o,hr,ha⟩:=V.giv_sound v ob ρ [u] d ob' hO r e
  exact⟨ρ',t1,o,Xb3.2 (.inr ⟨by rw[ha]; exact p,hr⟩)⟩
end

def gvL (g:Objs->V->Option (D×Objs)):Objs->List V->Option (List D×Objs)
 | ob,[]=>some ([],ob)
 | ob,x::r=>match g ob x with
  | some (y,ob1)=>Qk y (gvL g ob1 r)
  | none=>none
def gvT (id sz:Nat)(l:List D)(ob:Objs):Option Ob->Option (D×Objs)
 | some (.vec _ _ _)=>some (.list sz l,setO ob id .gone)
 | _=>none
def gvS (id sz:Nat):Option (List D×Objs)->Option (D×Objs)
 | some (l,ob1)=>gvT id sz l ob1 (lookO ob1 id)
 | none=>none
def Yeg (g:Objs->V->Option (D×Objs))(ob:Objs)(id n:Nat):Option Ob->Option (D×Objs)
 | some (.arr _ sz xs)=>if sz ≠ 0/\n=xs.length then some (.list sz xs,setO ob id .gone) else none
 | some (.vec _ sz xs)=>if sz ≠ 0/\n=xs.length then gvS id sz (gvL g ob xs) else none
 | _=>none
def V.gvF:Nat->Objs->V->Option (D×Objs)
 | 0,_,_=>none
 | k+1,ob,v=>match v with
  | .d x=>some (x,ob)
  | .sl id n=>Yeg (V.gvF k) ob id n (lookO ob id)
  | .agg xs=>Xjn (gvL (V.gvF k) ob xs)
  | .iface t x=>Yei t (V.gvF k ob x)
  | .fn f a b=>fnG f ob (V.allD a) (V.allD b)
  | _=>none
section
variable {w:World}
def Yq9 (g:Objs->V->Option (D×Objs))(w:World):Prop:=∀(v:V) (ob:Objs) (ρ:Env) (cs:List Value) (d:D) (ob':Objs),OM w ρ ob->v.repC w ρ cs->g ob v=some (d,ob')->
  (∃ρ',Tr w ρ w ρ'/\OM w ρ' ob'/\d.rep w (own ρ') cs/\d.isAgg=v.isAgg)/\∀j,lookO ob' j=lookO ob j\/lookO ob' j=some .gone
theorem Xko {ob:Objs}{id j:Nat}{x:Ob}(hl:lookO ob id=some x):lookO (setO ob id .gone) j=lookO ob j\/lookO (setO ob id .gone) j=some .gone:=by
 rw[Xj ob id j ⟨_,hl⟩]
 split
 ·exact .inr rfl
 ·exact .inl rfl
theorem Xd0 {g:Objs->V->Option (D×Objs)}(hg:Yq9 g w):∀(vs:List V) (ob:Objs) (ρ:Env) (cs:List Value) (l:List D) (ob':Objs),OM w ρ ob->V.repCs w ρ vs cs->gvL g ob vs=some (l,ob')->
  (∃ρ',Tr w ρ w ρ'/\OM w ρ' ob'/\D.repL w (own ρ') l cs/\l.map D.sz=vs.map V.size)/\∀j,lookO ob' j=lookO ob j\/lookO ob' j=some .gone
 | [],ob,ρ,cs,l,ob',hO,h,e=>by
  simp only[gvL,Option.some.injEq,Prod.mk.injEq]at e
  obtain⟨rfl,rfl⟩:=e
  exact⟨⟨ρ,Tr.refl _ _,hO,by simpa only[V.repCs,D.repL]using h,rfl⟩,fun _=>.inl rfl⟩
 | x::r,ob,ρ,cs,l,ob',hO,h,e=>by
  simp only[gvL]at e
  simp only[V.repCs]at h
  obtain⟨c1,c2,rfl,h1,h2⟩:=h
  split at e
  ·rename_i dd ob1 hq
   obtain⟨⟨ρ1,t1,o1,hr,_⟩,k1⟩:=hg x ob ρ c1 dd ob1 hO h1 hq
   cases hg2:gvL g ob1 r with
   | none=>simp[hg2,Qk]at e
   | some q=>
    obtain⟨l2,ob2⟩:=q
    simp only[hg2,Qk,Option.some.injEq,Prod.mk.injEq]at e
    obtain⟨rfl,rfl⟩:=e
    obtain⟨⟨ρ2,t2,o2,hr2,hs2⟩,k2⟩:=Xd0 hg r ob1 ρ1 c2 l2 ob2 o1 (V.repCs_tr t1 _ _ h2) hg2
    refine⟨⟨ρ2,t1.trans t2,o2,by simp only[D.repL]; exact⟨c1,c2,rfl,D.rep_mono t2.mono _ _ hr,hr2⟩,?_⟩,fun j=>?_⟩
    ·simp only[List.map_cons,hs2,List.cons.injEq,and_true]
     rw[<-D.rep_len _ _ hr,V.repC_len _ _ h1]; rfl
    ·rcases k2 j with k2 | k2
     ·rw[k2]; exact k1 j
     ·exact .inr k2
  ·cases e
theorem Xi0 {ρ:Env}{id n:Nat}{cs:List Value}(h:(V.sl id n).repC w ρ cs):∃o u,ρ.m id=some o/\cs=[u]/\o.slice n u:=by
 simpa only[V.repC]using h
theorem Xao:∀(k:Nat),Yq9 (V.gvF k) w
 | 0=>fun v ob ρ cs d ob' _ _ e=>by simp[V.gvF]at e
 | k+1=>fun v ob ρ cs dd ob' hO h e=>by
  have ih:=Xao k
  cases v with
  | d x=>
   simp only[V.gvF,Option.some.injEq,Prod.mk.injEq]at e
   obtain⟨rfl,rfl⟩:=e
   exact⟨⟨ρ,Tr.refl _ _,hO,by simpa only[V.repC]using h,by cases x<;>rfl⟩,fun _=>.inl rfl⟩
  | agg xs=>
   simp only[V.gvF]at e
   cases hg:gvL (V.gvF k) ob xs with
   | none=>simp[hg,Xjn]at e
   | some r=>
    obtain⟨l,ob1⟩:=r
    simp only[hg,Xjn,Option.some.injEq,Prod.mk.injEq]at e
    obtain⟨rfl,rfl⟩:=e
    simp only[V.repC]at h
    obtain⟨⟨ρ',t,o,hr,_⟩,hk⟩:=Xd0 ih xs ob ρ cs l ob1 hO h hg
    exact⟨⟨ρ',t,o,by simpa only[D.rep]using hr,rfl⟩,hk⟩
  | iface t x=>
   simp only[V.gvF]at e
   cases hg:V.gvF k ob x with
   | none=>simp[hg,Yei]at e
   | some r=>
    obtain⟨y,ob1⟩:=r
    simp only[hg,Yei,Option.some.injEq,Prod.mk.injEq]at e
    obtain⟨rfl,rfl⟩:=e
    simp only[V.repC]at h
    obtain⟨u,e1,h1⟩:=h
    rcases h1 with h1 | ⟨p,ds,q,r⟩ | ⟨p,r⟩
    ·subst h1; cases k<;>simp[V.gvF]at hg
    ·obtain⟨⟨ρ',t1,o,hr,ha⟩,hk⟩:=ih x ob ρ ds y ob1 hO r hg
     exact⟨⟨ρ',t1,o,by simp only[D.rep]; exact⟨u,e1,.inl ⟨by rw[ha]; exact p,ds,q,hr⟩⟩,rfl⟩,hk⟩
    ·obtain⟨⟨ρ',t1,o,hr,ha⟩,hk⟩:=ih x ob ρ [u] y ob1 hO r hg
     exact⟨⟨ρ',t1,o,by simp only[D.rep]; exact⟨u,e1,.inr ⟨by rw[ha]; exact p,hr⟩⟩,rfl⟩,hk⟩
  | fn f a b=>
   simp only[V.gvF]at e
   obtain⟨rfl,h1,h2⟩:=Xj5 h e
   exact⟨⟨ρ,Tr.refl _ _,hO,h1,by rw[h2]; rfl⟩,fun _=>.inl rfl⟩
  | sl id n=>
   simp only[V.gvF]at e
   unfold Yeg at e
   split at e
   ·rename_i E sz xs hl
    split at e
    ·rename_i hc
     simp only[Option.some.injEq,Prod.mk.injEq]at e
     obtain⟨rfl,rfl⟩:=e
     obtain⟨hsz,rfl⟩:=hc
     obtain⟨t1,o1,_⟩:=Xbt hO ⟨_,hl⟩
     obtain⟨o,u,h1,rfl,h2⟩:=Xi0 h
     have:=Jf hO hl hsz (u:=u) (by rw[Y2]; exact⟨o,h1,h2⟩)
     refine⟨⟨_,t1,o1,?_,rfl⟩,fun j=>Xko hl⟩
     rw[Wq (by simp[V.isAgg]) (by simp)]at this
     simpa only[V.repC]using this
    ·cases e
   ·rename_i E sz xs hl
    split at e
    ·rename_i hc
     obtain⟨hsz,rfl⟩:=hc
     cases hg:gvL (V.gvF k) ob xs with
     | none=>simp[hg,gvS]at e
     | some r=>
      obtain⟨l,ob1⟩:=r
      simp only[hg,gvS]at e
      unfold gvT at e
      split at e
      ·rename_i E' sz' xs' hl1
       simp only[Option.some.injEq,Prod.mk.injEq]at e
       obtain⟨rfl,rfl⟩:=e
       obtain⟨o,u,h1,rfl,h2⟩:=Xi0 h
       have fin:∀(ρ1:Env),Tr w ρ w ρ1->OM w ρ1 ob1->Xdi w ρ1 id (.arr E sz l)->l.length=xs.length->(∀j,lookO ob1 j=lookO ob j\/lookO ob1 j=some .gone)->
         (∃ρ',Tr w ρ w ρ'/\OM w ρ' (setO ob1 id .gone)/\(D.list sz l).rep w (own ρ') [u]/\(D.list sz l).isAgg=(V.sl id xs.length).isAgg)/\∀j,lookO (setO ob1 id .gone) j=lookO ob j\/lookO (setO ob1 id .gone) j=some .gone:=by
        intro ρ1 t1 o1 hm hlen hk
        have o2:=o1.swap hl1 hm
        have hl2:lookO (setO ob1 id (.arr E sz l)) id=some (.arr E sz l):=by rw[Xj ob1 id id ⟨_,hl1⟩]; simp
        obtain⟨t3,o3,_⟩:=Xbt o2 ⟨_,hl2⟩
        rw[Xet]at o3
        have hv:(V.sl id l.length).rep w ρ1 u:=V.rep_tr t1 (by rw[hlen,Y2]; exact⟨o,h1,h2⟩)
        have h4:=Jf o2 hl2 hsz hv
        refine⟨⟨_,t1.trans t3,o3,?_,rfl⟩,fun j=>?_⟩
        ·rw[Wq (by simp[V.isAgg]) (by simp)]at h4
         simpa only[V.repC]using h4
        ·rcases Xko (j:=j) hl1 with h5 | h5
         ·rw[h5]; exact hk j
         ·exact .inr h5
       rcases hO.one id _ hl with⟨hvi,rfl⟩ | ⟨b,cap,cs,sp,g1,g2,g3,g4,g5⟩
       ·simp only[gvL,Option.some.injEq,Prod.mk.injEq]at hg
        obtain⟨rfl,rfl⟩:=hg
        exact fin ρ (Tr.refl _ _) hO (.inl ⟨hvi,rfl⟩) rfl (fun _=>.inl rfl)
       ·obtain⟨⟨ρ1,t1,o1,hr,hs⟩,hk⟩:=Xd0 ih xs ob ρ cs l ob1 hO g3 hg
        have hlen:l.length=xs.length:=by simpa using congrArg List.length hs
        have hx':(Ob.vec E' sz' xs')=.vec E sz xs:=by
         rcases hk id with h5 | h5
         ·rw[hl1,hl]at h5; exact Option.some.inj h5
         ·rw[hl1]at h5; cases h5
        cases hx'
        obtain⟨o',p1,p2⟩:=t1.same id _ g1
        have hρ1:ρ1.m id=some (.arr b xs.length cap):=by
         cases p2 with
         | refl=>exact p1
         | gone=>rcases o1.one id _ hl1 with⟨q1,_⟩ | ⟨_,_,_,_,q1,_⟩<;>(rw[p1]at q1; cases q1)
         | grow hlt hh=>
          rcases hh with⟨hq,_⟩ | ⟨b2,c2,hq⟩
          ·cases hq
          ·simp only[RO.arr.injEq]at hq
           rcases o1.one id _ hl1 with⟨q1,_⟩ | ⟨_,_,_,_,q1,_⟩
           ·rw[p1]at q1; cases q1
           ·rw[p1]at q1
            simp only[Option.some.injEq,RO.arr.injEq]at q1
            omega
        refine fin ρ1 t1 o1 (.inr ⟨b,cap,cs,sp,by rw[hlen]; exact hρ1,g2,hr,fun x hx=>?_,g5⟩) hlen hk
        have h6:x.sz∈l.map D.sz:=List.mem_map_of_mem hx
        rw[hs]at h6
        obtain⟨y,hy,h7⟩:=List.mem_map.1 h6
        rw[<-h7]; exact g4 y hy
      ·cases e
    ·cases e
   ·cases e
  | _=>simp[V.gvF]at e
theorem Yb7 {k:Nat}{ρ:Env}{ob ob':Objs}{v:V}{d:D}{u:Value}(hO:OM w ρ ob)(h:v.rep w ρ u)(e:V.gvF k ob v=some (d,ob')):∃ρ',Tr w ρ w ρ'/\OM w ρ' ob'/\(V.d d).rep w ρ' u:=by
 rcases h with h | ⟨p,ds,q,r⟩ | ⟨p,r⟩
 ·subst h; cases k<;>simp[V.gvF]at e
 ·obtain⟨⟨ρ',t1,o,hr,ha⟩,_⟩:=Xao k v ob ρ ds d ob' hO r e
  exact⟨ρ',t1,o,Xb3.2 (.inl ⟨by rw[ha]; exact p,ds,q,hr⟩)⟩
 ·obtain⟨⟨ρ',t1,o,hr,ha⟩,_⟩:=Xao k v ob ρ [u] d ob' hO r e
  exact⟨ρ',t1,o,Xb3.2 (.inr ⟨by rw[ha]; exact p,hr⟩)⟩
end

inductive Out where
 | ret (v:V)
 | panic (v:V)

def Xv4 (w:World)(ρ:Env):Ending->Out->Prop
 | .returned u,.ret v=>v.rep w ρ u
 | .panicked ch,.panic v=>∃u,ch=[{ v:=u,recovered:=false }]/\v.rep w ρ u
 | _,_=>False

structure Prg where
 p:Program
 g:Nat->Option Obj

structure ACall (P:Prg)(f:Nat)(vs:List V)(ob:Objs)(K:Out->Objs->Prop):Prop where
 run:∀w ρ args,OM w ρ ob->ρ.gl=P.g->V.reps w ρ vs args->Calls P.p f args.toArray w (fun e w'=>∃out ob' ρ',K out ob'/\Xv4 w' ρ' e out/\OM w' ρ' ob'/\Tr w ρ w' ρ')

theorem ACall.mono {P:Prg}{f:Nat}{vs:List V}{ob:Objs}{K K':Out->Objs->Prop}(h:ACall P f vs ob K)(hk:∀o b,K o b->K' o b):ACall P f vs ob K':=
 ⟨fun w ρ args ho hg hr=>(h.run w ρ args ho hg hr).mono fun _ _ ⟨out,ob',ρ',k,r⟩=>⟨out,ob',ρ',hk _ _ k,r⟩⟩

structure PCall (P:Prg)(f:Nat)(vs:List V)(ob:Objs)(K:V->Prop):Prop where
 run:∀w ρ args,OM w ρ ob->ρ.gl=P.g->V.reps w ρ vs args->Calls P.p f args.toArray w (fun e w'=>∃v u,K v/\e=.returned u/\v.rep w' ρ u/\Ext w w')

theorem PCall.mono {P:Prg}{f:Nat}{vs:List V}{ob:Objs}{K K':V->Prop}(h:PCall P f vs ob K)(hk:∀v,K v->K' v):PCall P f vs ob K':=
 ⟨fun w ρ args ho hg hr=>(h.run w ρ args ho hg hr).mono fun _ _ ⟨v,u,k,r⟩=>⟨v,u,hk v k,r⟩⟩

theorem PCall.acall {P:Prg}{f:Nat}{vs:List V}{ob:Objs}{K:Out->Objs->Prop}(h:PCall P f vs ob fun v=>K (.ret v) ob):ACall P f vs ob K:=
 ⟨fun w ρ args ho hg hr=>(h.run w ρ args ho hg hr).mono fun e w' ⟨v,u,k,he,r,x⟩=>by subst he; exact⟨.ret v,ob,ρ,k,r,ho.ext x,x.tr⟩⟩

def Xk (P:Program)(f:Nat):Bool:=match P.funcs[f]? with
 | some fn=>fn.name != "runtime.NumGoroutine" &&fn.body.isSome
 | none=>false

def Xp0 (K Pn:V->Objs->Prop):Out->Objs->Prop
 | .ret v,ob=>K v ob
 | .panic v,ob=>Pn v ob

def Xus (E:Nat)(ob:Objs)(K:V->Objs->Prop)(v:V):Prop:=v.sto=true/\K (.ptr (fresh ob) []) ((fresh ob,.box E v)::ob)
def X1o (ob:Objs)(id:Nat)(p:List Nat)(n E:Nat)(v t:V)(K:V->Objs->Prop):Option V->Prop
 | some old=>v.shape=old.shape/\old.size=n/\v.sto=true/\∃t',t.set p v=some t'/\K .undef (setO ob id (.box E t'))
 | none=>False
def stKo (ob:Objs)(id:Nat)(p:List Nat)(n:Nat)(v:V)(K:V->Objs->Prop):Option Ob->Prop
 | some (.box E t)=>X1o ob id p n E v t K (t.at p)
 | _=>False
def X2b (ob:Objs)(id i n:Nat)(o:Ob)(v v0:V)(p:List Nat)(K:V->Objs->Prop):Option V->Prop
 | some old=>v.shape=old.shape/\old.size=n/\v.sto=true/\∃t',v0.set p v=some t'/\K .undef (setO ob id (Xct o i t'))
 | none=>False
def X5q (ob:Objs)(id i n:Nat)(o:Ob)(v:V)(z f:Nat)(p:List Nat)(K:V->Objs->Prop):Option V->Prop
 | some v0=>(z=v0.size/\f=v0.shape.off p)/\X2b ob id i n o v v0 p K (v0.at p)
 | none=>False
def X2a (ob:Objs)(id m z i f:Nat)(p:List Nat)(n:Nat)(v:V)(K:V->Objs->Prop):Option Ob->Prop
 | some o=>X5q ob id i n o v z f p K (Vd m i (some o))
 | none=>False
def stK (ob:Objs)(n:Nat)(v:V)(K:V->Objs->Prop):V->Prop
 | .ptr id p=>stKo ob id p n v K (lookO ob id)
 | .ep id m z i f p=>X2a ob id m z i f p n v K (lookO ob id)
 | _=>False
def dK (K:List D->Prop):Option (List D)->Prop
 | some l=>K l
 | none=>False
def Qr (P:Prg)(args:List V)(ob:Objs)(K Pn:V->Objs->Prop):V->Prop
 | .fn f fi ca=>Xk P.p f=true/\ACall P f (fi++args++ca) ob (Xp0 K Pn)
 | .d (.fn f fi ca)=>Xk P.p f=true/\ACall P f (fi.map .d++args++ca.map .d) ob (Xp0 K Pn)
 | _=>False
def Xa4 (ob:Objs)(Pn:V->Objs->Prop):V->Prop
 | .iface t v=>Pn (.iface t v) ob
 | .d (.iface t v)=>Pn (.d (.iface t v)) ob
 | _=>False
def X1m (sz:Nat)(K:List D->Prop):V->Prop
 | .d (.list z ys)=>z=sz/\K ys
 | .d .nils=>K []
 | _=>False
def Xe2 (id E sz B n:Nat)(ob:Objs)(ys:List D)(K:V->Objs->Prop):Option Ob->Prop
 | some (.arr E' sz' xs)=>E'=E/\sz'=sz/\n=xs.length/\(2*(xs.length+ys.length)+192)*B<=281474976710656/\K (.sl id (xs.length+ys.length)) (setO ob id (.arr E sz (xs++ys)))
 | _=>False
def Xe1 (E sz B:Nat)(ob:Objs)(ys:List D)(K:V->Objs->Prop):V->Prop
 | .sl id n=>Xe2 id E sz B n ob ys K (lookO ob id)
 | .d .nils=>(2*ys.length+192)*B<=281474976710656/\K (.sl (fresh ob) ys.length) ((fresh ob,.arr E sz ys)::ob)
 | _=>False
def bytesD:List UInt8->List D
 | []=>[]
 | b::r=>.int .u8 b.toNat::bytesD r
def Yd9 (K:V->Prop):V->Prop
 | .d (.list sz xs)=>sz=1/\∃s,xs=bytesD s/\K (.d (.str s))
 | .d .nils=>K (.d (.str []))
 | _=>False

inductive I where
 | c (x:C)
 | box (E:Nat) (x:A)
 | alloc (E:Nat) (z:D)
 | bls (sz:Nat) (z:List D) (Xx:List (Nat×A))
 | blo (E sz:Nat) (z:List D) (Xx:List (Nat×A))
 | st (n:Nat) (x v:A)
 | app (E sz B:Nat) (x y:A)
 | appS (E B:Nat) (x y:A)
 | call (f:Nat) (args:List A)
 | pcall (f:Nat) (args:List A)
 | callv (x:A) (args:List A)
 | panic (x:A)
 | b2s (x:A)
 | s2b (x:A)
 | nilo (E sz:Nat) (x:A)
  | mvf (x:A)
  | ldf (n:Nat) (ag:Bool) (x:A)
  | mvg (E sz:Nat) (y x:A) (p:List Nat)
  | mvn (y x:A) (l:List (Nat×Nat×List Nat))
  | cvb (x:A)
  | ustr (E:Nat) (x y:A)
  | mkm (r:Option A)
  | lkp (kd z:D) (ok:Bool) (m k:A)
  | mset (kd:D) (m k v:A)
  | gld (g n:Nat) (ag:Bool) (x:D)
  | slg (n z:Nat) (x:A)
  | blv (E sz:Nat) (z:List D) (Xx:List (Nat×A))
  | apv (E sz B:Nat) (x y:A)
  | gv (x:A)
  | ldg (n:Nat) (ag:Bool) (x:A)
  | slb (n z:Nat) (x:A) (lo hi:Option A)
  | cpy (z:Nat) (x y:A)
 | clr (z0:D) (z:Nat) (x:A)
  | gix (g n z:Nat) (x:D) (i:A)

def Xis (E sz:Nat)(ob:Objs)(K:V->Objs->Prop):V->Prop
 | .d .nils=>K (.sl (fresh ob) 0) ((fresh ob,.arr E sz [])::ob)
 | _=>False
def Xj9 (K:V->Objs->Prop):Option (D×Objs)->Prop
 | some (d,ob)=>K (.d d) ob
 | none=>False
def Xmz (n:Nat)(ag:Bool)(ob:Objs)(K:V->Objs->Prop):Option V->Prop
 | some v=>v.size=n/\v.isAgg=ag/\Xj9 K (V.giv ob v)
 | none=>False
def X4x (n:Nat)(ag:Bool)(ob:Objs)(K:V->Objs->Prop):V->Prop
 | .ptr id p=>Xmz n ag ob K (atO ob id p)
 | _=>False
def Xxv (ob:Objs)(id:Nat)(p:List Nat)(x:D)(K:V->Objs->Prop):Option Ob->Prop
 | some (.box E t)=>∃t',t.set p (.d x)=some t'/\K (.d x) (setO ob id (.box E t'))
 | _=>False
def Xtx (v:V)(id:Nat)(p:List Nat)(K:V->Objs->Prop):Option (D×Objs)->Prop
 | some (x,ob)=>x.shape=v.shape/\Xxv ob id p x K (lookO ob id)
 | none=>False
def Xty (n:Nat)(ag:Bool)(ob:Objs)(id:Nat)(p:List Nat)(K:V->Objs->Prop):Option V->Prop
 | some v=>v.size=n/\v.isAgg=ag/\Xtx v id p K (V.gvF 40000 ob v)
 | none=>False
def X6q (n:Nat)(ag:Bool)(ob:Objs)(K:V->Objs->Prop):V->Prop
 | .ptr id p=>Xty n ag ob id p K (atO ob id p)
 | _=>False
def Xks (ob:Objs)(id E0 E sz:Nat)(y:V)(K:V->Objs->Prop):Option V->Prop
 | some t=>K y ((fresh ob,.arr E sz [])::setO ob id (.box E0 t))
 | none=>False
def Xe7 (ob:Objs)(id:Nat)(p:List Nat)(E sz:Nat)(y:V)(K:V->Objs->Prop):Option Ob->Prop
 | some (.box E0 t)=>(t.at p=some (.d .nils)/\Xks ob id E0 E sz y K (t.set p (.sl (fresh ob) 0)))\/((∃i n,t.at p=some (.sl i n))/\K y ob)
 | _=>False
def Xl1 (ob:Objs)(E sz:Nat)(p:List Nat)(y:V)(K:V->Objs->Prop):V->Prop
 | .ptr id q=>Xe7 ob id (q++p) E sz y K (lookO ob id)
 | _=>False
def X6x (y:V)(K:V->Objs->Prop)(x:V):List (Nat×Nat×List Nat)->Objs->Prop
 | [],ob=>K y ob
 | e::l,ob=>Xl1 ob e.1 e.2.1 e.2.2 y (fun _ ob'=>X6x y K x l ob') x
def Xgt (id n:Nat)(ob:Objs)(K:V->Objs->Prop):Option Ob->Prop
 | some (.arr _ sz xs)=>sz ≠ 0/\n=xs.length/\xs ≠ []/\K (.d (.list sz xs)) (setO ob id .gone)
 | _=>False
def Xws (ob:Objs)(K:V->Objs->Prop):V->Prop
 | .sl id n=>Xgt id n ob K (lookO ob id)
 | _=>False
def Xbe (id n:Nat)(m:Int)(E:Nat)(ob:Objs)(K:V->Objs->Prop):Option Ob->Prop
 | some (.arr E' sz xs)=>E'=E/\sz=1/\n=xs.length/\m=n/\n<=9223372036854775807/\xs ≠ []/\∃s,xs=bytesD s/\K (.d (.str s)) (setO ob id .gone)
 | _=>False
def Xb7 (E:Nat)(ob:Objs)(K:V->Objs->Prop):V->V->Prop
 | .sd id n,.d (.int .i64 m)=>Xbe id n m E ob K (lookO ob id)
 | .d .nilp,.d (.int .i64 m)=>m=0/\K (.d (.str [])) ob
 | _,_=>False
def Xi1 (K:List D->Prop):V->Prop
 | .d (.str s)=>K (bytesD s)
 | _=>False
def Yen (K:V->Prop):V->Prop
 | .d (.str s)=>K (.d (.list 1 (bytesD s)))
 | _=>False

def D.alike:D->D->Bool
 | .int k _,.int k' _=>decide (k=k')
 | .bool _,.bool _=>true
 | .str _,.str _=>true
 | _,_=>false
def D.sameKey:D->D->Bool
 | .int _ a,.int _ b=>a==b
 | .bool a,.bool b=>a==b
 | .str a,.str b=>a==b
 | _,_=>false
def J0 (k:D):List (D×V)->Option V
 | []=>none
 | (j,v)::r=>if D.sameKey k j then some v else J0 k r
def Xqh (k:D)(x:V):List (D×V)->List (D×V)
 | []=>[(k,x)]
 | (j,v)::r=>if D.sameKey k j then (k,x)::r else (j,v)::Xqh k x r
def Qx (kd k:D)(es:List (D×V)):Prop:=D.alike kd k=true/\∀e∈es,D.alike k e.1=true
def X42 (z:D):Bool->Option V->V
 | true,some v=>.tup [v,.d (.bool true)]
 | true,none=>.tup [.d z,.d (.bool false)]
 | false,some v=>v
 | false,none=>.d z
def Xhc (kd z:D)(ok:Bool)(k:D)(K:V->Prop):Option Ob->Prop
 | some (.map es)=>Qx kd k es/\K (X42 z ok (J0 k es))
 | _=>False
def Xx1 (ob:Objs)(kd z:D)(ok:Bool)(K:V->Prop):V->V->Prop
 | .mp id,.d k=>Xhc kd z ok k K (lookO ob id)
 | .d .nilm,.d k=>D.alike kd k=true/\K (X42 z ok none)
 | _,_=>False
def Xaz (ob:Objs)(id:Nat)(kd k:D)(v:V)(K:V->Objs->Prop):Option Ob->Prop
 | some (.map es)=>Qx kd k es/\v.sto=true/\K .undef (setO ob id (.map (Xqh k v es)))
 | _=>False
def Xeb (ob:Objs)(kd:D)(v:V)(K:V->Objs->Prop):V->V->Prop
 | .mp id,.d k=>Xaz ob id kd k v K (lookO ob id)
 | _,_=>False
def Xkh:V->Prop
 | .d (.int _ _)=>True
 | _=>False
def X17 (sl:Xb):Option A->Prop
 | none=>True
 | some x=>Xkh (x.ev sl)
def Xua (n z:Nat)(K:D->Prop):Option V->Prop
 | some (.d (.agg xs))=>xs.length=n/\(∀x∈xs,x.sz=z)/\K (.list z xs)
 | _=>False
def X85 (ob:Objs)(n z:Nat)(K:V->Objs->Prop):V->Prop
 | .ptr id p=>Xua n z (fun x=>K (.d x) (setO ob id .gone)) (atO ob id p)
 | _=>False
def Xt8 (id:Nat)(p:List Nat)(n z:Nat)(lo hi:Option V)(K:V->Prop):Option (List V)->Prop
 | some ks=>ks.length=n/\(∀k∈ks,k.size=z)/\Xad n (fun l h=>K (.bs id p l (h-l))) lo hi
 | none=>False
def Yeo (ob:Objs)(n z:Nat)(lo hi:Option V)(K:V->Objs->Prop):V->Prop
 | .ptr id p=>Xt8 id p n z lo hi (fun v=>K v ob) (Zq (atO ob id p))
 | _=>False
def X8y (lo:Nat)(xs ys:List D):List D:=xs.take lo++(ys++xs.drop (lo+ys.length))
def Yk2 (ob:Objs)(id E:Nat)(t:V)(p:List Nat)(lo n z:Nat)(ys:List D)(r:V)(K:V->Objs->Prop):Option V->Prop
 | some (.d (.agg xs))=>lo+n<=xs.length/\(∀x∈xs,x.sz=z)/\(D.agg (X8y lo xs ys)).shape=(D.agg xs).shape/\∃t',t.set p (.d (.agg (X8y lo xs ys)))=some t'/\K r (setO ob id (.box E t'))
 | _=>False
def X12 (ob:Objs)(id:Nat)(p:List Nat)(lo n z:Nat)(ys:List D)(r:V)(K:V->Objs->Prop):Option Ob->Prop
 | some (.box E t)=>Yk2 ob id E t p lo n z ys r K (t.at p)
 | _=>False
def Yk5 (z:Nat)(ob:Objs)(K:V->Objs->Prop):V->V->Prop
 | .bs id p lo n,.d (.list z' ys)=>z'=z/\X12 ob id p lo n z (ys.take n) (.d (.int .i64 (min ys.length n:Nat))) K (lookO ob id)
 | _,_=>False
def Yk3 (z0:D)(z:Nat)(ob:Objs)(K:V->Objs->Prop):V->Prop
 | .bs id p lo n=>(n=0->(∃E t,lookO ob id=some (.box E t))/\K (.tup []) ob)/\(n ≠ 0->(z0.sz=z/\z=1)/\X12 ob id p lo n z (List.replicate n z0) (.tup []) K (lookO ob id))
 | _=>False
def Yla (n z:Nat)(K:V->Prop):D->V->Prop
 | .agg xs,.d (.int _ m)=>(0<=m/\m<n)/\xs.length=n/\(∀x∈xs,x.sz=z)/\K (.d (.ref (xs.getD m.toNat default)))
 | _,_=>False
def Yep (sz:Nat)(K:List V->Prop)(ob:Objs):V->Prop
 | .d (.list z ys)=>z=sz/\K (ys.map .d)
 | .d .nils=>K []
 | .sl id n=>(∃E ys,lookO ob id=some (.vec E sz ys)/\n=ys.length/\V.stos ys=true/\K ys)\/∃E ys,lookO ob id=some (.arr E sz ys)/\n=ys.length/\K (ys.map .d)
 | _=>False
def Xe3 (id E sz B n:Nat)(ob:Objs)(ys:List V)(K:V->Objs->Prop):Option Ob->Prop
 | some (.vec E' sz' xs)=>E'=E/\sz'=sz/\n=xs.length/\(2*(xs.length+ys.length)+192)*B<=281474976710656/\K (.sl id (xs.length+ys.length)) (setO ob id (.vec E sz (xs++ys)))
 | some (.arr E' sz' xs)=>E'=E/\sz'=sz/\n=xs.length/\(2*(xs.length+ys.length)+192)*B<=281474976710656/\K (.sl id (xs.length+ys.length)) (setO ob id (.vec E sz (xs.map .d++ys)))
 | _=>False
def Xrh (E sz B:Nat)(ob:Objs)(ys:List V)(K:V->Objs->Prop):V->Prop
 | .sl id n=>Xe3 id E sz B n ob ys K (lookO ob id)
 | .d .nils=>(2*ys.length+192)*B<=281474976710656/\K (.sl (fresh ob) ys.length) ((fresh ob,.vec E sz ys)::ob)
 | _=>False
def Xcc (P:Prg)(g:Nat)(x:D):Prop:=∃cs T f,P.g g=some (.cells (List.toArray cs) T f)/\D.isC x cs=true

def I.wp (P:Prg)(sl:Xb)(ob:Objs)(K Pn:V->Objs->Prop):I->Prop
 | .c x=>x.wp sl ob (fun v=>K v ob)
 | .box E x=>Xus E ob K (x.ev sl)
 | .alloc E z=>Xus E ob K (.d z)
 | .bls sz z Xx=>J9 (z.map .d) (Xx.map fun (i,x)=>(i,x.ev sl)) fun ks=>dK (fun l=>K (.d (.list sz l)) ob) (V.allD ks)
 | .blo E sz z Xx=>J9 (z.map .d) (Xx.map fun (i,x)=>(i,x.ev sl)) fun ks=>dK (fun l=>K (.sl (fresh ob) l.length) ((fresh ob,.arr E sz l)::ob)) (V.allD ks)
 | .st n x v=>stK ob n (v.ev sl) K (x.ev sl)
 | .app E sz B x y=>X1m sz (fun ys=>Xe1 E sz B ob ys K (x.ev sl)) (y.ev sl)
 | .appS E B x y=>Xi1 (fun ys=>Xe1 E 1 B ob ys K (x.ev sl)) (y.ev sl)
 | .call f args=>ACall P f (args.map (A.ev sl)) ob (Xp0 K Pn)
 | .pcall f args=>PCall P f (args.map (A.ev sl)) ob fun v=>K v ob
 | .callv x args=>Qr P (args.map (A.ev sl)) ob K Pn (x.ev sl)
 | .panic x=>Xa4 ob Pn (x.ev sl)
 | .b2s x=>Yd9 (fun v=>K v ob) (x.ev sl)
 | .s2b x=>Yen (fun v=>K v ob) (x.ev sl)
 | .nilo E sz x=>Xis E sz ob K (x.ev sl)
 | .mvf x=>Xj9 K (V.giv ob (x.ev sl))
 | .ldf n ag x=>X4x n ag ob K (x.ev sl)
 | .mvg E sz y x p=>Xl1 ob E sz p (y.ev sl) K (x.ev sl)
 | .mvn y x l=>X6x (y.ev sl) K (x.ev sl) l ob
 | .cvb x=>Xws ob K (x.ev sl)
 | .ustr E x y=>Xb7 E ob K (x.ev sl) (y.ev sl)
 | .mkm r=>X17 sl r/\K (.mp (fresh ob)) ((fresh ob,.map [])::ob)
 | .lkp kd z ok m k=>Xx1 ob kd z ok (fun v=>K v ob) (m.ev sl) (k.ev sl)
 | .mset kd m k v=>Xeb ob kd (v.ev sl) K (m.ev sl) (k.ev sl)
 | .gld g n ag x=>Xcc P g x/\x.sz=n/\(V.d x).isAgg=ag/\K (.d x) ob
 | .slg n z x=>X85 ob n z K (x.ev sl)
 | .blv E sz z Xx=>J9 (z.map .d) (Xx.map fun (i,x)=>(i,x.ev sl)) fun ks=>K (.sl (fresh ob) ks.length) ((fresh ob,.vec E sz ks)::ob)
 | .apv E sz B x y=>Yep sz (fun ys=>Xrh E sz B ob ys K (x.ev sl)) ob (y.ev sl)
 | .gv x=>Xj9 K (V.gvF 40000 ob (x.ev sl))
 | .ldg n ag x=>X6q n ag ob K (x.ev sl)
 | .slb n z x lo hi=>Yeo ob n z (lo.map (A.ev sl)) (hi.map (A.ev sl)) K (x.ev sl)
 | .cpy z x y=>Yk5 z ob K (x.ev sl) (y.ev sl)
 | .clr z0 z x=>Yk3 z0 z ob K (x.ev sl)
 | .gix g n z x i=>Xcc P g x/\Yla n z (fun v=>K v ob) x (i.ev sl)

def Xez (P:Program)(e:TypeId)(len size:Nat):Option (List Value):=
 if len*size=0 then some [] else (Q7 P e).map fun z=>((Array.range (len*size)).map (z.toArray[· % z.toArray.size]!)).toList

def Xjv (P:Program)(op:Op)(E? : Option Nat)(sz:Nat)(z:List D)(Xx:List (Nat×A)):Bool:=match op with
 | .buildSlice t len ps=>Vc ps.toList Xx&&(match P.underlying t with
  | some (.slice e)=>(match E? with | some E=>e==E | none=>true)&&Yb P e==some sz&&z.length==len&&decide (len*sz<=2 ^ 24)&&z.all (fun x=>x.sz==sz)&&(match Xez P e len sz with | some cs=>D.isCs z cs | none=>false)
  | _=>false)
 | _=>false

def Qc:TypeDesc->D->Bool
 | .int _,.int _ _=>true
 | .string,.str _=>true
 | .bool,.bool _=>true
 | _,_=>false
def Qw (P:Program)(t:TypeId)(kd:D):Bool:=match P.underlying t with
 | some d=>Qc d kd
 | none=>false

def I.chk (P:Program)(op:Op):I->Bool
 | .c x=>x.chk P op
 | .box E y=>match op with
  | .box e x=>e==E&&A.chk x y
  | _=>false
 | .alloc E z=>match op with
  | .alloc e=>e==E&&match Q7 P e with
   | some cs=>D.isC z cs
   | none=>false
  | _=>false
 | .bls sz z Xx=>Xjv P op none sz z Xx
 | .blo E sz z Xx=>Xjv P op (some E) sz z Xx
 | .blv E sz z Xx=>Xjv P op (some E) sz z Xx
 | .st n x v=>match op with
  | .store t y u=>Yb P t==some n&&A.chk y x&&A.chk u v
  | _=>false
 | .app E sz B x y=>match op with
  | .call { callee:=.builtin .append,args:=args,argTypes:=ts }=>match args.toList,ts.toList with
   | [u,v],[t,t2]=>(match P.underlying t with | some (.slice e)=>e==E | _=>false)&&(match P.info? E with | some i=>i.size==sz&&i.bytes==B&&i.bytes != 0&&i.size != 0&&i.zero.isSome&&(i.zero.map (·.cells.size))==some sz | none=>false)&&
    (P.underlying t2 matches some (.slice _))&&A.chk u x&&A.chk v y
   | _,_=>false
  | _=>false
 | .apv E sz B x y=>match op with
  | .call { callee:=.builtin .append,args:=args,argTypes:=ts }=>match args.toList,ts.toList with
   | [u,v],[t,t2]=>(match P.underlying t with | some (.slice e)=>e==E | _=>false)&&(match P.info? E with | some i=>i.size==sz&&i.bytes==B&&i.bytes != 0&&i.size != 0&&i.zero.isSome&&(i.zero.map (·.cells.size))==some sz | none=>false)&&
    (P.underlying t2 matches some (.slice _))&&A.chk u x&&A.chk v y
   | _,_=>false
  | _=>false
 | .appS E B x y=>match op with
  | .call { callee:=.builtin .append,args:=args,argTypes:=ts }=>match args.toList,ts.toList with
   | [u,v],[t,t2]=>(match P.underlying t with | some (.slice e)=>e==E | _=>false)&&(match P.info? E with | some i=>i.size==1&&i.bytes==B&&i.bytes != 0&&i.zero.isSome&&(i.zero.map (·.cells.size))==some 1 | none=>false)&&
    (P.underlying t2 matches some .string)&&A.chk u x&&A.chk v y
   | _,_=>false
  | _=>false
 | .call f args=>match op with
  | .call { callee:=.value (.func g),args:=as,.. }=>f==g&&Xk P f&&Xe4 as.toList args
  | _=>false
 | .pcall f args=>match op with
  | .call { callee:=.value (.func g),args:=as,.. }=>f==g&&Xk P f&&Xe4 as.toList args
  | _=>false
 | .callv y args=>match op with
  | .call { callee:=.value x,args:=as,.. }=>A.chk x y&&Xe4 as.toList args
  | _=>false
 | .panic y=>match op with
  | .panic x=>A.chk x y
  | _=>false
 | .b2s y=>match op with
  | .convert s t x=>(match P.underlying s with | some (.slice e)=>(P.underlying e matches some (.int .u8))&&Yb P e==some 1 | _=>false)&&(P.underlying t matches some .string)&&A.chk x y
  | _=>false
 | .s2b y=>match op with
  | .convert s t x=>(P.underlying s matches some .string)&&(match P.underlying t with | some (.slice e)=>(P.underlying e matches some (.int .u8)) | _=>false)&&A.chk x y
  | _=>false
 | .nilo _ _ y=>match op with
  | .move x | .assign x=>A.chk x y
  | _=>false
 | .mvf y=>match op with
  | .move x | .assign x=>A.chk x y
  | _=>false
 | .gv y=>match op with
  | .move x | .assign x=>A.chk x y
  | _=>false
 | .ldf n ag y=>match op with
  | .load t x=>Yb P t==some n&&(P.underlying t).isSome&&agT P t==ag&&A.chk x y
  | _=>false
 | .ldg n ag y=>match op with
  | .load t x=>Yb P t==some n&&(P.underlying t).isSome&&agT P t==ag&&A.chk x y
  | _=>false
 | .mvg _ _ y _ _=>match op with
  | .move x | .assign x=>A.chk x y
  | _=>false
 | .mvn y _ _=>match op with
  | .move x | .assign x=>A.chk x y
  | _=>false
 | .cvb y=>match op with
  | .convert s t x=>s==t&&(match P.underlying s with | some (.slice e)=>(P.underlying e matches some (.int .u8)) | _=>false)&&A.chk x y
  | _=>false
 | .ustr E y z=>match op with
  | .call { callee:=.builtin .unsafeString,args:=args,argTypes:=ts }=>match args.toList,ts.toList with
   | [x,n],[t,_]=>(match P.underlying t with | some (.pointer e)=>e==E&&P.cellsOf e==1 | _=>false)&&A.chk x y&&A.chk n z
   | _,_=>false
  | _=>false
 | .mkm r=>match op with
  | .makeMap t h=>(P.underlying t matches some (.map _ _))&&Xfh h r
  | _=>false
 | .lkp kd z ok m k=>match op with
  | .lookup t x i o=>o==ok&&(match P.underlying t with
   | some (.map kt et)=>Qw P kt kd&&(match Q7 P et with | some cs=>D.isC z cs&&(((P.info? et).bind (·.zero)).map fun v=>match v with | .agg _=>true | _=>false)==some (V.d z).isAgg | none=>false)
   | _=>false)&&A.chk x m&&A.chk i k
  | _=>false
 | .mset kd m k v=>match op with
  | .mapUpdate t x i y=>(match P.underlying t with | some (.map kt _)=>Qw P kt kd | _=>false)&&A.chk x m&&A.chk i k&&A.chk y v
  | .insert t x i y=>(match P.underlying t with | some (.map kt _)=>Qw P kt kd | _=>false)&&A.chk x m&&A.chk i k&&A.chk y v
  | _=>false
 | .gld g n ag _=>match op with
  | .load t (.global h)=>h==g&&Yb P t==some n&&(P.underlying t).isSome&&agT P t==ag
  | _=>false
 | .slg n z y=>match op with
  | .slice t x none none none=>(match P.underlying t with | some (.array m e)=>m==n&&Yb P e==some z | _=>false)&&A.chk x y
  | _=>false
 | .slb n z y lo hi=>match op with
  | .slice t x l h none=>(match P.underlying t with | some (.array m e)=>m==n&&Yb P e==some z | _=>false)&&A.chk x y&&Xfh l lo&&Xfh h hi
  | _=>false
 | .cpy z y s=>match op with
  | .call { callee:=.builtin .copy,args:=args,argTypes:=ts }=>match args.toList,ts.toList with
   | [u,v],[t,_]=>(match P.underlying t with | some (.slice e)=>Yb P e==some z&&z != 0 | _=>false)&&A.chk u y&&A.chk v s
   | _,_=>false
  | _=>false
 | .clr z0 z y=>match op with
  | .call { callee:=.builtin .clear,args:=args,argTypes:=ts }=>match args.toList,ts.toList with
   | [u],[t]=>(match P.underlying t with | some (.slice e)=>Yb P e==some z&&z != 0&&(match Q7 P e with | some cs=>D.isC z0 cs | none=>false) | _=>false)&&A.chk u y
   | _,_=>false
  | _=>false
 | .gix g n z _ j=>match op with
  | .indexAddr t (.global h) i=>h==g&&(match P.underlying t with | some (.array m e)=>n==m&&Yb P e==some z | _=>false)&&A.chk i j
  | _=>false
end Go.Ab
namespace Go.Ab
open Go

def Qo (P:Program)(a:Act)(w:World)(ρ:Env)(op:Op)(K Pn:V->Objs->Prop):Prop:=
 ∀(o:Oper),o.op=op->∀(next:Act->World->Prop) (Q:Exit->Act->World->Prop),
  (∀v x ob' w' ρ',K x ob'->x.rep w' ρ' v->OM w' ρ' ob'->Tr w ρ w' ρ'->next (a.put o.dst v) w')->
  (∀u x ob' w' ρ',Pn x ob'->x.rep w' ρ' u->OM w' ρ' ob'->Tr w ρ w' ρ'->Q (.panic [{ v:=u,recovered:=false }]) a w')->
  o.wp P a w next Q

def X9e (P:Program)(a:Act)(w:World)(ρ:Env)(op:Op)(ob:Objs)(K:V->Objs->Prop):Prop:=
 ∃v x w',K x ob/\x.rep w' ρ v/\Ext w w'/\∀(o:Oper),o.op=op->(execOp a.eval o).run P w=.ok (.value v) w'

section
variable {P:Program} {a:Act} {w:World} {ρ:Env} {sl:Xb} {ob:Objs} {K Pn:V->Objs->Prop}

theorem Xl {op:Op}{v:Value}{x:V}{ob':Objs}{w':World}{ρ':Env}(hr:∀o:Oper,o.op=op->(execOp a.eval o).run P w=.ok (.value v) w')
  (hK:K x ob') (h1:x.rep w' ρ' v) (h2:OM w' ρ' ob') (h3:Tr w ρ w' ρ'):Qo P a w ρ op K Pn:=by
 intro o ho next Q hn _
 unfold Oper.wp
 rw[hr o ho]
 exact hn v x ob' w' ρ' hK h1 h2 h3

theorem X9e.does {op:Op}(h:X9e P a w ρ op ob K)(hO:OM w ρ ob):Qo P a w ρ op K Pn:=by
 obtain⟨v,x,w',hK,h1,h2,h3⟩:=h
 exact Xl h3 hK h1 (hO.ext h2) h2.tr

def Xu0 (P:Program)(a:Act)(w:World)(ρ:Env)(op:Op)(ob:Objs)(K:V->Objs->Prop):Prop:=
 ∀(o:Oper),o.op=op->∀(next:Act->World->Prop) (Q:Exit->Act->World->Prop),
  (∀v x w',K x ob->x.rep w' ρ v->Ext w w'->next (a.put o.dst v) w')->o.wp P a w next Q

theorem X9e.doesE {op:Op}(h:X9e P a w ρ op ob K):Xu0 P a w ρ op ob K:=by
 obtain⟨v,x,w',hK,h1,h2,h3⟩:=h
 intro o ho next Q hn
 unfold Oper.wp
 rw[h3 o ho]
 exact hn v x w' hK h1 h2

theorem Xu0.does {op:Op}(h:Xu0 P a w ρ op ob K)(hO:OM w ρ ob):Qo P a w ρ op K Pn:=fun o ho next Q hn _=>
 h o ho next Q fun v x w' hK h1 h2=>hn v x ob w' ρ hK h1 (hO.ext h2) h2.tr

def Xji (P:Program)(a:Act)(w:World)(ρ:Env)(op:Op)(K:V->Objs->Prop):Prop:=
 ∀(o:Oper),o.op=op->∀(next:Act->World->Prop) (Q:Exit->Act->World->Prop),
  (∀v x ob' w' ρ',K x ob'->x.rep w' ρ' v->OM w' ρ' ob'->Tr w ρ w' ρ'->Ext w w'->next (a.put o.dst v) w')->o.wp P a w next Q
theorem Xji.does {op:Op}(h:Xji P a w ρ op K):Qo P a w ρ op K Pn:=fun o ho next Q hn _=>
 h o ho next Q fun v x ob' w' ρ' h0 h1 h2 h3 _=>hn v x ob' w' ρ' h0 h1 h2 h3
theorem Uv {op:Op}{v:Value}{x:V}{ob':Objs}{w':World}{ρ':Env}(hr:∀o:Oper,o.op=op->(execOp a.eval o).run P w=.ok (.value v) w')
  (hK:K x ob') (h1:x.rep w' ρ' v) (h2:OM w' ρ' ob') (h3:Tr w ρ w' ρ') (h4:Ext w w'):Xji P a w ρ op K:=by
 intro o ho next Q hn
 unfold Oper.wp
 rw[hr o ho]
 exact hn v x ob' w' ρ' hK h1 h2 h3 h4

theorem Xae {op:Op}{ob':Objs}{w':World}{ρ':Env}(hr:∀o:Oper,o.op=op->(execOp a.eval o).run P w=.ok .skip w')
  (hK:K .undef ob') (h2:OM w' ρ' ob') (h3:Tr w ρ w' ρ'):Qo P a w ρ op K Pn:=by
 intro o ho next Q hn _
 unfold Oper.wp
 rw[hr o ho]
 exact hn undef .undef ob' w' ρ' hK (Z8.2 rfl) h2 h3

theorem Yfs (hs:SM w ρ sl a)(hO:OM w ρ ob){op:Op}{x:C}(hc:x.chk P op=true)(h:x.wp sl ob (fun v=>K v ob)):Qo P a w ρ op K Pn:=by
 obtain⟨v,y,hK,h1,h2⟩:=C.sound hs hO hc h
 exact Xl (fun o ho=>h2 o ho w (fun _=>Ext.refl w)) hK h1 hO (Tr.refl _ _)

theorem Xjy (hs:SM w ρ sl a)(hO:OM w ρ ob){op:Op}{E:Nat}{x:A}(hc:I.chk P op (.box E x)=true)(h:Xus E ob K (x.ev sl)):Xji P a w ρ op K:=by
 cases op<;>simp[I.chk]at hc
 rename_i E' y
 obtain⟨rfl,hc⟩:=hc
 obtain⟨h2,hK⟩:=h
 have h1:=Yt ob
 have r1:=A.sound hs hc
 have hre:=V1 (V.sto_any h2) r1
 obtain⟨t1,o1,p1⟩:=Xxt hO h1 hre E'
 refine Uv (fun o ho=>?_) hK p1 o1 t1 (V8 w _)
 simp only[execOp,ho,Instr.box,newVar,newRow,Sem.run_bind,run_newObj,Result.andThen_ok,Sem.run_pure,Array.toArray_toList]
 rfl

theorem Xdw (hO:OM w ρ ob){op:Op}{E0:Nat}{z:D}(hc:I.chk P op (.alloc E0 z)=true)(h:Xus E0 ob K (.d z)):Xji P a w ρ op K:=by
 cases op<;>simp only[I.chk,Bool.false_eq_true]at hc
 rename_i E
 simp only[Bool.and_eq_true,beq_iff_eq]at hc
 obtain⟨rfl,hc⟩:=hc
 obtain⟨h2,hK⟩:=h
 have h1:=Yt ob
 cases hz:Q7 P E with
 | none=>simp[hz]at hc
 | some cs=>
  simp only[hz]at hc
  obtain⟨v,e1,_,hzr⟩:=Jn hz
  have hre:(V.d z).repC w ρ cs:=by simp only[V.repC]; exact D.isC_rep z cs hc
  obtain⟨t1,o1,p1⟩:=Xxt hO h1 hre E
  refine Uv (fun o ho=>?_) hK p1 o1 t1 (V8 w _)
  simp only[execOp,ho,Instr.alloc,newVar,newRow,Sem.run_bind,hzr,run_newObj,Result.andThen_ok,Sem.run_pure]
  rw[<-e1,Array.toArray_toList]
  rfl

theorem Ybz (hs:SM w ρ sl a)(hO:OM w ρ ob){op:Op}{n:Nat}{x v:A}(hc:I.chk P op (.st n x v)=true)(h:stK ob n (v.ev sl) K (x.ev sl)):Qo P a w ρ op K Pn:=by
 cases op<;>simp[I.chk]at hc
 rename_i t y u
 obtain⟨⟨hn,h1⟩,h2⟩:=hc
 have r1:=A.sound hs h1
 have r2:=A.sound hs h2
 unfold stK at h
 split at h
 ·rename_i id p e1
  rw[e1]at r1
  unfold stKo at h
  split at h
  ·rename_i E t0 hl
   obtain⟨b,sh,hρ,r1⟩:=rep_ptr_box hO hl r1
   cases hat:t0.at p with
   | none=>simp[hat,X1o]at h
   | some old=>
    simp only[hat,X1o]at h
    obtain⟨hsh,hsz,hst,t',hset,hK⟩:=h
    obtain⟨b',cs,g1,g2,g3⟩:=hO.one id _ hl
    rw[hρ]at g1
    simp only[Option.some.injEq,RO.box.injEq]at g1
    obtain⟨rfl,rfl⟩:=g1
    have hre:=V1 (V.sto_any hst) r2
    obtain⟨t'',e2,e3,h4⟩:=V.repC_set p t0 old _ cs _ g3 hat hre hsh
    rw[hset]at e2
    simp only[Option.some.injEq]at e2
    subst e2
    obtain⟨t1,o1⟩:=write_box hO hl hρ g2 e3 h4
    obtain⟨c1,c2,c3,q1,q2,q3⟩:=V.repC_at p t0 old cs g3 hat
    have hlen:=V.repC_len _ _ hre
    have hl2:=V.repC_len _ _ q3
    refine Xae (fun o ho=>?_) hK o1 t1
    have hsize:(a.eval u).cells.size=n:=by
     rw[<-hsz]; unfold V.size; rw[<-hsh,<-hlen]; simp
    have hrun:=run_storeCells_at (P:=P) b (t0.shape.off p) E (a.eval u).cells.toList 0 cs.toArray w g2 (by
     rw[hlen,hsh,<-hl2,<-q2,q1]; simp) (V.one _ _ hst hre)
    simp only[execOp,ho,Instr.storeAt,Instr.sureAddr,storeVar,r1,Sem.run_bind,Sem.run_pure,Result.andThen_ok,Xo hn,hsize,ne_eq,not_true,if_false]
    rw[hrun]
    simp
  ·exact h.elim
 ·rename_i id m z i f p e1
  rw[e1]at r1
  unfold X2a at h
  split at h
  ·rename_i ox hl
   unfold X5q at h
   split at h
   ·rename_i v0 hel
    obtain⟨⟨hs1,hs2⟩,h⟩:=h
    cases hat:v0.at p with
    | none=>simp[hat,X2b]at h
    | some old=>
     simp only[hat,X2b]at h
     obtain⟨hsh,hsz,hst,t',hset,hK⟩:=h
     obtain⟨b,cap,E,c1,c2,c3,g1,g2,g3,g4,g5⟩:=Xup hO hl hel
     rw[Xlc]at r1
     obtain⟨o,q1,q2⟩:=r1
     rw[g1]at q1
     simp only[Option.some.injEq]at q1
     subst q1
     have r1:=q2.2.2 rfl
     have hre:=V1 (V.sto_any hst) r2
     obtain⟨t'',e2,e3,h4⟩:=V.repC_set p v0 old _ c2 _ g4 hat hre hsh
     rw[hset]at e2
     simp only[Option.some.injEq]at e2
     subst e2
     obtain⟨t1,o1⟩:=g5 t' _ e3 h4
     obtain⟨d1,d2,d3,z1,z2,z3⟩:=V.repC_at p v0 old c2 g4 hat
     have hlen:=V.repC_len _ _ hre
     have hl2:=V.repC_len _ _ z3
     refine Xae (fun o ho=>?_) hK o1 t1
     have hsize:(a.eval u).cells.size=n:=by
      rw[<-hsz]; unfold V.size; rw[<-hsh,<-hlen]; simp
     have eoff:i*z+f=c1.length+v0.shape.off p:=by rw[hs1,hs2,g3]
     have hl3:(a.eval u).cells.toList.length=d2.length:=by rw[hlen,hsh,<-hl2]
     have hrun:=run_storeCells_at (P:=P) b (c1.length+v0.shape.off p) E (a.eval u).cells.toList 0 (c1++(c2++c3)).toArray w g2 (by
      rw[hl3,<-z2,z1]; simp; omega) (V.one _ _ hst hre)
     simp only[execOp,ho,Instr.storeAt,Instr.sureAddr,storeVar,r1,Sem.run_bind,Sem.run_pure,Result.andThen_ok,Xo hn,hsize,ne_eq,not_true,if_false,eoff]
     rw[hrun]
     have e7:(c1++(c2++c3)).take (c1.length+v0.shape.off p)=c1++c2.take (v0.shape.off p):=by
      rw[List.take_length_add_append,List.take_append_of_le_length (by rw[z1,<-z2]; simp)]
     have e8:(c1++(c2++c3)).drop (c1.length+v0.shape.off p+(a.eval u).cells.toList.length)=c2.drop (v0.shape.off p+(a.eval u).cells.toList.length)++c3:=by
      rw[Nat.add_assoc,List.drop_length_add_append,List.drop_append_of_le_length (by rw[z1,<-z2,hl3]; simp)]
     simp only[Sem.run_pure,Result.andThen_ok]
     congr 2
     simp only[Nat.add_zero,List.toList_toArray]at e7 e8⊢
     rw[e7,e8]
     simp only[List.append_assoc]
   ·exact h.elim
  ·exact h.elim
 ·exact h.elim

theorem Xti (hs:SM w ρ sl a)(hO:OM w ρ ob){op:Op}{x:A}(hc:I.chk P op (.panic x)=true)(h:Xa4 ob Pn (x.ev sl)):Qo P a w ρ op K Pn:=by
 cases op<;>simp[I.chk]at hc
 have r1:=A.sound hs hc
 unfold Xa4 at h
 split at h
 ·rename_i t v e1
  rw[e1]at r1
  have r2:=r1
  rw[Wq (by simp[V.isAgg]) (by simp)]at r2
  simp only[V.repC,List.cons.injEq,and_true]at r2
  obtain⟨c,r2,_⟩:=r2
  intro o ho next Q _ hq
  unfold Oper.wp
  have:(execOp a.eval o).run P w=.halt (.panic (.iface t c)) w:=by simp[execOp,ho,Instr.panic,r2]
  rw[this]
  rw[r2]at r1
  exact hq _ _ _ _ _ h r1 hO (Tr.refl _ _)
 ·rename_i t v e1
  rw[e1]at r1
  have r2:=r1
  rw[Xa8]at r2
  obtain⟨c,r2,_⟩:=r2
  intro o ho next Q _ hq
  unfold Oper.wp
  have:(execOp a.eval o).run P w=.halt (.panic (.iface t c)) w:=by simp[execOp,ho,Instr.panic,r2]
  rw[this]
  rw[r2]at r1
  exact hq _ _ _ _ _ h r1 hO (Tr.refl _ _)
 ·exact h.elim

theorem Wl {w:World}{ρ:Env}:∀{xs ys:List V} {us vs:List Value},V.reps w ρ xs us->V.reps w ρ ys vs->V.reps w ρ (xs++ys) (us++vs)
 | [],ys,us,vs,h1,h2=>by simp only[V.reps]at h1; subst h1; simpa using h2
 | x::r,ys,us,vs,h1,h2=>by
  simp only[V.reps]at h1
  obtain⟨u,us',rfl,h3,h4⟩:=h1
  simp only[List.cons_append,V.reps]
  exact⟨u,us'++vs,rfl,h3,Wl h4 h2⟩

theorem Xbp {P:Prg}(hg:ρ.gl=P.g){op:Op}{f:Nat}{vs:List V}{args:List Value}(hr:∀o:Oper,o.op=op->(execOp a.eval o).run P.p w=.ok (.enter f args.toArray) w)
  (h:ACall P f vs ob (Xp0 K Pn)) (hO:OM w ρ ob) (h1:V.reps w ρ vs args):Qo P.p a w ρ op K Pn:=by
 intro o ho next Q hn hq
 unfold Oper.wp
 rw[hr o ho]
 simp only[Oper.upon]
 refine (h.run w ρ args hO hg h1).mono fun e w' ⟨out,ob',ρ',k,r,o1,t1⟩=>?_
 cases e with
 | returned u=>
  cases out with
  | ret v=>exact hn u v ob' w' ρ' k r o1 t1
  | panic v=>exact r.elim
 | panicked ch=>
  cases out with
  | ret v=>exact r.elim
  | panic v=>obtain⟨u,rfl,r⟩:=r; exact hq u v ob' w' ρ' k r o1 t1
 | outgrown=>cases out<;>exact r.elim

theorem Wr {f:Nat}(h:Xk P f=true)(args:Array Value)(w:World):(callFunc f args).run P w=.ok (.enter f args) w:=by
 unfold Xk at h
 split at h
 ·rename_i fn hf
  simp only[Bool.and_eq_true,bne_iff_ne,ne_eq]at h
  obtain⟨b,hb⟩:=Option.isSome_iff_exists.1 h.2
  simp[callFunc,hf,h.1,hb]
 ·simp at h

theorem Xww {P:Prg}(hg:ρ.gl=P.g)(hs:SM w ρ sl a)(hO:OM w ρ ob){op:Op}{f:Nat}{args:List A}(hc:I.chk P.p op (.call f args)=true)(h:ACall P f (args.map (A.ev sl)) ob (Xp0 K Pn)):Qo P.p a w ρ op K Pn:=by
 cases op<;>simp only[I.chk,Bool.false_eq_true]at hc
 rename_i c
 obtain⟨ca,as,ts⟩:=c
 cases ca<;>(try simp only[Bool.false_eq_true]at hc)
 rename_i g
 cases g<;>(try simp only[Bool.false_eq_true]at hc)
 simp only[Bool.and_eq_true,beq_iff_eq]at hc
 obtain⟨⟨rfl,h1⟩,h2⟩:=hc
 refine Xbp hg (args:=as.toList.map a.eval) (fun o ho=>?_) h hO (Vr hs h2)
 have:a.eval (.func f)=.func (.func f) #[] #[]:=rfl
 simp only[execOp,ho,resolve,this,Deferred.ofValue,Sem.run_bind,Sem.run_pure,Result.andThen_ok,invoke,Wr h1,Ww]
 simp

theorem Xdv {P:Prg}(hg:ρ.gl=P.g)(hs:SM w ρ sl a)(hO:OM w ρ ob){op:Op}{f:Nat}{args:List A}(hc:I.chk P.p op (.pcall f args)=true)(h:PCall P f (args.map (A.ev sl)) ob fun v=>K v ob):Xu0 P.p a w ρ op ob K:=by
 cases op<;>simp only[I.chk,Bool.false_eq_true]at hc
 rename_i c
 obtain⟨ca,as,ts⟩:=c
 cases ca<;>(try simp only[Bool.false_eq_true]at hc)
 rename_i g
 cases g<;>(try simp only[Bool.false_eq_true]at hc)
 simp only[Bool.and_eq_true,beq_iff_eq]at hc
 obtain⟨⟨rfl,h1⟩,h2⟩:=hc
 intro o ho next Q hn
 have hrun:(execOp a.eval o).run P.p w=.ok (.enter f (as.toList.map a.eval).toArray) w:=by
  have:a.eval (.func f)=.func (.func f) #[] #[]:=rfl
  simp only[execOp,ho,resolve,this,Deferred.ofValue,Sem.run_bind,Sem.run_pure,Result.andThen_ok,invoke,Wr h1,Ww]
  simp
 unfold Oper.wp
 rw[hrun]
 simp only[Oper.upon]
 refine (h.run w ρ _ hO hg (Vr hs h2)).mono fun e w' ⟨v,u,k,he,r,x⟩=>?_
 subst he
 exact hn u v w' k r x

theorem Xth {P:Prg}(hg:ρ.gl=P.g)(hs:SM w ρ sl a)(hO:OM w ρ ob){op:Op}{x:A}{args:List A}(hc:I.chk P.p op (.callv x args)=true)(h:Qr P (args.map (A.ev sl)) ob K Pn (x.ev sl)):Qo P.p a w ρ op K Pn:=by
 cases op<;>simp only[I.chk,Bool.false_eq_true]at hc
 rename_i c
 obtain⟨ca,as,ts⟩:=c
 cases ca<;>(try simp only[Bool.false_eq_true]at hc)
 rename_i g
 simp only[Bool.and_eq_true]at hc
 obtain⟨h1,h2⟩:=hc
 have r1:=A.sound hs h1
 unfold Qr at h
 split at h
 ·rename_i f fi ca e1
  rw[e1,Xep]at r1
  obtain⟨fs,gs,r1,r2,r3⟩:=r1
  refine Xbp hg (args:=fs++as.toList.map a.eval++gs) (fun o ho=>?_) h.2 hO (Wl (Wl r2 (Vr hs h2)) r3)
  simp only[execOp,ho,resolve,r1,Deferred.ofValue,Sem.run_bind,Sem.run_pure,Result.andThen_ok,invoke,Wr h.1,Ww]
  simp
 ·rename_i f fi ca e1
  rw[e1,Xiy]at r1
  obtain⟨fs,gs,r1,r2,r3⟩:=r1
  refine Xbp hg (args:=fs++as.toList.map a.eval++gs) (fun o ho=>?_) h.2 hO (Wl (Wl r2 (Vr hs h2)) r3)
  simp only[execOp,ho,resolve,r1,Deferred.ofValue,Sem.run_bind,Sem.run_pure,Result.andThen_ok,invoke,Wr h.1,Ww]
  simp
 ·exact h.elim

theorem X3v (hs:SM w ρ sl a)(hO:OM w ρ ob){op:Op}{x:A}(hc:I.chk P op (.mvf x)=true)(h:Xj9 K (V.giv ob (x.ev sl))):Qo P a w ρ op K Pn:=by
 cases hg:V.giv ob (x.ev sl) with
 | none=>simp[hg,Xj9]at h
 | some q=>
  obtain⟨d,ob'⟩:=q
  simp only[hg,Xj9]at h
  cases op<;>simp[I.chk]at hc
  all_goals
   have r1:=A.sound hs hc
   obtain⟨ρ',t1,o1,r2⟩:=Xc3 hO r1 hg
   exact Xl (fun o ho=>by simp[execOp,ho]) h r2 o1 t1

theorem Yby (hs:SM w ρ sl a)(hO:OM w ρ ob){op:Op}{x:A}(hc:I.chk P op (.gv x)=true)(h:Xj9 K (V.gvF 40000 ob (x.ev sl))):Qo P a w ρ op K Pn:=by
 cases hg:V.gvF 40000 ob (x.ev sl) with
 | none=>simp[hg,Xj9]at h
 | some q=>
  obtain⟨d,ob'⟩:=q
  simp only[hg,Xj9]at h
  cases op<;>simp[I.chk]at hc
  all_goals
   have r1:=A.sound hs hc
   obtain⟨ρ',t1,o1,r2⟩:=Yb7 hO r1 hg
   exact Xl (fun o ho=>by simp[execOp,ho]) h r2 o1 t1

theorem X3r (hs:SM w ρ sl a)(hO:OM w ρ ob){op:Op}{n:Nat}{ag:Bool}{x:A}(hc:I.chk P op (.ldf n ag x)=true)(h:X4x n ag ob K (x.ev sl)):Qo P a w ρ op K Pn:=by
 have hc':C.chk P op (.ld n ag x)=true:=hc
 unfold X4x at h
 split at h
 ·rename_i id p e1
  cases hat:atO ob id p with
  | none=>simp[hat,Xmz]at h
  | some v=>
   simp only[hat,Xmz]at h
   obtain⟨h1,h2,h⟩:=h
   cases hg:V.giv ob v with
   | none=>simp[hg,Xj9]at h
   | some q=>
    obtain⟨d,ob'⟩:=q
    simp only[hg,Xj9]at h
    obtain⟨u,y,hy,hr,hrun⟩:=Xdf (K:=fun y=>y=v) hs hO hc' (by rw[e1]; simp only[ldK,hat,Xc5]; exact⟨h1,h2,trivial⟩)
    subst hy
    obtain⟨ρ',t1,o1,r2⟩:=Xc3 hO hr hg
    exact Xl (fun o ho=>hrun o ho w (fun _=>Ext.refl w)) h r2 o1 t1
 ·exact h.elim

theorem X3s (hs:SM w ρ sl a)(hO:OM w ρ ob){op:Op}{n:Nat}{ag:Bool}{x:A}(hc:I.chk P op (.ldg n ag x)=true)(h:X6q n ag ob K (x.ev sl)):Qo P a w ρ op K Pn:=by
 cases op<;>simp[I.chk]at hc
 rename_i t y
 obtain⟨⟨⟨hn,hu⟩,hag⟩,h1⟩:=hc
 have r1:=A.sound hs h1
 unfold X6q at h
 split at h
 ·rename_i id p e1
  rw[e1]at r1
  cases hat:atO ob id p with
  | none=>simp[hat,Xty]at h
  | some v=>
   simp only[hat,Xty]at h
   obtain⟨h2,h3,h⟩:=h
   cases hg:V.gvF 40000 ob v with
   | none=>simp[hg,Xtx]at h
   | some q=>
    obtain⟨d,ob1⟩:=q
    simp only[hg,Xtx]at h
    obtain⟨hsh,h⟩:=h
    obtain⟨t0,b',cs,E,g1,g2,g3,g4,g5⟩:=Js hO hat
    obtain⟨b,sh,hρ,r1⟩:=rep_ptr_box hO g1 r1
    rw[hρ]at g3
    simp only[Option.some.injEq,RO.box.injEq]at g3
    obtain⟨rfl,rfl⟩:=g3
    obtain⟨c1,c2,c3,e2,e3,h4⟩:=V.repC_at p t0 v cs g5 g2
    obtain⟨⟨ρ',t1,o1,hx,hxa⟩,hk⟩:=Xao 40000 v ob ρ c2 d ob1 hO h4 hg
    have hlk:lookO ob1 id=some (.box E t0):=by
     rcases hk id with h5 | h5
     ·rw[h5,g1]
     ·rw[h5]at h; exact h.elim
    rw[hlk]at h
    simp only[Xxv]at h
    obtain⟨t',hset,hK⟩:=h
    have hρ':ρ'.m id=some (.box b t0.shape):=by
     obtain⟨o',p1,p2⟩:=t1.same id _ hρ
     obtain⟨b2,cs2,q1,_⟩:=o1.one id _ hlk
     rw[p1]at q1
     cases p2 with
     | refl=>exact p1
     | gone=>cases q1
     | grow _ hh=>rcases hh with⟨hq,_⟩ | ⟨_,_,hq⟩<;>cases hq
    have g5':=V.repC_tr t1 _ _ g5
    obtain⟨t'',e4,e5,h6⟩:=V.repC_set p t0 v (.d d) cs c2 g5' g2 (by simpa only[V.repC]using hx) (by simpa only[V.shape]using hsh)
    rw[hset]at e4
    simp only[Option.some.injEq]at e4
    subst e4
    have e7:cs.take (t0.shape.off p)++(c2++cs.drop (t0.shape.off p+c2.length))=cs:=by
     rw[<-e3,e2]; simp
    rw[e7]at h6
    have o2:=o1.swap hlk (x':=.box E t') ⟨b,cs,by rw[e5]; exact hρ',g4,h6⟩
    have hl:c2.length=n:=by rw[V.repC_len _ _ h4,<-h2]; rfl
    have hrun:=Xr6 (P:=P) (t:=t) (n:=n) hn hu (b:=b) (off:=t0.shape.off p) (cs:=c2) hl (w':=w) (fun i hi=>by
     rw[<-e3]
     simp[World.cell?,g4,e2,List.getElem?_append,hi]) (fun h4=>by rw[hag]at h4; rw[h4]at h3; rw[<-h2]; exact V6 h3)
    have hre:=Q2 (w:=w) (ρ:=ρ') (v:=.d d) (cs:=c2) (by simpa only[V.repC]using hx)
    have hda:(V.d d).isAgg=ag:=by
     rw[<-h3,<-hxa]; cases d<;>rfl
    rw[hda]at hre
    refine Xl (fun o ho=>?_) hK hre o2 t1
    simp only[execOp,ho,r1,Sem.run_bind,hrun,Result.andThen_ok,Sem.run_pure,hag]
 ·exact h.elim

theorem Xse (hO:OM w ρ ob){E sz:Nat}{y x:V}{p:List Nat}(h:Xl1 ob E sz p y K x):∃ρ' ob',Tr w ρ w ρ'/\OM w ρ' ob'/\K y ob':=by
 unfold Xl1 at h
 split at h
 ·rename_i id q
  unfold Xe7 at h
  split at h
  ·rename_i E0 t hl
   rcases h with⟨hat,h⟩ | ⟨_,h⟩
   case inr=>exact⟨ρ,ob,Tr.refl w ρ,hO,h⟩
   obtain⟨b,cs,g1,g2,g3⟩:=hO.one id _ hl
   have hne:id ≠ fresh ob:=by intro e; subst e; rw[Yt]at hl; cases hl
   have hbl:∀b,RO.virt.blk? = some b->w.heap.size<=b:=fun b hb=>by simp[RO.blk?]at hb
   have t1:=Xaq w (Ext.refl w) (o:=.virt) (hO.free (Yt ob)) hbl
   have o1:OM w (ρ.ins (fresh ob) .virt) ((fresh ob,.arr E sz [])::ob):=hO.ins (Ext.refl w) (Yt ob) hbl (.inl ⟨by simp[Env.ins],rfl⟩)
   have g3':=V.repC_tr t1 _ _ g3
   obtain⟨c1,c2,c3,e2,e3,h4⟩:=V.repC_at (q++p) t (.d .nils) cs g3' hat
   simp only[V.repC,D.rep]at h4
   subst h4
   obtain⟨t',e4,e5,h6⟩:=V.repC_set (q++p) t (.d .nils) (.sl (fresh ob) 0) cs [.slice none 0 0] g3' hat (by simp only[V.repC]; exact⟨.virt,_,by simp[Env.ins],rfl,rfl,rfl⟩) (by simp[V.shape,D.shape])
   rw[e4]at h
   simp only[Xks]at h
   have e7:cs.take (t.shape.off (q++p))++([Value.slice none 0 0]++cs.drop (t.shape.off (q++p) + [Value.slice none 0 0].length))=cs:=by
    rw[<-e3,e2]; simp
   rw[e7]at h6
   have hl1:lookO ((fresh ob,Ob.arr E sz [])::ob) id=some (.box E0 t):=by simp[lookO,hne.symm,hl]
   obtain⟨t2,o2⟩:=write_box o1 (t':=t') hl1 (by simp[Env.ins,hne,g1]) g2 e5 h6
   have hw:w.setRow b cs.toArray=w:=by
    have:w.heap[b]? = some (.cells cs.toArray E0 (0,0)):=g2
    obtain⟨hb,hb'⟩:=Array.getElem?_eq_some_iff.1 this
    unfold World.setRow
    have hh:(w.heap.modify b fun o=>match o with | .cells _ e f=>.cells cs.toArray e f | o=>o)=w.heap:=by
     apply Array.ext_getElem?
     intro j
     rw[Array.getElem?_modify]
     split
     ·rename_i e; subst e; rw[this]; simp
     ·rfl
    cases w
    simp only[World.mk.injEq,and_true,true_and]
    exact hh
   rw[hw]at t2 o2
   simp only[setO,hne.symm,if_false]at o2
   exact⟨_,_,t1,o2,h⟩
  ·exact h.elim
 ·exact h.elim

theorem Xsf {y x:V}:∀{l:List (Nat×Nat×List Nat)} {ρ ob},OM w ρ ob->X6x y K x l ob->∃ρ' ob',Tr w ρ w ρ'/\OM w ρ' ob'/\K y ob'
 | [],ρ,ob,hO,h=>⟨ρ,ob,Tr.refl w ρ,hO,h⟩
 | e::l,ρ,ob,hO,h=>by
  obtain⟨ρ1,ob1,t1,o1,h1⟩:=Xse hO h
  obtain⟨ρ2,ob2,t2,o2,h2⟩:=Xsf o1 h1
  exact⟨ρ2,ob2,t1.trans t2,o2,h2⟩

theorem X3w (hs:SM w ρ sl a)(hO:OM w ρ ob){op:Op}{E sz:Nat}{y x:A}{p:List Nat}(hc:I.chk P op (.mvg E sz y x p)=true)(h:Xl1 ob E sz p (y.ev sl) K (x.ev sl)):Qo P a w ρ op K Pn:=by
 obtain⟨ρ',ob',t1,o1,h1⟩:=Xse hO h
 cases op<;>simp[I.chk]at hc
 all_goals
  have r1:=A.sound hs hc
  exact Xl (fun o ho=>by simp[execOp,ho]) h1 (V.rep_tr t1 r1) o1 t1

theorem X3x (hs:SM w ρ sl a)(hO:OM w ρ ob){op:Op}{y x:A}{l:List (Nat×Nat×List Nat)}(hc:I.chk P op (.mvn y x l)=true)(h:X6x (y.ev sl) K (x.ev sl) l ob):Qo P a w ρ op K Pn:=by
 obtain⟨ρ',ob',t1,o1,h1⟩:=Xsf hO h
 cases op<;>simp[I.chk]at hc
 all_goals
  have r1:=A.sound hs hc
  exact Xl (fun o ho=>by simp[execOp,ho]) h1 (V.rep_tr t1 r1) o1 t1
end
end Go.Ab
namespace Go.Ab
open Go
section
variable {P:Program} {a:Act} {w:World} {ρ:Env} {sl:Xb} {ob:Objs} {K Pn:V->Objs->Prop}

theorem Xqc (hs:SM w ρ sl a){z:List D}{Xx:List (Nat×A)}{t e:TypeId}{len sz:Nat}{ps:Array (Nat×Operand)}{K:List V->Prop}(hst:P.underlying t=some (.slice e))(he:Yb P e=some sz)
  (hp:Vc ps.toList Xx=true) (hl:z.length=len) (h24:len*sz<=2 ^ 24) (hu:∀x∈z,x.sz=sz) (hz:(match Xez P e len sz with | some cs=>D.isCs z cs | none=>false)=true)
  (h:J9 (z.map .d) (Xx.map fun (i,x)=>(i,x.ev sl)) K) :
  ∃ks cs,K ks/\V.repCs w ρ ks cs/\ks.map V.shape=(z.map V.d).map V.shape/\∀o:Oper,o.op=.buildSlice t len ps->(execOp a.eval o).run P w=.ok (.value (.slice (some ⟨w.heap.size,0,none⟩) len len)) (Xjm w (.cells cs.toArray e)):=by
 cases hzr:Xez P e len sz with
 | none=>simp[hzr]at hz
 | some cs=>
  simp only[hzr]at hz
  have hrep:V.repCs w ρ (z.map .d) cs:=(V.repCs_d z cs).2 (D.isCs_rep z cs hz)
  have hplace:∀i,i<((z.map V.d).map V.shape).length->(fun i=>some (i*sz,sz)) i=some (Sh.sizes (((z.map V.d).map V.shape).take i),(((z.map V.d).map V.shape).getD i .leaf).size):=by
   intro i hi
   have hi':i<z.length:=by simpa using hi
   have hx:z[i].shape.size=sz:=by rw[D.size_shape]; exact hu _ (List.getElem_mem hi')
   rw[<-Xsz,D.szs_uniform (sz:=sz) _ (fun x hx=>hu x (List.mem_of_mem_take hx)),List.length_take,Nat.min_eq_left (by omega)]
   simp[hi',V.shape,hx]
  have hkeep:∀(ks:List V) (ps:List (Nat×V)) (K:List V->Prop),J9 ks ps K->J9 ks ps (fun ks'=>K ks'/\ks'.map V.shape=ks.map V.shape):=by
   intro ks ps
   induction ps generalizing ks with
   | nil=>intro K h; exact⟨h,rfl⟩
   | cons p r ih=>
    obtain⟨i,v⟩:=p
    intro K h
    simp only[J9]at h⊢
    obtain⟨h1,h2,h3,h4⟩:=h
    refine⟨h1,h2,h3,?_⟩
    have h5:=ih (ks.set i v) K h4
    have e:(ks.set i v).map V.shape=ks.map V.shape:=by
     rw[List.map_set,h2]
     apply List.ext_getElem?
     intro j
     by_cases hj:i=j
     ·subst hj; rw[List.getElem?_set]; simp[h1]
     ·rw[List.getElem?_set]; simp[hj]
    rw[e]at h5
    exact h5
  obtain⟨ks',cs',⟨hK,hsh⟩,hR,hF⟩:=Xgz (sl:=sl) hs (fun i=>some (i*sz,sz)) ((z.map V.d).map V.shape) hplace ps.toList Xx (z.map .d) cs _ hp hrep rfl (hkeep _ _ _ h)
  refine⟨ks',cs',hK,hR,hsh,fun o ho=>?_⟩
  have hparts:∀ρ':Operand->Value,(ps.map fun (i,x)=>(i,ρ' x)).toList=ps.toList.map fun (i,x)=>(i,ρ' x):=fun ρ'=>by simp
  simp only[execOp,ho,Instr.buildSlice,Sem.run_bind,Xa hst,Xo he,Result.andThen_ok,hparts]
  rw[if_neg (by omega)]
  unfold Xez at hzr
  by_cases h0:len*sz=0
  ·simp only[h0,if_true,Option.some.injEq]at hzr
   subst hzr
   simp only[h0,if_true,Sem.run_pure]
   have:(Array.map (fun x=>(#[]:Array Value)[x % (#[]:Array Value).size]!) (Array.range 0))=([]:List Value).toArray:=by simp
   simp only[this,hF,newRow,Sem.run_bind,run_newObj,Result.andThen_ok,Sem.run_pure]
   rfl
  ·simp only[h0,if_false]at hzr⊢
   cases hzt:Q7 P e with
   | none=>simp[hzt]at hzr
   | some zc=>
    simp only[hzt,Option.map_some,Option.some.injEq]at hzr
    obtain⟨zv,e1,_,hzrun⟩:=Jn hzt
    have e2:zv.cells=zc.toArray:=by rw[<-e1]
    have e3:Array.map (fun x=>zv.cells[x % zv.cells.size]!) (Array.range (len*sz))=cs.toArray:=by
     rw[e2,<-hzr,Array.toArray_toList]
    simp only[Sem.run_bind,hzrun,Result.andThen_ok,Sem.run_pure,e3,hF,newRow,run_newObj]
    rfl

theorem Xcn {l z:List D}{sz:Nat}(h:(l.map V.d).map V.shape=(z.map V.d).map V.shape)(hu:∀x∈z,x.sz=sz):l.length=z.length/\∀x∈l,x.sz=sz:=by
 have hlen:l.length=z.length:=by simpa using congrArg List.length h
 refine⟨hlen,fun x hx=>?_⟩
 obtain⟨i,hi,rfl⟩:=List.getElem_of_mem hx
 have h1:=congrArg (fun s:List Sh=>(s.getD i .leaf).size) h
 simp only[List.getD_eq_getElem?_getD,List.getElem?_map,List.getElem?_eq_getElem hi,List.getElem?_eq_getElem (hlen▸hi),Option.map_some,Option.getD_some,V.shape,D.size_shape]at h1
 rw[h1]; exact hu _ (List.getElem_mem _)

theorem Xml {z:List D}{Xx:List (Nat×A)}{op:Op}{sz:Nat}{E? : Option Nat}
  (hc:Xjv P op E? sz z Xx=true) :
  ∃t len ps e,op=.buildSlice t len ps/\P.underlying t=some (.slice e)/\(∀E,E? = some E->e=E)/\Yb P e=some sz/\Vc ps.toList Xx=true/\z.length=len/\len*sz<=2 ^ 24/\(∀x∈z,x.sz=sz)/\(match Xez P e len sz with | some cs=>D.isCs z cs | none=>false)=true:=by
 cases op<;>simp only[Xjv,Bool.false_eq_true]at hc
 rename_i t len ps
 simp only[Bool.and_eq_true]at hc
 obtain⟨hp,hc⟩:=hc
 split at hc
 ·rename_i e hst
  simp only[Bool.and_eq_true,beq_iff_eq,decide_eq_true_eq,List.all_eq_true]at hc
  obtain⟨⟨⟨⟨⟨h0,h1⟩,h2⟩,h3⟩,h4⟩,h5⟩:=hc
  refine⟨t,len,ps,e,rfl,hst,fun E hE=>?_,h1,hp,h2,h3,h4,h5⟩
  subst hE; simpa using h0
 ·simp at hc

theorem Xq8 (hs:SM w ρ sl a)(hO:OM w ρ ob){op:Op}{sz:Nat}{z:List D}{Xx:List (Nat×A)}(hc:I.chk P op (.bls sz z Xx)=true)
  (h:J9 (z.map .d) (Xx.map fun (i,x)=>(i,x.ev sl)) fun ks=>dK (fun l=>K (.d (.list sz l)) ob) (V.allD ks)):X9e P a w ρ op ob K:=by
 obtain⟨t,len,ps,e,rfl,hst,_,he,hp,hl,h24,hu,hz⟩:=Xml (P:=P) (op:=op) (z:=z) (Xx:=Xx) (sz:=sz) (E?:=none) hc
 obtain⟨ks,cs,hK,hR,hsh,hrun⟩:=Xqc hs hst he hp hl h24 hu hz h
 cases ha:V.allD ks with
 | none=>simp[ha,dK]at hK
 | some l=>
  simp only[ha,dK]at hK
  have e1:=V.allD_map ha
  subst e1
  rw[V.repCs_d]at hR
  obtain⟨g1,g2⟩:=Xcn hsh hu
  have he2:=V8 w (.cells cs.toArray e)
  refine⟨_,_,_,hK,Yy.2 (.inr ⟨_,len,cs,by rw[g1,hl],by omega,?_,D.repL_mono (he2.tr (ρ:=ρ)).mono _ _ hR,g2⟩),he2,hrun⟩
  refine⟨fun _=>⟨rfl,?_,?_⟩,fun i hi=>?_⟩
  ·rintro (⟨id,o,h1,h2⟩ | h1)
   ·have:=Q0 hO h1 h2; simp at this
   ·have:=hO.xlt _ h1; simp at this
  ·have:=Ut w (.cells cs.toArray e); exact Xn this
  ·simp[World.cell?,Ut,hi]

theorem Xjw (hs:SM w ρ sl a)(hO:OM w ρ ob){op:Op}{E sz:Nat}{z:List D}{Xx:List (Nat×A)}(hc:I.chk P op (.blo E sz z Xx)=true)
  (h:J9 (z.map .d) (Xx.map fun (i,x)=>(i,x.ev sl)) fun ks=>dK (fun l=>K (.sl (fresh ob) l.length) ((fresh ob,.arr E sz l)::ob)) (V.allD ks)):Xji P a w ρ op K:=by
 have hfree:=Yt ob
 obtain⟨t,len,ps,e,rfl,hst,hE,he,hp,hl,h24,hu,hz⟩:=Xml (P:=P) (op:=op) (z:=z) (Xx:=Xx) (sz:=sz) (E?:=some E) hc
 obtain rfl:=hE E rfl
 obtain⟨ks,cs,hK,hR,hsh,hrun⟩:=Xqc hs hst he hp hl h24 hu hz h
 cases ha:V.allD ks with
 | none=>simp[ha,dK]at hK
 | some l=>
  simp only[ha,dK]at hK
  have e1:=V.allD_map ha
  subst e1
  rw[V.repCs_d]at hR
  obtain⟨g1,g2⟩:=Xcn hsh hu
  have he2:=V8 w (.cells cs.toArray e)
  have hbl:∀b,(RO.arr w.heap.size l.length l.length).blk? = some b->w.heap.size<=b:=fun b hb=>by simp[RO.blk?]at hb; omega
  have t1:=Xaq _ he2 (o:=.arr w.heap.size l.length l.length) (hO.free hfree) hbl
  refine Uv hrun hK (Y2.2 ⟨_,by simp[Env.ins]; rfl,?_⟩) (hO.ins he2 hfree hbl ?_) t1 he2
  ·simp only[RO.slice]
   exact⟨Nat.le_refl _,⟨_,_,_,rfl⟩,fun _=>by rw[g1,hl]⟩
  ·refine .inr ⟨w.heap.size,l.length,cs,[],by simp[Env.ins],by simpa using Ut w (.cells cs.toArray e),D.repL_mono t1.mono _ _ hR,g2,?_⟩
   rw[List.append_nil,D.repL_len _ _ hR,D.szs_uniform _ g2]

theorem Xfa {l:List V}{z:List D}{sz:Nat}(h:l.map V.shape=(z.map V.d).map V.shape)(hu:∀x∈z,x.sz=sz):l.length=z.length/\∀x∈l,x.size=sz:=by
 have hlen:l.length=z.length:=by simpa using congrArg List.length h
 refine⟨hlen,fun x hx=>?_⟩
 obtain⟨i,hi,rfl⟩:=List.getElem_of_mem hx
 have h1:=congrArg (fun s:List Sh=>(s.getD i .leaf).size) h
 simp only[List.getD_eq_getElem?_getD,List.getElem?_map,List.getElem?_eq_getElem hi,List.getElem?_eq_getElem (hlen▸hi),Option.map_some,Option.getD_some,V.shape,D.size_shape]at h1
 unfold V.size
 rw[h1]; exact hu _ (List.getElem_mem _)
theorem Xjx (hs:SM w ρ sl a)(hO:OM w ρ ob){op:Op}{E sz:Nat}{z:List D}{Xx:List (Nat×A)}(hc:I.chk P op (.blv E sz z Xx)=true)
  (h:J9 (z.map .d) (Xx.map fun (i,x)=>(i,x.ev sl)) fun ks=>K (.sl (fresh ob) ks.length) ((fresh ob,.vec E sz ks)::ob)):Xji P a w ρ op K:=by
 have hfree:=Yt ob
 obtain⟨t,len,ps,e,rfl,hst,hE,he,hp,hl,h24,hu,hz⟩:=Xml (P:=P) (op:=op) (z:=z) (Xx:=Xx) (sz:=sz) (E?:=some E) hc
 obtain rfl:=hE E rfl
 obtain⟨ks,cs,hK,hR,hsh,hrun⟩:=Xqc hs hst he hp hl h24 hu hz h
 obtain⟨g1,g2⟩:=Xfa hsh hu
 have he2:=V8 w (.cells cs.toArray e)
 have hbl:∀b,(RO.arr w.heap.size ks.length ks.length).blk? = some b->w.heap.size<=b:=fun b hb=>by simp[RO.blk?]at hb; omega
 have t1:=Xaq _ he2 (o:=.arr w.heap.size ks.length ks.length) (hO.free hfree) hbl
 refine Uv hrun hK (Y2.2 ⟨_,by simp[Env.ins]; rfl,?_⟩) (hO.ins he2 hfree hbl ?_) t1 he2
 ·simp only[RO.slice]
  exact⟨Nat.le_refl _,⟨_,_,_,rfl⟩,fun _=>by rw[g1,hl]⟩
 ·refine .inr ⟨w.heap.size,ks.length,cs,[],by simp[Env.ins],by simpa using Ut w (.cells cs.toArray e),V.repCs_tr t1 _ _ hR,g2,?_⟩
  rw[List.append_nil,V.repCs_len _ _ hR,V.shapes_eq,X4 (z:=sz) _ g2]

theorem Xc4 (hO:OM w ρ ob){id:Nat}{x x':Ob}{o:RO}{w':World}(hl:lookO ob id=some x)(t:Tr w ρ w' (ρ.ins id o))(hx:Xdi w' (ρ.ins id o) id x')
  (hb:∀b,o.blk? = some b->w.heap.size<=b\/∃p,ρ.m id=some p/\p.blk? = some b) (hk:∀j p b,j ≠ id->ρ.m j=some p->p.blk? = some b->w'.heap[b]? = w.heap[b]?):OM w' (ρ.ins id o) (setO ob id x'):=by
 refine⟨fun j y hy=>?_,fun j p hj=>?_,fun i j p q b h1 h2 h3 h4=>?_,fun b hb=>Nat.lt_of_lt_of_le (hO.xlt b hb) t.size,Xdz t hO.glb,fun b h1 h2=>?_,hO.once.set⟩
 ·rw[Xj ob id j ⟨_,hl⟩]at hy
  split at hy
  ·rename_i e; subst e; simp at hy; subst hy; exact hx
  ·rename_i e
   exact Xdi.tr t (hO.one j y hy) (by simp[Env.ins,e]) (fun b p h1 h2=>hk j p b e h1 h2)
 ·rw[Xj ob id j ⟨_,hl⟩]
  split
  ·exact⟨_,rfl⟩
  ·rename_i e; exact hO.dom j p (by simpa[Env.ins,e]using hj)
 ·simp only[Env.ins]at h1 h2
  split at h1
  ·rename_i e1
   split at h2
   ·rename_i e2; exact e1.trans e2.symm
   ·simp at h1; subst h1
    rcases hb b h3 with h5 | ⟨r,h5,h6⟩
    ·have:=Q0 hO h2 h4; omega
    ·subst e1; exact hO.inj _ _ _ _ _ h5 h2 h6 h4
  ·split at h2
   ·rename_i e2
    simp at h2; subst h2
    rcases hb b h4 with h5 | ⟨r,h5,h6⟩
    ·have:=Q0 hO h1 h3; omega
    ·subst e2; exact hO.inj _ _ _ _ _ h1 h5 h3 h6
   ·exact hO.inj i j p q b h1 h2 h3 h4
 ·obtain⟨i,p,h3,h4⟩:=h1
  simp only[Env.ins]at h3 h2
  split at h3
  ·simp at h3; subst h3
   rcases hb b h4 with h5 | ⟨r,h5,h6⟩
   ·have:=hO.xlt b h2; omega
   ·exact hO.xdis b ⟨_,r,h5,h6⟩ h2
  ·exact hO.xdis b ⟨i,p,h3,h4⟩ h2
end
end Go.Ab
namespace Go.Ab
open Go
section
variable {P:Program} {a:Act} {w:World} {ρ:Env} {sl:Xb} {ob:Objs} {K Pn:V->Objs->Prop}

theorem Y1 {id:Nat}{o:RO}:(ρ.ins id o).m id=some o:=by simp[Env.ins]

theorem Xkd (n:Nat):∀(r c:Nat),c<=2*n+192->Builtin.growBy n r c<=2*n+192
 | 0,c,h=>by simpa[Builtin.growBy]using h
 | r+1,c,h=>by
  simp only[Builtin.growBy]
  split
  ·exact h
  ·exact Xkd n r _ (by omega)

theorem Xt4 {need cap:Nat}(h:cap<need):Builtin.nextslicecap need cap<=2*need+192:=by
 unfold Builtin.nextslicecap
 split
 ·omega
 ·split
  ·omega
  ·exact Xkd need 4 cap (by omega)

theorem X1n {sz:Nat}{v:V}{x:Value}{K:List D->Prop}(hv:v.rep w ρ x)(h:X1m sz K v) :
  ∃ys vs,K ys/\D.repL w (own ρ) ys vs/\(∀y∈ys,y.sz=sz)/\(∀w',(Builtin.lenOf x).run P w'=.ok ys.length w')/\∀w',w'.heap=w.heap->(Builtin.firstCells sz ys.length x).run P w'=.ok vs.toArray w':=by
 unfold X1m at h
 split at h
 ·rename_i z ys
  obtain⟨rfl,h⟩:=h
  rw[Yy]at hv
  rcases hv with⟨rfl,rfl⟩ | ⟨ad,cap,vs,rfl,hcap,hce,hre,hu⟩
  ·exact⟨[],[],h,by simp[D.repL],by simp,fun w'=>by simp[Builtin.lenOf],fun w' _=>by simp[Builtin.firstCells]⟩
  ·refine⟨ys,vs,h,hre,hu,fun w'=>by simp[Builtin.lenOf],fun w' hw=>?_⟩
   have hl:vs.length=ys.length*z:=by rw[D.repL_len _ _ hre,D.szs_uniform _ hu]
   simp only[Builtin.firstCells,<-hl]
   exact run_loadCells_list w' ad vs (fun j u hj=>by
    obtain⟨hj',e⟩:=List.getElem?_eq_some_iff.1 hj
    have hne:vs ≠ []:=by intro h; simp[h]at hj'
    rw[Addr.add_eq (hce.1 hne).1,cell?_congr (w:=w) (w':=w') (by rw[hw]),<-e]
    exact hce.2 j hj')
 ·rw[Vg]at hv
  subst hv
  exact⟨[],[],h,by simp[D.repL],by simp,fun w'=>by simp[Builtin.lenOf],fun w' _=>by simp[Builtin.firstCells]⟩
 ·exact h.elim

structure AppT (P:Program)(t t2 E sz B:Nat):Prop where
 u1:P.underlying t=some (.slice E)
 u2:(∃e,P.underlying t2=some (.slice e))\/P.underlying t2=some .string
 info:∃i z,P.info? E=some i/\i.size=sz/\i.bytes=B/\i.zero=some z/\z.cells.size=sz
 b0:B ≠ 0
 s0:sz ≠ 0

theorem Xre {t t2 ty E sz B:Nat}(T:AppT P t t2 E sz B){base:Option Addr}{sLen sCap n:Nat}{x:Value}{cs vs:List Value}
  (hx:∀w',(Builtin.lenOf x).run P w'=.ok n w') (hf:∀w',w'.heap=w.heap->(Builtin.firstCells sz n x).run P w'=.ok vs.toArray w')
  (ho:∀w',w'.heap=w.heap->(Builtin.firstCells sz sLen (.slice base sLen sCap)).run P w'=.ok cs.toArray w') (hneed:sCap<sLen+n) (hB:(2*(sLen+n)+192)*B<=281474976710656) :
  ∃newCap rest,sLen+n<=newCap/\rest.length=(newCap-(sLen+n))*sz/\
   (Builtin.append_ #[t,t2] ty #[.slice base sLen sCap,x]).run P w=.ok (.slice (some ⟨w.heap.size,0,none⟩) (sLen+n) newCap) (Xjm { w with drawn:=w.drawn+1 } (.cells ((cs++vs)++rest).toArray E)):=by
 obtain⟨i,z,hi,h1,h2,h3,h4⟩:=T.info
 have hsz:Yb P E=some sz:=by simp[Yb,hi,h1]
 have hti:∀w',(typeInfo E).run P w'=.ok i w':=fun w'=>by simp[typeInfo,hi]
 have hzv:∀w',(zeroValue E).run P w'=.ok z w':=fun w'=>by simp[zeroValue,typeInfo,hi,h3]
 have hcap:=Xt4 hneed
 have hle:Builtin.nextslicecap (sLen+n) sCap*B<=281474976710656:=Nat.le_trans (Nat.mul_le_mul_right B hcap) hB
 have hq:(Question.appendCap (sLen+n) sCap E).forced=false:=rfl
 refine⟨(Question.appendCap (sLen+n) sCap E).cut (w.tape w.drawn (.appendCap (sLen+n) sCap E)),(Builtin.zeroCells z.cells ((Question.appendCap (sLen+n) sCap E).cut (w.tape w.drawn (.appendCap (sLen+n) sCap E))-(sLen+n))).toList,?_,?_,?_⟩
 ·simp[Question.cut]
 ·simp[Builtin.zeroCells,h4]
 ·generalize hc:(Question.appendCap (sLen+n) sCap E).cut (w.tape w.drawn (.appendCap (sLen+n) sCap E))=newCap
  unfold Builtin.append_
  have e0:(#[t,t2]:Array TypeId)[0]? = some t:=rfl
  have e1:(#[t,t2]:Array TypeId)[1]? = some t2:=rfl
  rcases T.u2 with⟨e2,u2⟩ | u2
  all_goals
   simp only[e0,e1,List.getElem?_toArray,List.getElem?_cons_zero,List.getElem?_cons_succ,Sem.run_bind,Xa T.u1,Xa u2,Result.andThen_ok,Xo hsz,Sem.run_pure,hx,Bool.false_eq_true,if_false,Bool.not_false,if_true]
   rw[if_neg (by omega)]
   have hb:¬(Builtin.nextslicecap (sLen+n) sCap*B > 2 ^ 48):=by omega
   simp only[hb,T.b0,or_self,and_false,if_false,Sem.run_bind,run_choose,hq,Bool.false_eq_true,hc,Result.andThen_ok,run_askRoom,hti,h2,ho { w with drawn:=w.drawn+1 } rfl,hf { w with drawn:=w.drawn+1 } rfl,hzv,newRow,run_newObj,Sem.run_pure]
   have e3:(cs.toArray++vs.toArray)++Builtin.zeroCells z.cells (newCap-(sLen+n))=((cs++vs)++(Builtin.zeroCells z.cells (newCap-(sLen+n))).toList).toArray:=by apply Array.ext'; simp
   rw[e3]
   rfl

theorem Xrg {t t2 ty E sz B:Nat}(T:AppT P t t2 E sz B){b sLen sCap n:Nat}{x:Value}{cs sp vs:List Value}
  (hx:∀w',(Builtin.lenOf x).run P w'=.ok n w') (hf:∀w',w'.heap=w.heap->(Builtin.firstCells sz n x).run P w'=.ok vs.toArray w')
  (hb:w.heap[b]? = some (.cells (List.toArray (cs++sp)) E (0,0))) (hcs:cs.length=sLen*sz) (hvs:vs.length=n*sz) (hlen:(cs++sp).length=sCap*sz) (hone:∀v∈vs,v.oneCell'=true) (hneed:sLen+n<=sCap) :
  (Builtin.append_ #[t,t2] ty #[.slice (some ⟨b,0,none⟩) sLen sCap,x]).run P w=.ok (.slice (some ⟨b,0,none⟩) (sLen+n) sCap) (w.setRow b ((cs++vs)++sp.drop vs.length).toArray):=by
 obtain⟨i,z,hi,h1,h2,h3,h4⟩:=T.info
 have hsz:Yb P E=some sz:=by simp[Yb,hi,h1]
 unfold Builtin.append_
 have e0:(#[t,t2]:Array TypeId)[0]? = some t:=rfl
 have e1:(#[t,t2]:Array TypeId)[1]? = some t2:=rfl
 have hsum:sLen*sz+n*sz<=sCap*sz:=by rw[<-Nat.add_mul]; exact Nat.mul_le_mul_right sz hneed
 have hrun:=run_storeCells_at (P:=P) b (sLen*sz) E vs 0 (cs++sp).toArray w hb (by rw[hvs,List.size_toArray,hlen]; omega) hone
 have hadd:(⟨b,0,none⟩:Addr).add (sLen*sz)=⟨b,sLen*sz,none⟩:=by rw[Addr.add_eq rfl]; simp
 rcases T.u2 with⟨e2,u2⟩ | u2
 all_goals
  simp only[e0,e1,List.getElem?_toArray,List.getElem?_cons_zero,List.getElem?_cons_succ,Sem.run_bind,Xa T.u1,Xa u2,Result.andThen_ok,Xo hsz,Sem.run_pure,hx,Bool.false_eq_true,if_false,Bool.not_false,if_true]
  rw[if_pos hneed]
  simp only[Sem.run_bind,hf w rfl,Result.andThen_ok,hadd,hrun,Sem.run_pure]
  congr 3
  rw[Nat.add_zero,<-hcs]
  simp[List.drop_append]

theorem Xrf {t t2 ty E sz B:Nat}(T:AppT P t t2 E sz B){x:Value}
  (hx:∀w',(Builtin.lenOf x).run P w'=.ok 0 w') (hf:∀w',w'.heap=w.heap->(Builtin.firstCells sz 0 x).run P w'=.ok #[] w') :
  (Builtin.append_ #[t,t2] ty #[.slice none 0 0,x]).run P w=.ok (.slice none 0 0) w:=by
 obtain⟨i,z,hi,h1,h2,h3,h4⟩:=T.info
 have hsz:Yb P E=some sz:=by simp[Yb,hi,h1]
 unfold Builtin.append_
 rcases T.u2 with⟨e2,u2⟩ | u2<;>simp[Xa T.u1,Xa u2,Xo hsz,hx,hf w rfl]

theorem Xrd {t t2 ty E sz B:Nat}(T:AppT P t t2 E sz B)(hO:OM w ρ ob){id:Nat}{xs ys:List D}{s x:Value}{vs:List Value}(hl:lookO ob id=some (.arr E sz xs))
  (hs:(V.sl id xs.length).rep w ρ s) (hre:D.repL w (own ρ) ys vs) (hu:∀y∈ys,y.sz=sz)
  (hx:∀w',(Builtin.lenOf x).run P w'=.ok ys.length w') (hf:∀w',w'.heap=w.heap->(Builtin.firstCells sz ys.length x).run P w'=.ok vs.toArray w')
  (hB:(2*(xs.length+ys.length)+192)*B<=281474976710656) :
  ∃v w' ρ',(Builtin.append_ #[t,t2] ty #[s,x]).run P w=.ok v w'/\Tr w ρ w' ρ'/\OM w' ρ' (setO ob id (.arr E sz (xs++ys)))/\(V.sl id (xs.length+ys.length)).rep w' ρ' v:=by
 rw[Y2]at hs
 obtain⟨o,hρ,hs⟩:=hs
 have h1:=hO.one id _ hl
 have hvl:vs.length=ys.length*sz:=by rw[D.repL_len _ _ hre,D.szs_uniform _ hu]
 -- a new row,from whatever was there
 have grow:∀(base:Option Addr) (sCap:Nat) (cs:List Value),s=.slice base xs.length sCap->D.repL w (own ρ) xs cs->(∀y∈xs,y.sz=sz)->
   (∀w',w'.heap=w.heap->(Builtin.firstCells sz xs.length (.slice base xs.length sCap)).run P w'=.ok cs.toArray w')->sCap<xs.length+ys.length->
   (o=.virt/\xs.length=0\/∃b c,o=.arr b xs.length c)->xs.length<=sCap->
   ∃v w' ρ',(Builtin.append_ #[t,t2] ty #[s,x]).run P w=.ok v w'/\Tr w ρ w' ρ'/\OM w' ρ' (setO ob id (.arr E sz (xs++ys)))/\(V.sl id (xs.length+ys.length)).rep w' ρ' v:=by
  intro base sCap cs es hxs hux hold hneed ho hlc
  subst es
  obtain⟨newCap,rest,g1,g2,g3⟩:=Xre (ty:=ty) T hx hf hold hneed hB
  have he:Ext w (Xjm { w with drawn:=w.drawn+1 } (.cells ((cs++vs)++rest).toArray E)):=(Ext.drew w _).trans (V8 _ _)
  have t1:Tr w ρ (Xjm { w with drawn:=w.drawn+1 } (.cells ((cs++vs)++rest).toArray E)) (ρ.ins id (.arr w.heap.size (xs.length+ys.length) newCap)):=by
   refine⟨he.size,fun b _ h=>he.keep b h,fun b h=>?_,rfl,rfl,fun j p hp=>?_,he.tape,he.os,he.out⟩
   ·obtain⟨j,p,q1,q2⟩:=h
    simp only[Env.ins]at q1
    split at q1
    ·simp at q1; subst q1; simp[RO.blk?]at q2; exact .inr (by omega)
    ·exact .inl ⟨j,p,q1,q2⟩
   ·by_cases ej:j=id
    ·subst ej
     refine⟨_,Y1,.grow (n:=xs.length) (by omega) ?_⟩
     rw[hρ]at hp; simp at hp; subst hp
     exact ho
    ·exact⟨p,by simp[Env.ins,ej,hp],.refl p⟩
  refine⟨_,_,_,g3,t1,Xc4 hO hl t1 (.inr ⟨w.heap.size,newCap,cs++vs,rest,by simp[Env.ins],Ut _ _,D.repL_append (D.repL_mono t1.mono _ _ hxs) (D.repL_mono t1.mono _ _ hre),?_,?_⟩) (fun b hb=>?_) (fun j p b hj h2 h3=>he.keep b (Q0 hO h2 h3)),?_⟩
  ·intro y hy
   rcases List.mem_append.1 hy with hy | hy
   ·exact hux y hy
   ·exact hu y hy
  ·have hcl:cs.length=xs.length*sz:=by rw[D.repL_len _ _ hxs,D.szs_uniform _ hux]
   rw[List.length_append,List.length_append,g2,hcl,hvl,<-Nat.add_mul,<-Nat.add_mul]
   congr 1; omega
  ·simp[RO.blk?]at hb; exact .inl (by omega)
  ·rw[Y2]
   refine⟨_,Y1,?_⟩
   exact⟨Nat.le_refl _,⟨_,_,_,rfl⟩,fun _=>rfl⟩
 rcases h1 with⟨h1,rfl⟩ | ⟨b,cap,cs,sp,h1,h2,h3,h4,h5⟩
 ·-- nothing yet
  rw[hρ]at h1; simp at h1; subst h1
  simp only[RO.slice]at hs
  obtain⟨_,rfl⟩:=hs
  by_cases hy:ys=[]
  ·subst hy
   have hv0:vs=[]:=by simpa using hvl
   subst hv0
   refine⟨_,w,ρ,Xrf T hx (fun w' hw=>hf w' hw),Tr.refl _ _,?_,?_⟩
   ·refine⟨fun j y hy=>?_,fun j p hp=>?_,hO.inj,hO.xlt,hO.glb,hO.xdis,hO.once.set⟩
    ·rw[Xj ob id j ⟨_,hl⟩]at hy
     split at hy
     ·rename_i e; subst e; simp at hy; subst hy; exact .inl ⟨hρ,rfl⟩
     ·exact hO.one j y hy
    ·rw[Xj ob id j ⟨_,hl⟩]
     split
     ·exact⟨_,rfl⟩
     ·exact hO.dom j p hp
   ·rw[Y2]; exact⟨_,hρ,rfl,rfl⟩
  ·refine grow none 0 [] rfl (by simp[D.repL]) (by simp) (fun w' _=>by simp[Builtin.firstCells]) ?_ (.inl ⟨rfl,rfl⟩) (Nat.le_refl _)
   cases ys with
   | nil=>exact absurd rfl hy
   | cons y r=>simp
 ·rw[hρ]at h1; simp at h1; subst h1
  obtain⟨_,_,hs⟩:=hs
  have hs:=hs rfl
  have hcl:cs.length=xs.length*sz:=by rw[D.repL_len _ _ h3,D.szs_uniform _ h4]
  have hlc:xs.length<=cap:=by
   have:xs.length*sz<=cap*sz:=by rw[<-h5,<-hcl]; simp
   exact Nat.le_of_mul_le_mul_right this (Nat.pos_of_ne_zero T.s0)
  by_cases hroom:xs.length+ys.length<=cap
  ·subst hs
   have hrun:=Xrg (ty:=ty) T hx hf h2 hcl hvl h5 (D.ones ys vs hre) hroom
   have t1:Tr w ρ (w.setRow b ((cs++vs)++sp.drop vs.length).toArray) (ρ.ins id (.arr b (xs.length+ys.length) cap)):=by
    refine⟨by simp,fun j hj _=>setRow_other w b j _ (fun e=>hj ?_),fun j h=>?_,rfl,rfl,fun j p hp=>?_,rfl,rfl,rfl⟩
    ·subst e; exact⟨id,_,hρ,rfl⟩
    ·obtain⟨k,p,q1,q2⟩:=h
     simp only[Env.ins]at q1
     split at q1
     ·simp at q1; subst q1; simp[RO.blk?]at q2; subst q2; exact .inl ⟨id,_,hρ,rfl⟩
     ·exact .inl ⟨k,p,q1,q2⟩
    ·by_cases ej:j=id
     ·subst ej
      rw[hρ]at hp; simp at hp; subst hp
      refine⟨_,Y1,?_⟩
      cases ys with
      | nil=>exact .refl _
      | cons y r=>exact .grow (n:=xs.length) (by simp) (.inr ⟨_,_,rfl⟩)
     ·exact⟨p,by simp[Env.ins,ej,hp],.refl p⟩
   refine⟨_,_,_,hrun,t1,Xc4 hO hl t1 (.inr ⟨b,cap,cs++vs,sp.drop vs.length,by simp[Env.ins],setRow_heap w b _ _ E _ h2,D.repL_append (D.repL_mono t1.mono _ _ h3) (D.repL_mono t1.mono _ _ hre),?_,?_⟩) (fun b' hb=>?_) (fun j p b' hj q1 q2=>setRow_other w b b' _ (fun e=>hj ?_)),?_⟩
   ·intro y hy
    rcases List.mem_append.1 hy with hy | hy
    ·exact h4 y hy
    ·exact hu y hy
   ·have hsum:xs.length*sz+ys.length*sz<=cap*sz:=by rw[<-Nat.add_mul]; exact Nat.mul_le_mul_right sz hroom
    simp only[List.length_append,List.length_drop]at h5⊢
    omega
   ·simp[RO.blk?]at hb; subst hb; exact .inr ⟨_,hρ,rfl⟩
   ·subst e; exact hO.inj j id _ _ _ q1 hρ q2 rfl
   ·rw[Y2]
    refine⟨_,Y1,?_⟩
    exact⟨Nat.le_refl _,⟨_,_,_,rfl⟩,fun _=>rfl⟩
  ·refine grow (some ⟨b,0,none⟩) cap cs hs h3 h4 (fun w' hw=>?_) (by omega) (.inr ⟨_,_,rfl⟩) hlc
   simp only[Builtin.firstCells,<-hcl]
   exact run_loadCells_list w' _ cs (fun j u hj=>by
    obtain⟨hj',e⟩:=List.getElem?_eq_some_iff.1 hj
    rw[Addr.add_eq rfl,cell?_congr (w:=w) (w':=w') (by rw[hw])]
    simp[World.cell?,h2,List.getElem?_append,hj',e])

theorem Xdo {t t2 ty E sz B:Nat}(T:AppT P t t2 E sz B)(hO:OM w ρ ob){id:Nat}{xs ys:List V}{s x:Value}{vs:List Value}(hl:lookO ob id=some (.vec E sz xs))
  (hs:(V.sl id xs.length).rep w ρ s) (hst:V.stos ys=true) (hre:V.repCs w ρ ys vs) (hu:∀y∈ys,y.size=sz)
  (hx:∀w',(Builtin.lenOf x).run P w'=.ok ys.length w') (hf:∀w',w'.heap=w.heap->(Builtin.firstCells sz ys.length x).run P w'=.ok vs.toArray w')
  (hB:(2*(xs.length+ys.length)+192)*B<=281474976710656) :
  ∃v w' ρ',(Builtin.append_ #[t,t2] ty #[s,x]).run P w=.ok v w'/\Tr w ρ w' ρ'/\OM w' ρ' (setO ob id (.vec E sz (xs++ys)))/\(V.sl id (xs.length+ys.length)).rep w' ρ' v:=by
 rw[Y2]at hs
 obtain⟨o,hρ,hs⟩:=hs
 have h1:=hO.one id _ hl
 have hvl:vs.length=ys.length*sz:=by rw[V.repCs_len _ _ hre,V.shapes_eq,X4 _ hu]
 -- a new row,from whatever was there
 have grow:∀(base:Option Addr) (sCap:Nat) (cs:List Value),s=.slice base xs.length sCap->V.repCs w ρ xs cs->(∀y∈xs,y.size=sz)->
   (∀w',w'.heap=w.heap->(Builtin.firstCells sz xs.length (.slice base xs.length sCap)).run P w'=.ok cs.toArray w')->sCap<xs.length+ys.length->
   (o=.virt/\xs.length=0\/∃b c,o=.arr b xs.length c)->xs.length<=sCap->
   ∃v w' ρ',(Builtin.append_ #[t,t2] ty #[s,x]).run P w=.ok v w'/\Tr w ρ w' ρ'/\OM w' ρ' (setO ob id (.vec E sz (xs++ys)))/\(V.sl id (xs.length+ys.length)).rep w' ρ' v:=by
  intro base sCap cs es hxs hux hold hneed ho hlc
  subst es
  obtain⟨newCap,rest,g1,g2,g3⟩:=Xre (ty:=ty) T hx hf hold hneed hB
  have he:Ext w (Xjm { w with drawn:=w.drawn+1 } (.cells ((cs++vs)++rest).toArray E)):=(Ext.drew w _).trans (V8 _ _)
  have t1:Tr w ρ (Xjm { w with drawn:=w.drawn+1 } (.cells ((cs++vs)++rest).toArray E)) (ρ.ins id (.arr w.heap.size (xs.length+ys.length) newCap)):=by
   refine⟨he.size,fun b _ h=>he.keep b h,fun b h=>?_,rfl,rfl,fun j p hp=>?_,he.tape,he.os,he.out⟩
   ·obtain⟨j,p,q1,q2⟩:=h
    simp only[Env.ins]at q1
    split at q1
    ·simp at q1; subst q1; simp[RO.blk?]at q2; exact .inr (by omega)
    ·exact .inl ⟨j,p,q1,q2⟩
   ·by_cases ej:j=id
    ·subst ej
     refine⟨_,Y1,.grow (n:=xs.length) (by omega) ?_⟩
     rw[hρ]at hp; simp at hp; subst hp
     exact ho
    ·exact⟨p,by simp[Env.ins,ej,hp],.refl p⟩
  refine⟨_,_,_,g3,t1,Xc4 hO hl t1 (.inr ⟨w.heap.size,newCap,cs++vs,rest,by simp[Env.ins],Ut _ _,V.repCs_append (V.repCs_tr t1 _ _ hxs) (V.repCs_tr t1 _ _ hre),?_,?_⟩) (fun b hb=>?_) (fun j p b hj h2 h3=>he.keep b (Q0 hO h2 h3)),?_⟩
  ·intro y hy
   rcases List.mem_append.1 hy with hy | hy
   ·exact hux y hy
   ·exact hu y hy
  ·have hcl:cs.length=xs.length*sz:=by rw[V.repCs_len _ _ hxs,V.shapes_eq,X4 _ hux]
   rw[List.length_append,List.length_append,g2,hcl,hvl,<-Nat.add_mul,<-Nat.add_mul]
   congr 1; omega
  ·simp[RO.blk?]at hb; exact .inl (by omega)
  ·rw[Y2]
   refine⟨_,Y1,?_⟩
   exact⟨Nat.le_refl _,⟨_,_,_,rfl⟩,fun _=>rfl⟩
 rcases h1 with⟨h1,rfl⟩ | ⟨b,cap,cs,sp,h1,h2,h3,h4,h5⟩
 ·-- nothing yet
  rw[hρ]at h1; simp at h1; subst h1
  simp only[RO.slice]at hs
  obtain⟨_,rfl⟩:=hs
  by_cases hy:ys=[]
  ·subst hy
   have hv0:vs=[]:=by simpa using hvl
   subst hv0
   refine⟨_,w,ρ,Xrf T hx (fun w' hw=>hf w' hw),Tr.refl _ _,?_,?_⟩
   ·refine⟨fun j y hy=>?_,fun j p hp=>?_,hO.inj,hO.xlt,hO.glb,hO.xdis,hO.once.set⟩
    ·rw[Xj ob id j ⟨_,hl⟩]at hy
     split at hy
     ·rename_i e; subst e; simp at hy; subst hy; exact .inl ⟨hρ,rfl⟩
     ·exact hO.one j y hy
    ·rw[Xj ob id j ⟨_,hl⟩]
     split
     ·exact⟨_,rfl⟩
     ·exact hO.dom j p hp
   ·rw[Y2]; exact⟨_,hρ,rfl,rfl⟩
  ·refine grow none 0 [] rfl (by simp[V.repCs]) (by simp) (fun w' _=>by simp[Builtin.firstCells]) ?_ (.inl ⟨rfl,rfl⟩) (Nat.le_refl _)
   cases ys with
   | nil=>exact absurd rfl hy
   | cons y r=>simp
 ·rw[hρ]at h1; simp at h1; subst h1
  obtain⟨_,_,hs⟩:=hs
  have hs:=hs rfl
  have hcl:cs.length=xs.length*sz:=by rw[V.repCs_len _ _ h3,V.shapes_eq,X4 _ h4]
  have hlc:xs.length<=cap:=by
   have:xs.length*sz<=cap*sz:=by rw[<-h5,<-hcl]; simp
   exact Nat.le_of_mul_le_mul_right this (Nat.pos_of_ne_zero T.s0)
  by_cases hroom:xs.length+ys.length<=cap
  ·subst hs
   have hrun:=Xrg (ty:=ty) T hx hf h2 hcl hvl h5 (V.onesV ys vs hst hre) hroom
   have t1:Tr w ρ (w.setRow b ((cs++vs)++sp.drop vs.length).toArray) (ρ.ins id (.arr b (xs.length+ys.length) cap)):=by
    refine⟨by simp,fun j hj _=>setRow_other w b j _ (fun e=>hj ?_),fun j h=>?_,rfl,rfl,fun j p hp=>?_,rfl,rfl,rfl⟩
    ·subst e; exact⟨id,_,hρ,rfl⟩
    ·obtain⟨k,p,q1,q2⟩:=h
     simp only[Env.ins]at q1
     split at q1
     ·simp at q1; subst q1; simp[RO.blk?]at q2; subst q2; exact .inl ⟨id,_,hρ,rfl⟩
     ·exact .inl ⟨k,p,q1,q2⟩
    ·by_cases ej:j=id
     ·subst ej
      rw[hρ]at hp; simp at hp; subst hp
      refine⟨_,Y1,?_⟩
      cases ys with
      | nil=>exact .refl _
      | cons y r=>exact .grow (n:=xs.length) (by simp) (.inr ⟨_,_,rfl⟩)
     ·exact⟨p,by simp[Env.ins,ej,hp],.refl p⟩
   refine⟨_,_,_,hrun,t1,Xc4 hO hl t1 (.inr ⟨b,cap,cs++vs,sp.drop vs.length,by simp[Env.ins],setRow_heap w b _ _ E _ h2,V.repCs_append (V.repCs_tr t1 _ _ h3) (V.repCs_tr t1 _ _ hre),?_,?_⟩) (fun b' hb=>?_) (fun j p b' hj q1 q2=>setRow_other w b b' _ (fun e=>hj ?_)),?_⟩
   ·intro y hy
    rcases List.mem_append.1 hy with hy | hy
    ·exact h4 y hy
    ·exact hu y hy
   ·have hsum:xs.length*sz+ys.length*sz<=cap*sz:=by rw[<-Nat.add_mul]; exact Nat.mul_le_mul_right sz hroom
    simp only[List.length_append,List.length_drop]at h5⊢
    omega
   ·simp[RO.blk?]at hb; subst hb; exact .inr ⟨_,hρ,rfl⟩
   ·subst e; exact hO.inj j id _ _ _ q1 hρ q2 rfl
   ·rw[Y2]
    refine⟨_,Y1,?_⟩
    exact⟨Nat.le_refl _,⟨_,_,_,rfl⟩,fun _=>rfl⟩
  ·refine grow (some ⟨b,0,none⟩) cap cs hs h3 h4 (fun w' hw=>?_) (by omega) (.inr ⟨_,_,rfl⟩) hlc
   simp only[Builtin.firstCells,<-hcl]
   exact run_loadCells_list w' _ cs (fun j u hj=>by
    obtain⟨hj',e⟩:=List.getElem?_eq_some_iff.1 hj
    rw[Addr.add_eq rfl,cell?_congr (w:=w) (w':=w') (by rw[hw])]
    simp[World.cell?,h2,List.getElem?_append,hj',e])

theorem Xwb {u v:Operand}{t t2 E sz B:Nat}{vx:V}{ys:List D}{vs:List Value}(T:AppT P t t2 E sz B)(r1:vx.rep w ρ (a.eval u))(hO:OM w ρ ob)(hK:Xe1 E sz B ob ys K vx)
  (hre:D.repL w (own ρ) ys vs) (hu:∀y∈ys,y.sz=sz) (hx:∀w',(Builtin.lenOf (a.eval v)).run P w'=.ok ys.length w')
  (hf:∀w',w'.heap=w.heap->(Builtin.firstCells sz ys.length (a.eval v)).run P w'=.ok vs.toArray w'):Qo P a w ρ (.call { callee:=.builtin .append,args:=#[u,v],argTypes:=#[t,t2] }) K Pn:=by
 have hrun:∀(w':World) (val:Value) (o:Oper),o.op=.call { callee:=.builtin .append,args:=#[u,v],argTypes:=#[t,t2] }->(Builtin.append_ #[t,t2] o.type #[a.eval u,a.eval v]).run P w=.ok val w'->(execOp a.eval o).run P w=.ok (.value val) w':=by
  intro w' val o ho hr
  simp only[execOp,ho,resolve,invoke,builtin,Sem.run_bind,Sem.run_pure,Result.andThen_ok,List.map_toArray,List.map_cons,List.map_nil,hr]
 unfold Xe1 at hK
 split at hK
 ·rename_i id n
  unfold Xe2 at hK
  split at hK
  ·rename_i E' sz' xs hl
   obtain⟨rfl,rfl,rfl,hB,hK⟩:=hK
   intro o ho next Q hn _
   obtain⟨val,w',ρ',g1,g2,g3,g4⟩:=Xrd (ty:=o.type) T hO hl r1 hre hu hx hf hB
   unfold Oper.wp
   rw[hrun w' val o ho g1]
   exact hn val _ _ w' ρ' hK g4 g3 g2
  ·exact hK.elim
 ·obtain⟨hB,hK⟩:=hK
  have hl:=Yt ob
  rw[Vg]at r1
  have hbl:∀b,RO.virt.blk? = some b->w.heap.size<=b:=fun b hb=>by simp[RO.blk?]at hb
  have t1:=Xaq w (Ext.refl w) (o:=.virt) (hO.free hl) hbl
  have o1:OM w (ρ.ins (fresh ob) .virt) ((fresh ob,.arr E sz [])::ob):=hO.ins (Ext.refl w) hl hbl (.inl ⟨Y1,rfl⟩)
  have q1:(V.sl (fresh ob) ([]:List D).length).rep w (ρ.ins (fresh ob) .virt) (a.eval u):=by
   rw[Y2]; exact⟨_,Y1,rfl,r1⟩
  intro o ho next Q hn _
  obtain⟨val,w',ρ',g1,g2,g3,g4⟩:=Xrd (ty:=o.type) (ys:=ys) T o1 (by simp[lookO]) q1 (D.repL_mono t1.mono _ _ hre) hu hx hf (by simpa using hB)
  unfold Oper.wp
  rw[hrun w' val o ho g1]
  simp only[setO,if_true,List.nil_append,List.length_nil,Nat.zero_add]at g3 g4
  exact hn val _ _ w' ρ' hK g4 g3 (t1.trans g2)
 ·exact hK.elim

theorem X3k (hs:SM w ρ sl a)(hO:OM w ρ ob){op:Op}{E sz B:Nat}{x y:A}(hc:I.chk P op (.app E sz B x y)=true)
  (h:X1m sz (fun ys=>Xe1 E sz B ob ys K (x.ev sl)) (y.ev sl)):Qo P a w ρ op K Pn:=by
 cases op<;>simp only[I.chk,Bool.false_eq_true]at hc
 rename_i c
 obtain⟨ca,args,ts⟩:=c
 cases ca<;>(try simp only[Bool.false_eq_true]at hc)
 rename_i b
 cases b<;>(try simp only[Bool.false_eq_true]at hc)
 split at hc
 ·rename_i u v t t2 e1 e2
  simp only[Bool.and_eq_true]at hc
  obtain⟨⟨⟨⟨h0,h1⟩,h2⟩,h3⟩,h4⟩:=hc
  have ea:args=#[u,v]:=by simpa using congrArg List.toArray e1
  have et:ts=#[t,t2]:=by simpa using congrArg List.toArray e2
  subst ea et
  have T:AppT P t t2 E sz B:=by
   cases hi:P.info? E with
   | none=>simp[hi]at h1
   | some i=>
    simp only[hi,Bool.and_eq_true,beq_iff_eq,bne_iff_ne,ne_eq]at h1
    obtain⟨⟨⟨⟨⟨g1,g2⟩,g3⟩,g4⟩,g5⟩,g6⟩:=h1
    obtain⟨z,hz⟩:=Option.isSome_iff_exists.1 g5
    rw[hz]at g6
    simp at g6
    refine⟨?_,?_,⟨i,z,hi,g1,g2,hz,g6⟩,by rw[<-g2]; exact g3,by rw[<-g1]; exact g4⟩
    ·revert h0; split<;>simp_all
    ·left; revert h2; split<;>simp_all
  have r1:=A.sound hs h3
  have r2:=A.sound hs h4
  obtain⟨ys,vs,hK,hre,hu,hx,hf⟩:=X1n (P:=P) r2 h
  exact Xwb T r1 hO hK hre hu hx hf
 ·simp at hc

theorem Xwe {id E sz:Nat}{xs:List D}(h:Xdi w ρ id (.arr E sz xs)):Xdi w ρ id (.vec E sz (xs.map .d)):=by
 rcases h with⟨h1,rfl⟩ | ⟨b,cap,cs,sp,h1,h2,h3,h4,h5⟩
 ·exact .inl ⟨h1,rfl⟩
 ·refine .inr ⟨b,cap,cs,sp,by simpa using h1,h2,(V.repCs_d _ _).2 h3,fun x hx=>?_,h5⟩
  obtain⟨y,hy,rfl⟩:=List.mem_map.1 hx
  simp[V.size,V.shape,D.size_shape,h4 y hy]
theorem X5p {sz:Nat}{v:V}{x:Value}{K:List V->Prop}(hO:OM w ρ ob)(hv:v.rep w ρ x)(h:Yep sz K ob v) :
  ∃ys vs,K ys/\V.repCs w ρ ys vs/\V.stos ys=true/\(∀y∈ys,y.size=sz)/\(∀w',(Builtin.lenOf x).run P w'=.ok ys.length w')/\∀w',w'.heap=w.heap->(Builtin.firstCells sz ys.length x).run P w'=.ok vs.toArray w':=by
 have dat:∀{ys:List D} {vs:List Value},D.repL w (own ρ) ys vs->(∀y∈ys,y.sz=sz)->V.repCs w ρ (ys.map .d) vs/\V.stos (ys.map .d)=true/\∀y∈ys.map V.d,y.size=sz:=by
  intro ys vs h1 h2
  refine⟨(V.repCs_d _ _).2 h1,?_,fun y hy=>?_⟩
  ·clear h1 h2; induction ys with
   | nil=>rfl
   | cons y r ih=>simp[V.stos,V.sto,ih]
  ·obtain⟨z,hz,rfl⟩:=List.mem_map.1 hy
   simp[V.size,V.shape,D.size_shape,h2 z hz]
 have own:∀{id:Nat} {E:Nat} {ys:List V},Xdi w ρ id (.vec E sz ys)->(V.sl id ys.length).rep w ρ x->V.stos ys=true->K ys->
   ∃ys vs,K ys/\V.repCs w ρ ys vs/\V.stos ys=true/\(∀y∈ys,y.size=sz)/\(∀w',(Builtin.lenOf x).run P w'=.ok ys.length w')/\∀w',w'.heap=w.heap->(Builtin.firstCells sz ys.length x).run P w'=.ok vs.toArray w':=by
  intro id E ys hm hv hst hK
  rw[Y2]at hv
  obtain⟨o,hρ,hv⟩:=hv
  rcases hm with⟨h1,rfl⟩ | ⟨b,cap,cs,sp,h1,h2,h3,h4,h5⟩
  ·rw[hρ]at h1; simp at h1; subst h1
   obtain⟨_,rfl⟩:=hv
   exact⟨[],[],hK,by simp[V.repCs],rfl,by simp,fun w'=>by simp[Builtin.lenOf],fun w' _=>by simp[Builtin.firstCells]⟩
  ·rw[hρ]at h1; simp at h1; subst h1
   have hx:=hv.2.2 rfl
   subst hx
   refine⟨ys,cs,hK,h3,hst,h4,fun w'=>by simp[Builtin.lenOf],fun w' hw=>?_⟩
   have hcl:cs.length=ys.length*sz:=by rw[V.repCs_len _ _ h3,V.shapes_eq,X4 _ h4]
   simp only[Builtin.firstCells,<-hcl]
   exact run_loadCells_list w' _ cs (fun j u hj=>by
    obtain⟨hj',e⟩:=List.getElem?_eq_some_iff.1 hj
    rw[Addr.add_eq rfl,cell?_congr (w:=w) (w':=w') (by rw[hw])]
    simp[World.cell?,h2,List.getElem?_append,hj',e])
 unfold Yep at h
 split at h
 ·rename_i z ys
  obtain⟨ys',vs,hK,hre,hu,hl,hf⟩:=X1n (P:=P) (K:=fun ys=>K (ys.map .d)) hv (by simpa only[X1m]using h)
  obtain⟨d1,d2,d3⟩:=dat hre hu
  exact⟨_,vs,hK,d1,d2,d3,fun w'=>by simpa using hl w',fun w' hw=>by simpa using hf w' hw⟩
 ·rw[Vg]at hv
  subst hv
  exact⟨[],[],h,by simp[V.repCs],rfl,by simp,fun w'=>by simp[Builtin.lenOf],fun w' _=>by simp[Builtin.firstCells]⟩
 ·rename_i id n
  rcases h with⟨E,ys,hl,rfl,hst,hK⟩ | ⟨E,ys,hl,rfl,hK⟩
  ·exact own (hO.one id _ hl) hv hst hK
  ·have hm:Xdi w ρ id (.vec E sz (ys.map .d)):=Xwe (hO.one id _ hl)
   refine own hm (by simpa using hv) ?_ hK
   clear hm hl hv hK
   induction ys with
   | nil=>rfl
   | cons y r ih=>simp[V.stos,V.sto,ih]
 ·exact h.elim
theorem Ya2 {u v:Operand}{t t2 E sz B:Nat}{vx:V}{ys:List V}{vs:List Value}(T:AppT P t t2 E sz B)(r1:vx.rep w ρ (a.eval u))(hO:OM w ρ ob)(hK:Xrh E sz B ob ys K vx)
  (hst:V.stos ys=true) (hre:V.repCs w ρ ys vs) (hu:∀y∈ys,y.size=sz) (hx:∀w',(Builtin.lenOf (a.eval v)).run P w'=.ok ys.length w')
  (hf:∀w',w'.heap=w.heap->(Builtin.firstCells sz ys.length (a.eval v)).run P w'=.ok vs.toArray w'):Qo P a w ρ (.call { callee:=.builtin .append,args:=#[u,v],argTypes:=#[t,t2] }) K Pn:=by
 have hrun:∀(w':World) (val:Value) (o:Oper),o.op=.call { callee:=.builtin .append,args:=#[u,v],argTypes:=#[t,t2] }->(Builtin.append_ #[t,t2] o.type #[a.eval u,a.eval v]).run P w=.ok val w'->(execOp a.eval o).run P w=.ok (.value val) w':=by
  intro w' val o ho hr
  simp only[execOp,ho,resolve,invoke,builtin,Sem.run_bind,Sem.run_pure,Result.andThen_ok,List.map_toArray,List.map_cons,List.map_nil,hr]
 unfold Xrh at hK
 split at hK
 ·rename_i id n
  unfold Xe3 at hK
  split at hK
  ·rename_i E' sz' xs hl
   obtain⟨rfl,rfl,rfl,hB,hK⟩:=hK
   intro o ho next Q hn _
   obtain⟨val,w',ρ',g1,g2,g3,g4⟩:=Xdo (ty:=o.type) T hO hl r1 hst hre hu hx hf hB
   unfold Oper.wp
   rw[hrun w' val o ho g1]
   exact hn val _ _ w' ρ' hK g4 g3 g2
  ·rename_i E' sz' xs hl
   obtain⟨rfl,rfl,rfl,hB,hK⟩:=hK
   have o2:=hO.swap hl (Xwe (hO.one id _ hl))
   have hl2:lookO (setO ob id (.vec E' sz' (xs.map .d))) id=some (.vec E' sz' (xs.map .d)):=by rw[Xj ob id id ⟨_,hl⟩]; simp
   intro o ho next Q hn _
   obtain⟨val,w',ρ',g1,g2,g3,g4⟩:=Xdo (ty:=o.type) T o2 hl2 (by simpa using r1) hst hre hu hx hf (by simpa using hB)
   rw[Xet]at g3
   rw[List.length_map]at g4
   unfold Oper.wp
   rw[hrun w' val o ho g1]
   exact hn val _ _ w' ρ' hK g4 g3 g2
  ·exact hK.elim
 ·obtain⟨hB,hK⟩:=hK
  have hl:=Yt ob
  rw[Vg]at r1
  have hbl:∀b,RO.virt.blk? = some b->w.heap.size<=b:=fun b hb=>by simp[RO.blk?]at hb
  have t1:=Xaq w (Ext.refl w) (o:=.virt) (hO.free hl) hbl
  have o1:OM w (ρ.ins (fresh ob) .virt) ((fresh ob,.vec E sz [])::ob):=hO.ins (Ext.refl w) hl hbl (.inl ⟨Y1,rfl⟩)
  have q1:(V.sl (fresh ob) ([]:List V).length).rep w (ρ.ins (fresh ob) .virt) (a.eval u):=by
   rw[Y2]; exact⟨_,Y1,rfl,r1⟩
  intro o ho next Q hn _
  obtain⟨val,w',ρ',g1,g2,g3,g4⟩:=Xdo (ty:=o.type) (ys:=ys) T o1 (by simp[lookO]) q1 hst (V.repCs_tr t1 _ _ hre) hu hx hf (by simpa using hB)
  unfold Oper.wp
  rw[hrun w' val o ho g1]
  simp only[setO,if_true,List.nil_append,List.length_nil,Nat.zero_add]at g3 g4
  exact hn val _ _ w' ρ' hK g4 g3 (t1.trans g2)
 ·exact hK.elim

theorem X3l (hs:SM w ρ sl a)(hO:OM w ρ ob){op:Op}{E sz B:Nat}{x y:A}(hc:I.chk P op (.apv E sz B x y)=true)
  (h:Yep sz (fun ys=>Xrh E sz B ob ys K (x.ev sl)) ob (y.ev sl)):Qo P a w ρ op K Pn:=by
 cases op<;>simp only[I.chk,Bool.false_eq_true]at hc
 rename_i c
 obtain⟨ca,args,ts⟩:=c
 cases ca<;>(try simp only[Bool.false_eq_true]at hc)
 rename_i b
 cases b<;>(try simp only[Bool.false_eq_true]at hc)
 split at hc
 ·rename_i u v t t2 e1 e2
  simp only[Bool.and_eq_true]at hc
  obtain⟨⟨⟨⟨h0,h1⟩,h2⟩,h3⟩,h4⟩:=hc
  have ea:args=#[u,v]:=by simpa using congrArg List.toArray e1
  have et:ts=#[t,t2]:=by simpa using congrArg List.toArray e2
  subst ea et
  have T:AppT P t t2 E sz B:=by
   cases hi:P.info? E with
   | none=>simp[hi]at h1
   | some i=>
    simp only[hi,Bool.and_eq_true,beq_iff_eq,bne_iff_ne,ne_eq]at h1
    obtain⟨⟨⟨⟨⟨g1,g2⟩,g3⟩,g4⟩,g5⟩,g6⟩:=h1
    obtain⟨z,hz⟩:=Option.isSome_iff_exists.1 g5
    rw[hz]at g6
    simp at g6
    refine⟨?_,?_,⟨i,z,hi,g1,g2,hz,g6⟩,by rw[<-g2]; exact g3,by rw[<-g1]; exact g4⟩
    ·revert h0; split<;>simp_all
    ·left; revert h2; split<;>simp_all
  have r1:=A.sound hs h3
  have r2:=A.sound hs h4
  obtain⟨ys,vs,hK,hre,hst,hu,hx,hf⟩:=X5p (P:=P) hO r2 h
  exact Ya2 T r1 hO hK hst hre hu hx hf
 ·simp at hc

theorem Xjq (s:List UInt8):∀x∈bytesD s,x.sz=1:=by
 induction s with
 | nil=>simp[bytesD]
 | cons b r ih=>simp only[bytesD,List.mem_cons]; rintro x (rfl | h); exact rfl; exact ih x h
theorem Zc (s:List UInt8):(bytesD s).length=s.length:=by
 induction s with
 | nil=>rfl
 | cons b r ih=>simp[bytesD,ih]
theorem Uf {ow:Nat->Prop}:∀(s:List UInt8) (cs:List Value),D.repL w ow (bytesD s) cs↔cs=s.map fun b=>.int .u8 b.toNat
 | [],cs=>by simp[bytesD,D.repL]
 | b::r,cs=>by
  simp only[bytesD,D.repL,D.rep,List.map_cons,Uf r]
  constructor
  ·rintro⟨c1,c2,rfl,rfl,rfl⟩; rfl
  ·rintro rfl; exact⟨_,_,rfl,rfl,rfl⟩

theorem Xwv (hs:SM w ρ sl a)(hO:OM w ρ ob){op:Op}{E B:Nat}{x y:A}(hc:I.chk P op (.appS E B x y)=true)
  (h:Xi1 (fun ys=>Xe1 E 1 B ob ys K (x.ev sl)) (y.ev sl)):Qo P a w ρ op K Pn:=by
 cases op<;>simp only[I.chk,Bool.false_eq_true]at hc
 rename_i c
 obtain⟨ca,args,ts⟩:=c
 cases ca<;>(try simp only[Bool.false_eq_true]at hc)
 rename_i b
 cases b<;>(try simp only[Bool.false_eq_true]at hc)
 split at hc
 ·rename_i u v t t2 e1 e2
  simp only[Bool.and_eq_true]at hc
  obtain⟨⟨⟨⟨h0,h1⟩,h2⟩,h3⟩,h4⟩:=hc
  have ea:args=#[u,v]:=by simpa using congrArg List.toArray e1
  have et:ts=#[t,t2]:=by simpa using congrArg List.toArray e2
  subst ea et
  have T:AppT P t t2 E 1 B:=by
   cases hi:P.info? E with
   | none=>simp[hi]at h1
   | some i=>
    simp only[hi,Bool.and_eq_true,beq_iff_eq,bne_iff_ne,ne_eq]at h1
    obtain⟨⟨⟨⟨g1,g2⟩,g3⟩,g5⟩,g6⟩:=h1
    obtain⟨z,hz⟩:=Option.isSome_iff_exists.1 g5
    rw[hz]at g6
    simp at g6
    refine⟨?_,?_,⟨i,z,hi,g1,g2,hz,g6⟩,by rw[<-g2]; exact g3,by omega⟩
    ·revert h0; split<;>simp_all
    ·right; revert h2; split<;>simp_all
  have r1:=A.sound hs h3
  have r2:=A.sound hs h4
  unfold Xi1 at h
  split at h
  ·rename_i s e3
   rw[e3,rep_str]at r2
   have hlen:(bytesD s).length=s.length:=Zc s
   refine Xwb T r1 hO h ((Uf s _).2 rfl) (Xjq s) (fun w'=>?_) (fun w' _=>?_)
   ·rw[r2,hlen]; simp[Builtin.lenOf,Xcz]
   ·rw[r2,hlen]
    simp only[Builtin.firstCells,Sem.run_pure]
    congr 1
    apply Array.ext'
    simp[ByteArray.data_extract]
  ·exact h.elim
 ·simp at hc

theorem X3p (hs:SM w ρ sl a)(hO:OM w ρ ob){op:Op}{x:A}(hc:I.chk P op (.cvb x)=true)(h:Xws ob K (x.ev sl)):Qo P a w ρ op K Pn:=by
 cases op<;>simp only[I.chk,Bool.false_eq_true]at hc
 rename_i s t y
 simp only[Bool.and_eq_true,beq_iff_eq]at hc
 obtain⟨⟨rfl,h0⟩,h2⟩:=hc
 have r1:=A.sound hs h2
 obtain⟨e,hs1,he⟩:∃e,P.underlying s=some (.slice e)/\P.underlying e=some (.int .u8):=by
  cases hu:P.underlying s with
  | none=>simp[hu]at h0
  | some d=>
   cases d<;>simp[hu]at h0
   rename_i e
   refine⟨e,rfl,?_⟩
   revert h0; split<;>simp_all
 unfold Xws at h
 split at h
 ·rename_i id n e1
  unfold Xgt at h
  split at h
  ·rename_i E sz xs hl
   obtain⟨hsz,rfl,hne,hK⟩:=h
   rw[e1]at r1
   have r3:=Jf hO hl hsz r1
   rw[Y2]at r1
   obtain⟨o,hρ,hv⟩:=r1
   rcases hO.one id _ hl with⟨h1,rfl⟩ | ⟨b,cap,cs,sp,h1,h2,h3,h4,h5⟩
   ·exact absurd rfl hne
   ·rw[hρ]at h1; simp at h1; subst h1
    have hu:=hv.2.2 rfl
    have hw:∃w2,w2.heap.size=w.heap.size/\(∀j,j ≠ b->w2.heap[j]? = w.heap[j]?)/\w2.heap[b]? = some (.cells (List.toArray (cs++sp)) E ((cs++sp).length,(cs++sp).length+1))/\w2.tape=w.tape/\w2.os=w.os/\w2.output=w.output/\(markStringish ⟨b,0,none⟩).run P w=.ok () w2:=by
     have hsh:w.shape? b=some (E,(cs++sp).length):=by simp[World.shape?,h2]
     refine⟨w.freeze ⟨b,(cs++sp).length,none⟩ 1,by simp[World.freeze],fun j hj=>?_,?_,rfl,rfl,rfl,?_⟩
     ·simp only[World.freeze]
      simp[Array.getElem?_modify,Ne.symm hj]
     ·simp only[World.freeze]
      simp[Array.getElem?_modify,h2]
     ·simp only[markStringish,Sem.run_bind,run_shape,hsh,Result.andThen_ok,run_freeze]
    obtain⟨w2,q1,q2,q3,q4,q5,q6,q7⟩:=hw
    obtain⟨t1,o1,hno⟩:=Xg3 hO (w2:=w2) ⟨_,hl⟩ q1 (fun j hj=>q2 j (fun e=>hj _ hρ (by rw[e]; rfl))) q4 q5 q6
    refine Xl (v:=.slice (some ⟨b,0,none⟩) xs.length cap) (fun o ho=>?_) hK ?_ o1 t1
    ·simp only[execOp,ho,hu,convert,Sem.run_bind,Xa hs1,Result.andThen_ok,beq_self_eq_true,Xa he,q7,Sem.run_pure]
    ·rw[Yy]
     refine .inr ⟨_,cap,cs,rfl,?_,⟨fun _=>⟨rfl,hno b _ hρ rfl,Xn q3⟩,fun i hi=>?_⟩,D.repL_mono t1.mono _ _ h3,h4⟩
     ·have hcl:cs.length=xs.length*sz:=by rw[D.repL_len _ _ h3,D.szs_uniform _ h4]
      have:xs.length*sz<=cap*sz:=by rw[<-h5,<-hcl]; simp
      exact Nat.le_of_mul_le_mul_right this (Nat.pos_of_ne_zero hsz)
     ·simp[World.cell?,q3,List.getElem?_append,hi]
  ·exact h.elim
 ·exact h.elim

theorem Xwz (hs:SM w ρ sl a)(hO:OM w ρ ob){op:Op}{E:Nat}{x y:A}(hc:I.chk P op (.ustr E x y)=true)(h:Xb7 E ob K (x.ev sl) (y.ev sl)):Qo P a w ρ op K Pn:=by
 cases op<;>simp only[I.chk,Bool.false_eq_true]at hc
 rename_i c
 obtain⟨ca,args,ts⟩:=c
 cases ca<;>(try simp only[Bool.false_eq_true]at hc)
 rename_i b
 cases b<;>(try simp only[Bool.false_eq_true]at hc)
 split at hc
 ·rename_i u v t t2 e1 e2
  have ea:args=#[u,v]:=by simpa using congrArg List.toArray e1
  have et:ts=#[t,t2]:=by simpa using congrArg List.toArray e2
  subst ea et
  simp only[Bool.and_eq_true]at hc
  obtain⟨⟨h0,h1⟩,h2⟩:=hc
  have r1:=A.sound hs h1
  have r2:=A.sound hs h2
  obtain⟨hp,hce⟩:P.underlying t=some (.pointer E)/\P.cellsOf E=1:=by
   split at h0
   ·rename_i e he; simp only[Bool.and_eq_true,beq_iff_eq]at h0; obtain⟨rfl,h0⟩:=h0; exact⟨he,h0⟩
   ·simp at h0
  have hrun:∀(w':World) (val:Value) (o:Oper),o.op=.call { callee:=.builtin .unsafeString,args:=#[u,v],argTypes:=#[t,t2] }->(Builtin.unsafeString_ #[t,t2] o.type #[a.eval u,a.eval v]).run P w=.ok val w'->(execOp a.eval o).run P w=.ok (.value val) w':=by
   intro w' val o ho hr
   simp only[execOp,ho,resolve,invoke,builtin,Sem.run_bind,Sem.run_pure,Result.andThen_ok,List.map_toArray,List.map_cons,List.map_nil,hr]
  unfold Xb7 at h
  split at h
  ·rename_i id n m e3 e4
   unfold Xbe at h
   split at h
   ·rename_i E' sz xs hl
    obtain⟨rfl,rfl,rfl,rfl,h63,hne,s,rfl,hK⟩:=h
    rw[e3,X83]at r1
    rw[e4,X5]at r2
    obtain⟨o,hρ,hv⟩:=r1
    have hs0:s ≠ []:=by intro e; subst e; exact hne rfl
    rcases hO.one id _ hl with⟨h1,hx⟩ | ⟨b,cap,cs,sp,h1,h2,h3,h4,h5⟩
    ·exact absurd hx hne
    ·rw[hρ]at h1; simp at h1; subst h1
     have hu:=hv.2.2 rfl (by simpa using hne)
     rw[Uf]at h3
     subst h3
     have hll:(bytesD s).length=s.length:=Zc s
     obtain⟨t1,o1,hno⟩:=Xg3 hO (w2:=w.freeze ⟨b,0,none⟩ s.length) ⟨_,hl⟩ (by unfold World.freeze; split<;>simp) (fun j hj=>by
      have:b ≠ j:=fun e=>hj _ hρ (by rw[e]; rfl)
      unfold World.freeze; split
      ·rfl
      ·simp[Array.getElem?_modify,this]) (by unfold World.freeze; split<;>rfl) (by unfold World.freeze; split<;>rfl) (by unfold World.freeze; split<;>rfl)
     refine Xl (v:=.string ⟨s.toArray⟩) (fun o ho=>hrun _ _ o ho ?_) hK (rep_str.2 rfl) o1 t1
     rw[hu,r2,hll]
     exact Lib.run_unsafeString_row (P:=P) (w:=w) t t2 _ E' hp hce b ((s.map fun b=>Value.int .u8 b.toNat)++sp).length (by simp[World.shape?,h2]) s hs0 (by simp) (by omega) (fun j x hj=>by
      obtain⟨hj',e⟩:=List.getElem?_eq_some_iff.1 hj
      rw[Addr.add_eq rfl]
      simp[World.cell?,h2,List.getElem?_append,hj',e])
   ·exact h.elim
  ·rename_i m e3 e4
   obtain⟨rfl,hK⟩:=h
   rw[e3,Xdd]at r1
   rw[e4,X5]at r2
   refine Xl (v:=.string .empty) (fun o ho=>hrun _ _ o ho ?_) hK (rep_str.2 rfl) hO (Tr.refl _ _)
   rw[r1,r2]
   exact Lib.run_unsafeString_none _ _ _ _ _
  ·exact h.elim
 ·simp at hc

theorem Xk7:∀(s:List UInt8) (l:List UInt8),(s.map fun b:UInt8=>((b.toNat:Nat):Int)).foldl (fun (r:ByteArray) (n:Int)=>r.push (UInt8.ofNat n.toNat)) ⟨l.toArray⟩=⟨(l++s).toArray⟩
 | [],l=>by simp
 | b::r,l=>by
  simp only[List.map_cons,List.foldl_cons]
  have:(ByteArray.mk l.toArray).push (UInt8.ofNat ((b.toNat:Nat):Int).toNat)=⟨(l++[b]).toArray⟩:=by
   apply ByteArray.ext; simp[ByteArray.push]
  rw[this,Xk7 r (l++[b])]
  simp

theorem X3m (hs:SM w ρ sl a)(hO:OM w ρ ob){op:Op}{x:A}(hc:I.chk P op (.b2s x)=true)(h:Yd9 (fun v=>K v ob) (x.ev sl)):Qo P a w ρ op K Pn:=by
 cases op<;>simp[I.chk]at hc
 rename_i s t y
 obtain⟨⟨h0,h1⟩,h2⟩:=hc
 have r1:=A.sound hs h2
 obtain⟨e,hs1,he,hsz⟩:∃e,P.underlying s=some (.slice e)/\P.underlying e=some (.int .u8)/\Yb P e=some 1:=by
  cases hu:P.underlying s with
  | none=>simp[hu]at h0
  | some d=>
   cases d<;>simp[hu]at h0
   rename_i e
   refine⟨e,rfl,?_,h0.2⟩
   have:=h0.1
   revert this; split<;>simp_all
 have ht:P.underlying t=some .string:=by revert h1; split<;>simp_all
 have hcv:∀(ad:Option Addr) (l c:Nat) (o:Oper),o.op=.convert s t y->a.eval y=.slice ad l c->(execOp a.eval o).run P w=((Conv.bytesToString (.slice ad l c)).run P w).andThen fun v w'=>.ok (.value v) w':=by
  intro ad l c o ho hy
  simp only[execOp,ho,hy,convert,Sem.run_bind,Xa hs1,Xa ht,Result.andThen_ok,Xa he]
  simp
 unfold Yd9 at h
 split at h
 ·rename_i sz xs e1
  obtain⟨rfl,bs,rfl,hK⟩:=h
  rw[e1,Yy]at r1
  rcases r1 with⟨hx,r1⟩ | ⟨ad,cap,vs,r1,hcap,hce,hre,hu⟩
  ·have:bs=[]:=by have:=congrArg List.length hx; rw[Zc]at this; exact List.eq_nil_of_length_eq_zero this
   subst this
   refine Xl (fun o ho=>?_) hK (rep_str.2 rfl) hO (Tr.refl _ _)
   rw[hcv _ _ _ o ho r1]
   simp[Conv.bytesToString]
   rfl
  ·rw[Uf]at hre
   refine Xl (fun o ho=>?_) hK (rep_str.2 rfl) hO (Tr.refl _ _)
   rw[hcv _ _ _ o ho r1,run_bytesToString w ad _ cap (bs.map fun b=>((b.toNat:Nat):Int)) ?_]
   ·have:=Xk7 bs []
    simp only[List.nil_append]at this
    simp only[Result.andThen_ok]
    rw[<-this]
    rfl
   ·have:=run_loadCells_list (P:=P) w ad vs (fun j u hj=>by
     obtain⟨hj',e⟩:=List.getElem?_eq_some_iff.1 hj
     have hne:vs ≠ []:=by intro h; simp[h]at hj'
     rw[Addr.add_eq (hce.1 hne).1,<-e]; exact hce.2 j hj')
    rw[Zc]
    rw[show vs.length=bs.length by rw[hre]; simp]at this
    rw[this,hre]
    simp
 ·rename_i e1
  rw[e1,Vg]at r1
  refine Xl (fun o ho=>?_) h (rep_str.2 rfl) hO (Tr.refl _ _)
  rw[hcv _ _ _ o ho r1]
  simp[Conv.bytesToString]
  rfl
 ·exact h.elim

theorem Xra (hs:SM w ρ sl a)(hO:OM w ρ ob){op:Op}{x:A}(hc:I.chk P op (.s2b x)=true)(h:Yen (fun v=>K v ob) (x.ev sl)):X9e P a w ρ op ob K:=by
 cases op<;>simp[I.chk]at hc
 rename_i s t y
 obtain⟨⟨h0,h1⟩,h2⟩:=hc
 have r1:=A.sound hs h2
 have hs1:P.underlying s=some .string:=by revert h0; split<;>simp_all
 obtain⟨e,ht,he⟩:∃e,P.underlying t=some (.slice e)/\P.underlying e=some (.int .u8):=by
  cases hu:P.underlying t with
  | none=>simp[hu]at h1
  | some d=>
   cases d<;>simp[hu]at h1
   rename_i e
   refine⟨e,rfl,?_⟩
   revert h1; split<;>simp_all
 unfold Yen at h
 split at h
 ·rename_i bs e1
  rw[e1,rep_str]at r1
  have hq:(Question.appendCap bs.length 0 e).forced=false:=rfl
  generalize hcap:(Question.appendCap bs.length 0 e).cut (w.tape w.drawn (.appendCap bs.length 0 e))=cap
  have hge:bs.length<=cap:=by rw[<-hcap]; simp[Question.cut]
  let cs:List Value:=(bs.map fun b=>Value.int .u8 b.toNat)++List.replicate (cap-bs.length) (.int .u8 0)
  let w1:World:=Xjm { w with drawn:=w.drawn+1 } (.cells cs.toArray e)
  have hlen:cs.length=cap:=by simp[cs]; omega
  have he1:Ext w w1:=(Ext.drew w _).trans (V8 _ _)
  have hn:w1.heap[w.heap.size]? = some (.cells cs.toArray e (0,0)):=Ut _ _
  let w2:World:=w1.freeze ⟨w.heap.size,cap,none⟩ 1
  have hn2:w2.heap[w.heap.size]? = some (.cells cs.toArray e (cap,cap+1)):=by
   simp only[w2,World.freeze]
   simp[Array.getElem?_modify,hn]
  have hsz2:w2.heap.size=w1.heap.size:=by simp[w2,World.freeze]
  have he2:Ext w w2:=by
   refine⟨by rw[hsz2]; exact he1.size,fun b hb=>?_,he1.tape,he1.os,he1.out⟩
   rw[<-he1.keep b hb]
   simp only[w2,World.freeze]
   simp[Array.getElem?_modify,Nat.ne_of_gt hb]
  refine⟨.slice (some ⟨w.heap.size,0,none⟩) bs.length cap,_,w2,h,Yy.2 (.inr ⟨⟨w.heap.size,0,none⟩,cap,bs.map fun b=>Value.int .u8 b.toNat,by rw[Zc],by rw[Zc]; exact hge,⟨fun _=>⟨rfl,?_,Xn hn2⟩,fun i hi=>?_⟩,(Uf bs _).2 rfl,Xjq bs⟩),he2,fun o ho=>?_⟩
  rotate_left 2
  ·simp only[execOp,ho,r1,convert,Sem.run_bind,Xa hs1,Xa ht,Result.andThen_ok,Xa he,Conv.stringToBytes,Xcz,run_choose,hq,Bool.false_eq_true,if_false,hcap,newRow,run_newObj,Sem.run_pure]
   have e3:Array.map (fun b:UInt8=>Value.int IntKind.u8 b.toNat) (ByteArray.mk bs.toArray).data++Array.replicate (cap-bs.length) (Value.int IntKind.u8 0)=cs.toArray:=by
    apply Array.ext'; simp[cs]
   rw[e3]
   have hsh:w1.shape? w.heap.size=some (e,cap):=by simp[World.shape?,hn,hlen]
   have hm:(markStringish ⟨w.heap.size,0,none⟩).run P w1=.ok () w2:=by
    simp only[markStringish,Sem.run_bind,run_shape,hsh,Result.andThen_ok,run_freeze]
    rfl
   show ((Sem.run P (markStringish ⟨w.heap.size,0,none⟩) w1).andThen _).andThen _=_
   rw[hm]
   simp
  ·rintro (⟨j,p,q1,q2⟩ | q)
   ·have:=Q0 hO q1 q2; simp at this
   ·have:=hO.xlt _ q; simp at this
  ·have hi':i<bs.length:=by simpa using hi
   simp[World.cell?,hn2,cs,List.getElem?_append,hi']
 ·exact h.elim

theorem Xwy (hs:SM w ρ sl a)(hO:OM w ρ ob){op:Op}{E sz:Nat}{x:A}(hc:I.chk P op (.nilo E sz x)=true)(h:Xis E sz ob K (x.ev sl)):Qo P a w ρ op K Pn:=by
 unfold Xis at h
 split at h
 ·rename_i e1
  have hf:=Yt ob
  have hbl:∀b,RO.virt.blk? = some b->w.heap.size<=b:=fun b hb=>by simp[RO.blk?]at hb
  have t1:=Xaq w (Ext.refl w) (o:=.virt) (hO.free hf) hbl
  have o1:OM w (ρ.ins (fresh ob) .virt) ((fresh ob,.arr E sz [])::ob):=hO.ins (Ext.refl w) hf hbl (.inl ⟨Y1,rfl⟩)
  cases op<;>simp[I.chk]at hc
  all_goals
   have r1:=A.sound hs hc
   rw[e1,Vg]at r1
   exact Xl (fun o ho=>by simp[execOp,ho]) h (Y2.2 ⟨.virt,Y1,⟨rfl,r1⟩⟩) o1 t1
 ·exact h.elim

theorem X3u (hs:SM w ρ sl a)(hO:OM w ρ ob){op:Op}{r:Option A}(hc:I.chk P op (.mkm r)=true)(h:X17 sl r/\K (.mp (fresh ob)) ((fresh ob,.map [])::ob)):Qo P a w ρ op K Pn:=by
 cases op<;>simp only[I.chk,Bool.false_eq_true]at hc
 rename_i t hint
 simp only[Bool.and_eq_true]at hc
 obtain⟨hm,hK⟩:=h
 obtain⟨kt,et,ht⟩:∃kt et,P.underlying t=some (.map kt et):=by
  have:=hc.1
  revert this; split<;>simp_all
 obtain⟨t1,o1,p1⟩:=Ydc hO (Yt ob)
 refine Xl (fun o ho=>?_) hK p1 o1 t1
 cases hint with
 | none=>
  simp only[execOp,ho,Option.map_none,Instr.makeMap,Sem.run_bind,run_newObj,Result.andThen_ok,Sem.run_pure]
  rfl
 | some x=>
  cases r with
  | none=>simp[Xfh]at hc
  | some y=>
   simp only[Xfh]at hc
   have r1:=A.sound hs hc.2
   simp only[X17]at hm
   unfold Xkh at hm
   split at hm
   ·rename_i k n e1
    rw[e1,X5]at r1
    simp only[execOp,ho,Option.map_some,Instr.makeMap,Sem.run_bind,Xa ht,run_newObj,Result.andThen_ok,Sem.run_pure,r1,asInt]
    rfl
   ·exact hm.elim

theorem Xdn {k j:D}(h:D.alike k j=true):∃u v,k.key=some u/\j.key=some v:=by
 unfold D.alike at h
 split at h<;>first | exact⟨_,_,rfl,rfl⟩ | cases h
theorem Xbx {td:TypeDesc}{kd k:D}(h:Qc td kd=true)(h2:D.alike kd k=true):Qc td k=true:=by
 unfold Qc at h
 split at h
 ·cases k<;>simp[D.alike]at h2<;>rfl
 ·cases k<;>simp[D.alike]at h2<;>rfl
 ·cases k<;>simp[D.alike]at h2<;>rfl
 ·cases h
theorem Xgb {td:TypeDesc}{k j:D}{u v:Value}(hk:Qc td k=true)(ha:D.alike k j=true)(hu:k.key=some u)(hv:j.key=some v):Instr.sameNow td u v=some (D.sameKey k j):=by
 cases k<;>cases j<;>simp only[D.alike,Bool.false_eq_true,decide_eq_true_eq]at ha<;>simp only[D.key,Option.some.injEq]at hu hv<;>subst hu<;>subst hv<;>cases td<;>simp only[Qc,Bool.false_eq_true]at hk
 ·subst ha; simp[Instr.sameNow,D.sameKey]
 ·simp[Instr.sameNow,D.sameKey]
 ·rename_i s t
  simp only[Instr.sameNow,D.sameKey,Option.some.injEq]
  rw[beq_toListBytes,Xlr,Xlr]
theorem Xw8 {td:TypeDesc}{k:D}{u:Value}(hk:Qc td k=true)(hu:k.key=some u):∀(es:List (D×V)) (l:List MapEntry) (i:Nat),Zj w ρ es l->(∀e∈es,D.alike k e.1=true)->
  (J0 k es=none/\Instr.findNow td u l i=some none)\/∃v j e,J0 k es=some v/\Instr.findNow td u l i=some (some (i+j,e.val))/\l[j]? = some e/\v.rep w ρ e.val/\e.key=u
 | [],l,i,h,_=>by
  simp only[Zj]at h; subst h
  exact .inl ⟨rfl,rfl⟩
 | (j,v)::r,l,i,h,ha=>by
  obtain⟨e,l',rfl,h1,h2,h3⟩:=h
  have haj:=ha (j,v) (by simp)
  have hs:=Xgb hk haj hu h1
  simp only[Instr.findNow,J0,hs]
  cases hsk:D.sameKey k j with
  | true=>
   refine .inr ⟨v,0,e,by simp,by simp,by simp,h2,?_⟩
   cases k<;>cases j<;>simp only[D.alike,Bool.false_eq_true,decide_eq_true_eq]at haj<;>simp only[D.sameKey,beq_iff_eq]at hsk<;>simp only[D.key,Option.some.injEq]at hu h1<;>rw[<-hu,<-h1]<;>simp_all
  | false=>
   rcases Xw8 hk hu r l' (i+1) h3 (fun x hx=>ha x (by simp[hx])) with⟨f1,f2⟩ | ⟨v',j',e',f1,f2,f3,f4,f5⟩
   ·exact .inl ⟨by simpa using f1,by simpa using f2⟩
   ·exact .inr ⟨v',j'+1,e',by simpa using f1,by simp only[f2]; congr 3; omega,by simpa using f3,f4,f5⟩
theorem Y6 {kt:TypeId}{td:TypeDesc}(ht:P.underlying kt=some td){u:Value}{l:List MapEntry}{r:Option (Nat×Value)}(h:Instr.findNow td u l 0=some r)(w':World):(Instr.findKey kt u l).run P w'=.ok r w':=by
 simp[Instr.findKey,Xa ht,h]
theorem Yx {kt:TypeId}{td:TypeDesc}(ht:P.underlying kt=some td){k:D}(hk:Qc td k=true)(u:Value)(b:Bool)(w':World):(Instr.checkKey b 10000 kt u).run P w'=.ok () w':=by
 unfold Instr.checkKey
 simp only[Sem.run_bind,Xa ht,Result.andThen_ok]
 unfold Qc at hk
 split at hk<;>first | (cases hk; done) | simp
theorem X50 {et:TypeId}{z:D}(h:(match Q7 P et with | some cs=>D.isC z cs&&(((P.info? et).bind (·.zero)).map fun v=>match v with | .agg _=>true | _=>false)==some (V.d z).isAgg | none=>false)=true) :
  ∃zv,(V.d z).rep w ρ zv/\∀w',(zeroValue et).run P w'=.ok zv w':=by
 cases hzt:Q7 P et with
 | none=>simp[hzt]at h
 | some cs=>
  simp only[hzt,Bool.and_eq_true,beq_iff_eq]at h
  obtain⟨hz1,hz2⟩:=h
  obtain⟨zv,e1,e2,hzr⟩:=Jn hzt
  refine⟨zv,?_,hzr⟩
  have hr:(V.d z).repC w ρ cs:=by simp only[V.repC]; exact D.isC_rep z cs hz1
  rw[e2]at hz2
  simp only[Option.map_some,Option.some.injEq]at hz2
  cases zv with
  | agg cs'=>
   simp only at hz2
   refine .inr (.inl ⟨hz2.symm,cs,?_,hr⟩)
   simp only[Value.cells]at e1
   rw[<-e1]
  | _=>
   simp only at hz2
   refine .inr (.inr ⟨hz2.symm,?_⟩)
   simp only[Value.cells]at e1
   rw[<-e1]at hr
   simpa using hr
theorem X3t (hs:SM w ρ sl a)(hO:OM w ρ ob){op:Op}{kd z:D}{ok:Bool}{m k:A}(hc:I.chk P op (.lkp kd z ok m k)=true)(h:Xx1 ob kd z ok (fun v=>K v ob) (m.ev sl) (k.ev sl)):Qo P a w ρ op K Pn:=by
 cases op<;>simp only[I.chk,Bool.false_eq_true]at hc
 rename_i t x i o
 simp only[Bool.and_eq_true,beq_iff_eq]at hc
 obtain⟨⟨⟨rfl,hty⟩,hx⟩,hi⟩:=hc
 obtain⟨kt,et,ht,hkk,hz⟩:∃kt et,P.underlying t=some (.map kt et)/\Qw P kt kd=true/\(match Q7 P et with | some cs=>D.isC z cs&&(((P.info? et).bind (·.zero)).map fun v=>match v with | .agg _=>true | _=>false)==some (V.d z).isAgg | none=>false)=true:=by
  revert hty; split
  ·rename_i kt et h; intro h1; simp only[Bool.and_eq_true]at h1; exact⟨kt,et,h,h1.1,h1.2⟩
  ·intro h; cases h
 obtain⟨td,htd,hkd⟩:∃td,P.underlying kt=some td/\Qc td kd=true:=by
  unfold Qw at hkk
  split at hkk
  ·rename_i d hd; exact⟨d,hd,hkk⟩
  ·cases hkk
 obtain⟨zv,hzv,hzr⟩:=X50 (w:=w) (ρ:=ρ) hz
 have r1:=A.sound hs hx
 have r2:=A.sound hs hi
 have tup:∀{v:V} {u:Value} (b:Bool),v.rep w ρ u->(V.tup [v,.d (.bool b)]).rep w ρ (.tuple #[u,.bool b]):=fun b hv=>by
  rw[rep_tup]
  refine⟨[_,.bool b],rfl,?_⟩
  simp only[V.reps]
  exact⟨_,_,rfl,hv,_,_,rfl,rep_bool.2 rfl,rfl⟩
 have keyRep:∀{d:D} {u v:Value},d.key=some u->(V.d d).rep w ρ v->v=u:=fun {d u v} h1 h2=>by
  cases d<;>simp only[D.key,Option.some.injEq,reduceCtorEq]at h1
  ·rw[X5]at h2; rw[h2,<-h1]
  ·rw[rep_bool]at h2; rw[h2,<-h1]
  ·rw[rep_str]at h2; rw[h2,<-h1]
 unfold Xx1 at h
 split at h
 ·rename_i id kk e1 e2
  rw[e1]at r1
  rw[e2]at r2
  unfold Xhc at h
  split at h
  ·rename_i es hl
   obtain⟨⟨ha0,hall⟩,hK⟩:=h
   obtain⟨b,l,clk,g1,g2,g3⟩:=hO.one id _ hl
   rw[X0t]at r1
   rcases r1 with⟨b',g4,r1⟩ | ⟨g4,_⟩
   ·rw[g1]at g4; cases g4
    have hkk':=Xbx hkd ha0
    obtain⟨_,ku,_,hku⟩:=Xdn ha0
    have r2':=keyRep hku r2
    have hget:(getObj b).run P w=.ok (.map l.toArray clk) w:=by simp[getObj,Sem.run,g2]
    rcases Xw8 hkk' hku es l 0 g3 hall with⟨f1,f2⟩ | ⟨v,j,e,f1,f2,f3,f4,f5⟩
    ·rw[f1]at hK
     cases o
     ·exact Xl (fun o ho=>by simp[execOp,ho,Instr.lookup,r1,r2',Xa ht,hget,Yx htd hkk',Y6 htd f2,hzr]) hK hzv hO (Tr.refl _ _)
     ·exact Xl (fun o ho=>by simp[execOp,ho,Instr.lookup,r1,r2',Xa ht,hget,Yx htd hkk',Y6 htd f2,hzr]) hK (tup false hzv) hO (Tr.refl _ _)
    ·rw[f1]at hK
     cases o
     ·exact Xl (fun o ho=>by simp[execOp,ho,Instr.lookup,r1,r2',Xa ht,hget,Yx htd hkk',Y6 htd f2]) hK f4 hO (Tr.refl _ _)
     ·exact Xl (fun o ho=>by simp[execOp,ho,Instr.lookup,r1,r2',Xa ht,hget,Yx htd hkk',Y6 htd f2]) hK (tup true f4) hO (Tr.refl _ _)
   ·rw[g1]at g4; cases g4
  ·exact h.elim
 ·rename_i kk e1 e2
  rw[e1,Xsq]at r1
  rw[e2]at r2
  obtain⟨ha0,hK⟩:=h
  have hkk':=Xbx hkd ha0
  obtain⟨_,ku,_,hku⟩:=Xdn ha0
  have r2':=keyRep hku r2
  have f2:Instr.findNow td ku ([]:List MapEntry) 0=some none:=rfl
  cases o
  ·exact Xl (fun o ho=>by simp[execOp,ho,Instr.lookup,r1,r2',Xa ht,Yx htd hkk',Y6 htd f2,hzr]) hK hzv hO (Tr.refl _ _)
  ·exact Xl (fun o ho=>by simp[execOp,ho,Instr.lookup,r1,r2',Xa ht,Yx htd hkk',Y6 htd f2,hzr]) hK (tup false hzv) hO (Tr.refl _ _)
 ·exact h.elim

theorem X9a {td:TypeDesc}{k:D}{u:Value}{x:V}{xv:Value}(hk:Qc td k=true)(hu:k.key=some u)(hx:x.rep w ρ xv)(clk:Nat):∀(es:List (D×V)) (l:List MapEntry) (i:Nat),Zj w ρ es l->(∀e∈es,D.alike k e.1=true)->
  (Instr.findNow td u l i=some none/\Zj w ρ (Xqh k x es) (l++[{ key:=u,val:=xv,born:=clk }]))\/∃j e v,Instr.findNow td u l i=some (some (i+j,v))/\l[j]? = some e/\e.key=u/\Zj w ρ (Xqh k x es) (l.modify j fun e=>{ e with key:=u,val:=xv })
 | [],l,i,h,_=>by
  simp only[Zj]at h; subst h
  exact .inl ⟨rfl,⟨_,[],rfl,hu,hx,rfl⟩⟩
 | (j,v)::r,l,i,h,ha=>by
  obtain⟨e,l',rfl,h1,h2,h3⟩:=h
  have haj:=ha (j,v) (by simp)
  have hs:=Xgb hk haj hu h1
  simp only[Instr.findNow,Xqh,hs]
  cases hsk:D.sameKey k j with
  | true=>
   refine .inr ⟨0,e,e.val,by simp,by simp,?_,?_⟩
   ·cases k<;>cases j<;>simp only[D.alike,Bool.false_eq_true,decide_eq_true_eq]at haj<;>simp only[D.sameKey,beq_iff_eq]at hsk<;>simp only[D.key,Option.some.injEq]at hu h1<;>rw[<-hu,<-h1]<;>simp_all
   ·simp only[if_true]
    exact⟨_,l',rfl,hu,hx,h3⟩
  | false=>
   rcases X9a hk hu hx clk r l' (i+1) h3 (fun x hx=>ha x (by simp[hx])) with⟨f1,f2⟩ | ⟨j',e',v',f1,f2,f3,f4⟩
   ·refine .inl ⟨by simpa using f1,?_⟩
    exact⟨e,_,rfl,h1,h2,f2⟩
   ·refine .inr ⟨j'+1,e',v',by simp only[f1]; congr 3; omega,by simpa using f2,f3,?_⟩
    exact⟨e,_,rfl,h1,h2,f4⟩
theorem Xlj {k:D}{u:Value}(h:k.key=some u):Instr.sameBits 10000 u u=true:=by
 cases k<;>simp only[D.key,Option.some.injEq,reduceCtorEq]at h
 ·subst h; show (_==_&&_==_)=true; simp
 ·subst h; show (_==_)=true; simp
 ·subst h; show (_==_)=true; rw[beq_toListBytes]; simp
theorem Xwx (hs:SM w ρ sl a)(hO:OM w ρ ob){op:Op}{kd:D}{m k v:A}(hc:I.chk P op (.mset kd m k v)=true)(h:Xeb ob kd (v.ev sl) K (m.ev sl) (k.ev sl)):Qo P a w ρ op K Pn:=by
 obtain⟨t,x,i,y,hop,hty,hx,hi,hy⟩:∃t x i y,(op=.mapUpdate t x i y\/op=.insert t x i y)/\(match P.underlying t with | some (.map kt _)=>Qw P kt kd | _=>false)=true/\A.chk x m=true/\A.chk i k=true/\A.chk y v=true:=by
  cases op<;>simp only[I.chk,Bool.false_eq_true,Bool.and_eq_true]at hc
  ·rename_i t x i y; exact⟨t,x,i,y,.inr rfl,hc.1.1.1,hc.1.1.2,hc.1.2,hc.2⟩
  ·rename_i t x i y; exact⟨t,x,i,y,.inl rfl,hc.1.1.1,hc.1.1.2,hc.1.2,hc.2⟩
 obtain⟨kt,et,ht,hkk⟩:∃kt et,P.underlying t=some (.map kt et)/\Qw P kt kd=true:=by
  revert hty; split
  ·rename_i kt et h; intro h1; exact⟨kt,et,h,h1⟩
  ·intro h; cases h
 obtain⟨td,htd,hkd⟩:∃td,P.underlying kt=some td/\Qc td kd=true:=by
  unfold Qw at hkk
  split at hkk
  ·rename_i d hd; exact⟨d,hd,hkk⟩
  ·cases hkk
 have r1:=A.sound hs hx
 have r2:=A.sound hs hi
 have r3:=A.sound hs hy
 have keyRep:∀{d:D} {u v:Value},d.key=some u->(V.d d).rep w ρ v->v=u:=fun {d u v} h1 h2=>by
  cases d<;>simp only[D.key,Option.some.injEq,reduceCtorEq]at h1
  ·rw[X5]at h2; rw[h2,<-h1]
  ·rw[rep_bool]at h2; rw[h2,<-h1]
  ·rw[rep_str]at h2; rw[h2,<-h1]
 unfold Xeb at h
 split at h
 ·rename_i id kk e1 e2
  rw[e1]at r1
  rw[e2]at r2
  unfold Xaz at h
  split at h
  ·rename_i es hl
   obtain⟨⟨ha0,hall⟩,hst,hK⟩:=h
   obtain⟨b,l,clk,g1,g2,g3⟩:=hO.one id _ hl
   rw[X0t]at r1
   rcases r1 with⟨b',g4,r1⟩ | ⟨g4,_⟩
   ·rw[g1]at g4; cases g4
    have hkk':=Xbx hkd ha0
    obtain⟨_,ku,_,hku⟩:=Xdn ha0
    have r2':=keyRep hku r2
    have hget:(getObj b).run P w=.ok (.map l.toArray clk) w:=by simp[getObj,Sem.run,g2]
    rcases X9a hkk' hku r3 clk es l 0 g3 hall with⟨f1,f2⟩ | ⟨j,e,v',f1,f2,f3,f4⟩
    ·obtain⟨t1,o1⟩:=Xlw (clk':=clk+1) hO hl g1 g2 f2
     refine Xae (fun o ho=>?_) hK o1 t1
     have hset:(setObj b (.map ((l++[(⟨ku,a.eval y,clk⟩:MapEntry)]).toArray) (clk+1))).run P w=.ok () (Xuw w b (.map ((l++[(⟨ku,a.eval y,clk⟩:MapEntry)]).toArray) (clk+1))):=by simp[setObj,Sem.run,g2,Xuw]
     rcases hop with rfl | rfl<;>simp[execOp,ho,Instr.mapUpdate,r1,r2',Xa ht,hget,Yx htd hkk',Y6 htd f1]<;>(rw[hset]; simp)
    ·obtain⟨t1,o1⟩:=Xlw (clk':=clk) hO hl g1 g2 f4
     refine Xae (fun o ho=>?_) hK o1 t1
     have hks:(Instr.keyThatStays e.key ku).run P w=.ok ku w:=by simp[Instr.keyThatStays,f3,Xlj hku]
     have hm:(l.toArray.modify j fun e=>{ e with key:=ku,val:=a.eval y })=(l.modify j fun e=>{ e with key:=ku,val:=a.eval y }).toArray:=by simp
     have hset:(setObj b (.map (l.modify j fun e=>{ e with key:=ku,val:=a.eval y }).toArray clk)).run P w=.ok () (Xuw w b (.map (l.modify j fun e=>{ e with key:=ku,val:=a.eval y }).toArray clk)):=by simp[setObj,Sem.run,g2,Xuw]
     have f1':Instr.findNow td ku l 0=some (some (j,v')):=by rw[f1]; simp
     rcases hop with rfl | rfl<;>simp[execOp,ho,Instr.mapUpdate,r1,r2',Xa ht,hget,Yx htd hkk',Y6 htd f1',f2,hks]<;>(rw[hset]; simp)
   ·rw[g1]at g4; cases g4
  ·exact h.elim
 ·exact h.elim

theorem X3q {P:Prg}(hg:ρ.gl=P.g)(hO:OM w ρ ob){op:Op}{g n:Nat}{ag:Bool}{x:D}(hc:I.chk P.p op (.gld g n ag x)=true)(h:Xcc P g x/\x.sz=n/\(V.d x).isAgg=ag/\K (.d x) ob):Qo P.p a w ρ op K Pn:=by
 obtain⟨t,hop,h1,h2,h3⟩:∃t,op=.load t (.global g)/\Yb P.p t=some n/\(P.p.underlying t).isSome=true/\agT P.p t=ag:=by
  simp only[I.chk]at hc
  split at hc
  ·rename_i t hh
   simp only[Bool.and_eq_true,beq_iff_eq]at hc
   obtain⟨⟨⟨rfl,h1⟩,h2⟩,h3⟩:=hc
   exact⟨t,rfl,h1,h2,h3⟩
  ·cases hc
 obtain⟨⟨cs,T,f,hgl,hx⟩,hsz,hag,hK⟩:=h
 obtain⟨hh,hno⟩:=hO.glb g _ (by rw[hg]; exact hgl)
 have hrep:x.rep w (own ρ) cs:=D.isC_rep x cs hx
 have hr:(V.d (.ref x)).rep w ρ (.pointer (some ⟨g,0,none⟩)):=Jw.2 ⟨⟨g,0,none⟩,cs,rfl,rfl,⟨fun _=>⟨rfl,hno,Xn hh⟩,fun i hi=>by simp[World.cell?,hh,hi]⟩,hrep⟩
 let a2:Act:=⟨#[.pointer (some ⟨g,0,none⟩)],[]⟩
 have hs2:SM w ρ [(0,.d (.ref x))] a2:=by
  intro k
  simp only[look]
  split
  ·rename_i e; subst e; exact hr
  ·exact Xen
 obtain⟨v,y,hK2,hr2,hrun⟩:=Xdf (P:=P.p) (K:=fun v=>v=V.d x) (a:=a2) (n:=n) (ag:=ag) (x:=.t 0) (op:=.load t (.tmp 0)) hs2 hO (by simp[C.chk,h1,h2,h3,A.chk]) (by simp[A.ev,look,ldK,hsz,hag])
 subst hK2
 refine Xl (fun o ho=>?_) hK hr2 hO (Tr.refl _ _)
 have:=hrun ⟨none,.load t (.tmp 0),0, "", #[],none⟩ rfl w (fun _=>Ext.refl w)
 simp only[execOp,Act.eval,a2]at this
 simp only[execOp,ho,hop,Act.eval]
 simpa using this

theorem X3z (hs:SM w ρ sl a)(hO:OM w ρ ob){op:Op}{n z:Nat}{x:A}(hc:I.chk P op (.slg n z x)=true)(h:X85 ob n z K (x.ev sl)):Qo P a w ρ op K Pn:=by
 obtain⟨t,x1,e,hop,ht,he,hx⟩:∃t x1 e,op=.slice t x1 none none none/\P.underlying t=some (.array n e)/\Yb P e=some z/\A.chk x1 x=true:=by
  simp only[I.chk]at hc
  split at hc
  ·rename_i t x1
   simp only[Bool.and_eq_true]at hc
   obtain⟨h0,h1⟩:=hc
   split at h0
   ·rename_i m e hu
    simp only[Bool.and_eq_true,beq_iff_eq]at h0
    obtain⟨rfl,h0⟩:=h0
    exact⟨t,x1,e,rfl,hu,h0,h1⟩
   ·cases h0
  ·cases hc
 have r1:=A.sound hs hx
 unfold X85 at h
 split at h
 ·rename_i id p e1
  rw[e1]at r1
  unfold Xua at h
  split at h
  ·rename_i xs hat
   obtain⟨hl,hz,hK⟩:=h
   obtain⟨t0,b',cs,E,g1,g2,g3,g4,g5⟩:=Js hO hat
   obtain⟨b,sh,hρ,r1⟩:=rep_ptr_box hO g1 r1
   rw[hρ]at g3
   simp only[Option.some.injEq,RO.box.injEq]at g3
   obtain⟨rfl,rfl⟩:=g3
   obtain⟨t1,o1,hno⟩:=Xbt hO (id:=id) ⟨_,g1⟩
   obtain⟨c1,c2,c3,q1,q2,q3⟩:=V.repC_at p t0 _ cs g5 g2
   simp only[V.repC,D.rep]at q3
   refine Xl (v:=.slice (some ⟨b,t0.shape.off p,none⟩) n n) (fun o ho=>?_) hK ?_ o1 t1
   ·simp only[execOp,ho,hop,r1,Option.map_none,Instr.sliceAt,Sem.run_bind,Xa ht,Result.andThen_ok,Instr.sureAddr,Sem.run_pure,Instr.sliceBounds,Xo he]
    simp only[Nat.zero_mul,Nat.sub_zero]
    rw[Addr.add_eq rfl]
    simp
   ·rw[Yy]
    refine .inr ⟨⟨b,t0.shape.off p,none⟩,n,c2,by rw[hl],by omega,⟨fun _=>⟨rfl,hno b _ hρ rfl,Xn g4⟩,fun i hi=>?_⟩,D.repL_mono t1.mono _ _ q3,hz⟩
    rw[<-q2]
    simp[World.cell?,g4,q1,List.getElem?_append,hi]
  ·exact h.elim
 ·exact h.elim

theorem X3y (hs:SM w ρ sl a)(hO:OM w ρ ob){op:Op}{n z:Nat}{x:A}{lo hi:Option A}(hc:I.chk P op (.slb n z x lo hi)=true)(h:Yeo ob n z (lo.map (A.ev sl)) (hi.map (A.ev sl)) K (x.ev sl)):Qo P a w ρ op K Pn:=by
 cases op<;>simp only[I.chk,Bool.false_eq_true]at hc
 rename_i t x1 l1 h1 m1
 cases m1<;>simp only[Bool.false_eq_true]at hc
 simp only[Bool.and_eq_true]at hc
 obtain⟨⟨⟨h0,hx⟩,hlo⟩,hhi⟩:=hc
 obtain⟨e,ht,he⟩:∃e,P.underlying t=some (.array n e)/\Yb P e=some z:=by
  revert h0; split
  ·rename_i m e hu
   simp only[Bool.and_eq_true,beq_iff_eq]
   rintro⟨rfl,h0⟩
   exact⟨e,hu,h0⟩
  ·simp
 have r1:=A.sound hs hx
 unfold Yeo at h
 split at h
 ·rename_i id p e1
  rw[e1]at r1
  cases hat:atO ob id p with
  | none=>simp[hat,Zq,Xt8]at h
  | some v=>
   cases hk:v.kids with
   | none=>simp[hat,Zq,hk,Xt8]at h
   | some ks=>
    simp only[hat,Zq,hk,Xt8]at h
    obtain⟨hlen,hz,h⟩:=h
    obtain⟨t0,b',cs,E,g1,g2,g3,g4,g5⟩:=Js hO hat
    obtain⟨b,sh,hρ,r1⟩:=rep_ptr_box hO g1 r1
    rw[hρ]at g3
    simp only[Option.some.injEq,RO.box.injEq]at g3
    obtain⟨rfl,rfl⟩:=g3
    obtain⟨l,h',hK,q1,q2,hr⟩:=Ja (P:=P) (cap:=n) (isS:=false) hs (Nat.le_refl _) hlo hhi h
    refine Xl (v:=.slice (some (if n=l then⟨b,t0.shape.off p,none⟩ else (⟨b,t0.shape.off p,none⟩:Addr).add (l*z))) (h'-l) (n-l)) (fun o ho=>?_) hK ?_ hO (Tr.refl _ _)
    ·simp only[execOp,ho,r1,Instr.sliceAt,Sem.run_bind,Xa ht,Result.andThen_ok,Instr.sureAddr,Sem.run_pure,Option.map_none,hr,Xo he]
    ·rw[Xlb]
     refine .inl ⟨b,t0.shape,n-l,if n=l then t0.shape.off p else t0.shape.off p+l*z,hρ,⟨by omega,fun hne=>?_⟩,?_⟩
     ·rw[if_neg (by omega),Sh.off_append _ p t0 v l rfl g2,Xee hk,X4 (z:=z) _ (fun x hx=>hz x (List.mem_of_mem_take hx)),List.length_take,Nat.min_eq_left (by omega)]
     ·split
      ·rfl
      ·rw[Addr.add_eq rfl]
 ·exact h.elim
theorem Xwj (hO:OM w ρ ob){id lo n z:Nat}{p:List Nat}{ys:List D}{vs:List Value}{r:V}{u:Value}(hu:(V.bs id p lo n).rep w ρ u)(hy:D.repL w (own ρ) ys vs)(hz:∀y∈ys,y.sz=z)(hn:ys.length<=n)
  (h:X12 ob id p lo n z ys r K (lookO ob id)):∃b f cap w' ob',u=.slice (some ⟨b,f,none⟩) n cap/\(storeCells ⟨b,f,none⟩ vs).run P w=.ok () w'/\Tr w ρ w' ρ/\OM w' ρ ob'/\K r ob':=by
 unfold X12 at h
 split at h
 ·rename_i E t hl
  unfold Yk2 at h
  split at h
  ·rename_i xs hat
   obtain⟨hle,hxz,hsh,t',hset,hK⟩:=h
   obtain⟨b,cs,g1,g2,g3⟩:=hO.one id _ hl
   rw[Xlb]at hu
   rcases hu with⟨b',sh,cap,f,q1,⟨q2,q3⟩,q4⟩ | ⟨q1,_⟩
   case inr=>rw[q1]at g1; cases g1
   rw[g1]at q1
   simp only[Option.some.injEq,RO.box.injEq]at q1
   obtain⟨rfl,rfl⟩:=q1
   obtain⟨c1,c2,c3,e2,e3,h4⟩:=V.repC_at p t _ cs g3 hat
   simp only[V.repC,D.rep]at h4
   have hvl:vs.length=ys.length*z:=by rw[D.repL_len _ _ hy,D.szs_uniform _ hz]
   have hc2:c2.length=xs.length*z:=by rw[D.repL_len _ _ h4,D.szs_uniform _ hxz]
   have tk:∀i,i<=xs.length->D.szs (xs.take i)=i*z:=fun i hi=>by
    rw[D.szs_uniform (sz:=z) _ (fun y hy=>hxz y (List.mem_of_mem_take hy)),List.length_take,Nat.min_eq_left hi]
   have s1:=(D.repL_split xs lo c2 h4).1
   have s2:=(D.repL_split xs (lo+ys.length) c2 h4).2
   rw[tk lo (by omega)]at s1
   rw[tk (lo+ys.length) (by omega)]at s2
   have hnew:D.repL w (own ρ) (X8y lo xs ys) (c2.take (lo*z)++(vs++c2.drop ((lo+ys.length)*z))):=D.repL_append s1 (D.repL_append hy s2)
   have hlz:(lo+ys.length)*z<=c2.length:=by rw[hc2]; exact Nat.mul_le_mul_right z (by omega)
   have hlz2:lo*z+vs.length=(lo+ys.length)*z:=by rw[hvl,Nat.add_mul]
   obtain⟨t'',e4,e5,h6⟩:=V.repC_set p t _ (.d (.agg (X8y lo xs ys))) cs _ g3 hat (by simp only[V.repC,D.rep]; exact hnew) (by simpa only[V.shape]using hsh)
   rw[hset]at e4
   simp only[Option.some.injEq]at e4
   subst e4
   have e7:cs.take (t.shape.off p)++(c2.take (lo*z)++(vs++c2.drop ((lo+ys.length)*z))++cs.drop (t.shape.off p+(c2.take (lo*z)++(vs++c2.drop ((lo+ys.length)*z))).length))=c1++((c2.take (lo*z)++(vs++c2.drop ((lo+ys.length)*z)))++c3):=by
    have hl2:(c2.take (lo*z)++(vs++c2.drop ((lo+ys.length)*z))).length=c2.length:=by
     simp only[List.length_append,List.length_take,List.length_drop]; omega
    rw[hl2,<-e3,e2,List.take_left,<-List.append_assoc c1 c2 c3,<-List.length_append,List.drop_left]
   rw[e7]at h6
   by_cases hn0:n=0
   ·have hy0:ys=[]:=List.eq_nil_of_length_eq_zero (by omega)
    subst hy0
    have hv0:vs=[]:=List.eq_nil_of_length_eq_zero (by simpa using hvl)
    subst hv0
    have e8:c1++((c2.take (lo*z)++([]++c2.drop ((lo+([]:List D).length)*z)))++c3)=cs:=by rw[e2]; simp
    rw[e8]at h6
    exact⟨b,f,cap,w,_,q4,by simp[storeCells],Tr.refl _ _,hO.swap hl (x':=.box E t') ⟨b,cs,by rw[e5]; exact g1,g2,h6⟩,hK⟩
   ·have hf:=q3 hn0
    have hks:(V.d (.agg xs)).kids=some (xs.map .d):=rfl
    have hoff:t.shape.off (p++[lo])=t.shape.off p+lo*z:=by
     rw[Sh.off_append _ p t _ lo rfl hat,Xee hks,X4 (z:=z) _ (fun x hx=>?_),List.length_take,List.length_map,Nat.min_eq_left (by omega)]
     obtain⟨y,hy,rfl⟩:=List.mem_map.1 (List.mem_of_mem_take hx)
     simp[V.size,V.shape,D.size_shape,hxz y hy]
    obtain⟨t1,o1⟩:=write_box hO hl g1 g2 e5 h6
    have hrun:=run_storeCells_at (P:=P) b (t.shape.off p+lo*z) E vs 0 cs.toArray w g2 (by rw[e2,<-e3]; simp; omega) (D.ones ys vs hy)
    refine⟨b,f,cap,_,_,q4,?_,t1,o1,hK⟩
    rw[hf,hoff,hrun]
    congr 2
    simp only[Nat.add_zero]
    rw[e2,<-e3,List.take_length_add_append,Nat.add_assoc,List.drop_length_add_append,hlz2,List.take_append_of_le_length (by omega),List.drop_append_of_le_length hlz]
    simp
  ·exact h.elim
 ·exact h.elim
theorem X3o (hs:SM w ρ sl a)(hO:OM w ρ ob){op:Op}{z:Nat}{x y:A}(hc:I.chk P op (.cpy z x y)=true)(h:Yk5 z ob K (x.ev sl) (y.ev sl)):Qo P a w ρ op K Pn:=by
 cases op<;>simp only[I.chk,Bool.false_eq_true]at hc
 rename_i c
 obtain⟨ca,args,ts⟩:=c
 cases ca<;>(try simp only[Bool.false_eq_true]at hc)
 rename_i b
 cases b<;>(try simp only[Bool.false_eq_true]at hc)
 split at hc
 ·rename_i u v t t2 e1 e2
  simp only[Bool.and_eq_true]at hc
  obtain⟨⟨h0,h1⟩,h2⟩:=hc
  have ea:args=#[u,v]:=by simpa using congrArg List.toArray e1
  have et:ts=#[t,t2]:=by simpa using congrArg List.toArray e2
  subst ea et
  obtain⟨e,ht,he,hz0⟩:∃e,P.underlying t=some (.slice e)/\Yb P e=some z/\z ≠ 0:=by
   revert h0; split<;>simp_all
  have r1:=A.sound hs h1
  have r2:=A.sound hs h2
  unfold Yk5 at h
  split at h
  ·rename_i id p lo n z' ys e3 e4
   obtain⟨rfl,h⟩:=h
   rw[e3]at r1
   rw[e4,Yy]at r2
   have key:∃vs,D.repL w (own ρ) (ys.take n) vs/\(∀y∈ys.take n,y.sz=z')/\(Builtin.lenOf (a.eval v)).run P w=.ok ys.length w/\(Builtin.firstCells z' (Nat.min ys.length n) (a.eval v)).run P w=.ok vs.toArray w:=by
    rcases r2 with⟨rfl,r2⟩ | ⟨ad,cap,vs,r2,hcap,hce,hre,hu⟩
    ·exact⟨[],by simp[D.repL],by simp,by simp[r2,Builtin.lenOf],by simp[r2,Builtin.firstCells]⟩
    ·have s1:=(D.repL_split ys n vs hre).1
     have hvl:vs.length=ys.length*z':=by rw[D.repL_len _ _ hre,D.szs_uniform _ hu]
     have tk:D.szs (ys.take n)=Nat.min ys.length n*z':=by
      rw[D.szs_uniform (sz:=z') _ (fun y hy=>hu y (List.mem_of_mem_take hy)),List.length_take,Nat.min_comm]
     rw[tk]at s1
     refine⟨_,s1,fun y hy=>hu y (List.mem_of_mem_take hy),by simp[r2,Builtin.lenOf],?_⟩
     have hlen:(vs.take (Nat.min ys.length n*z')).length=Nat.min ys.length n*z':=by
      rw[List.length_take,hvl,Nat.min_eq_left (Nat.mul_le_mul_right z' (Nat.min_le_left _ _))]
     have hl:=run_loadCells_list (P:=P) (w:=w) ad (vs.take (Nat.min ys.length n*z')) (fun j c hj=>by
      obtain⟨hj',e⟩:=List.getElem?_eq_some_iff.1 hj
      have hj2:j<vs.length:=by rw[List.length_take]at hj'; omega
      have hne:vs ≠ []:=by intro h; simp[h]at hj2
      rw[Addr.add_eq (hce.1 hne).1,<-e,List.getElem_take]
      exact hce.2 j hj2)
     rw[hlen]at hl
     rw[r2]
     simpa only[Builtin.firstCells]using hl
   obtain⟨vs,hy,hz,hlen,hfc⟩:=key
   obtain⟨b,f,cap,w',ob',q1,q2,t1,o1,hK⟩:=Xwj (P:=P) hO r1 hy hz (by rw[List.length_take]; omega) h
   refine Xl (v:=.int .i64 (Nat.min ys.length n:Nat)) (fun o ho=>?_) hK (X5.2 rfl) o1 t1
   have hcopy:∀ty,(Builtin.copy_ #[t,t2] ty #[a.eval u,a.eval v]).run P w=.ok (goInt (Nat.min ys.length n)) w':=by
    intro ty
    unfold Builtin.copy_
    have e0:(#[t,t2]:Array TypeId)[0]? = some t:=rfl
    have ev0:(#[a.eval u,a.eval v]:Array Value)[0]? = some (a.eval u):=rfl
    have ev1:(#[a.eval u,a.eval v]:Array Value)[1]? = some (a.eval v):=rfl
    rw[e0,ev0,ev1,q1]
    simp only[Sem.run_bind,Xa ht,Result.andThen_ok,hlen,Xo he,hfc,q2,Sem.run_pure]
   simp only[execOp,ho,resolve,invoke,builtin,Sem.run_bind,Sem.run_pure,Result.andThen_ok,List.map_toArray,List.map_cons,List.map_nil,hcopy]
   rfl
  ·exact h.elim
 ·simp at hc
theorem X3n (hs:SM w ρ sl a)(hO:OM w ρ ob){op:Op}{z0:D}{z:Nat}{x:A}(hc:I.chk P op (.clr z0 z x)=true)(h:Yk3 z0 z ob K (x.ev sl)):Qo P a w ρ op K Pn:=by
 cases op<;>simp only[I.chk,Bool.false_eq_true]at hc
 rename_i c
 obtain⟨ca,args,ts⟩:=c
 cases ca<;>(try simp only[Bool.false_eq_true]at hc)
 rename_i b
 cases b<;>(try simp only[Bool.false_eq_true]at hc)
 split at hc
 ·rename_i u t e1 e2
  simp only[Bool.and_eq_true]at hc
  obtain⟨h0,h1⟩:=hc
  have ea:args=#[u]:=by simpa using congrArg List.toArray e1
  have et:ts=#[t]:=by simpa using congrArg List.toArray e2
  subst ea et
  obtain⟨e,ht,he,hz0,cs,hzt,hzc0⟩:∃e,P.underlying t=some (.slice e)/\Yb P e=some z/\z ≠ 0/\∃cs,Q7 P e=some cs/\D.isC z0 cs=true:=by
   revert h0; split
   ·rename_i e hu
    simp only[Bool.and_eq_true,beq_iff_eq,bne_iff_ne,ne_eq]
    rintro⟨⟨h2,h3⟩,h4⟩
    refine⟨e,hu,h2,h3,?_⟩
    cases hz:Q7 P e with
    | none=>simp[hz]at h4
    | some cs=>simp only[hz]at h4; exact⟨cs,rfl,h4⟩
   ·simp
  obtain⟨zv,ez,_,hzrun⟩:=Jn hzt
  have r1:=A.sound hs h1
  unfold Yk3 at h
  split at h
  ·rename_i id p lo n e3
   rw[e3]at r1
   have e0:(#[t]:Array TypeId)[0]? = some t:=rfl
   have ev0:(#[a.eval u]:Array Value)[0]? = some (a.eval u):=rfl
   by_cases hn:n=0
   ·subst hn
    obtain⟨⟨E,t0,hl⟩,h⟩:=h.1 rfl
    refine Xl (v:=.tuple #[]) (fun o ho=>?_) h (rep_tup.2 ⟨[],rfl,rfl⟩) hO (Tr.refl _ _)
    have hclr:∀ty,(Builtin.clear_ #[t] ty #[a.eval u]).run P w=.ok (.tuple #[]) w:=by
     intro ty
     unfold Builtin.clear_
     rw[e0,ev0]
     rw[Xlb]at r1
     rcases r1 with⟨b,sh,cap,f,_,_,r1⟩ | ⟨hg,_⟩
     ·rw[r1]
      simp only[Sem.run_bind,Xa ht,Result.andThen_ok,Sem.run_pure]
     ·obtain⟨b,cs,h5,_⟩:=hO.one id _ hl
      rw[hg]at h5; cases h5
    simp only[execOp,ho,resolve,invoke,builtin,Sem.run_bind,Sem.run_pure,Result.andThen_ok,List.map_toArray,List.map_cons,List.map_nil,hclr]
   ·obtain⟨⟨hsz,hz1⟩,h⟩:=h.2 hn
    have hrows:∀m,D.repL w (own ρ) (List.replicate m z0) (List.replicate m cs).flatten:=by
     intro m
     induction m with
     | zero=>simp[D.repL]
     | succ m ih=>simp only[List.replicate_succ,List.flatten_cons,D.repL]; exact⟨cs,_,rfl,D.isC_rep z0 cs hzc0,ih⟩
    have hrow:=hrows n
    obtain⟨b,f,cap,w',ob',q1,q2,t1,o1,hK⟩:=Xwj (P:=P) hO r1 hrow (fun y hy=>by rw[List.eq_of_mem_replicate hy]; exact hsz) (by simp) h
    refine Xl (v:=.tuple #[]) (fun o ho=>?_) hK (rep_tup.2 ⟨[],rfl,rfl⟩) o1 t1
    have hclr:∀ty,(Builtin.clear_ #[t] ty #[a.eval u]).run P w=.ok (.tuple #[]) w':=by
     intro ty
     unfold Builtin.clear_
     rw[e0,ev0,q1]
     obtain⟨m,rfl⟩:∃m,n=m+1:=⟨n-1,by omega⟩
     have hzc:(Builtin.zeroCells zv.cells (m+1)).toList=(List.replicate (m+1) cs).flatten:=by
      have hl1:cs.length=1:=by rw[D.rep_len _ _ (D.isC_rep (w:=w) (ρ:=ρ) z0 cs hzc0),hsz,hz1]
      obtain⟨c,rfl⟩:=List.length_eq_one_iff.1 hl1
      have ez2:zv.cells=#[c]:=by apply Array.ext'; exact ez
      simp only[Builtin.zeroCells,ez2]
      apply List.ext_getElem
      ·simp
      ·intro i h1 h2
       simp[Nat.mod_one]
     simp only[Sem.run_bind,Xa ht,Result.andThen_ok,hzrun,hzc,q2,Sem.run_pure]
    simp only[execOp,ho,resolve,invoke,builtin,Sem.run_bind,Sem.run_pure,Result.andThen_ok,List.map_toArray,List.map_cons,List.map_nil,hclr]
  ·exact h.elim
 ·simp at hc
theorem Xq9 {P:Prg}(hg:ρ.gl=P.g)(hs:SM w ρ sl a)(hO:OM w ρ ob){op:Op}{g n z:Nat}{x:D}{i:A}(hc:I.chk P.p op (.gix g n z x i)=true)(h:Xcc P g x/\Yla n z (fun v=>K v ob) x (i.ev sl)):X9e P.p a w ρ op ob K:=by
 obtain⟨t,j,e,hop,ht,he,hj⟩:∃t j e,op=.indexAddr t (.global g) j/\P.p.underlying t=some (.array n e)/\Yb P.p e=some z/\A.chk j i=true:=by
  simp only[I.chk]at hc
  split at hc
  ·rename_i t hh j
   simp only[Bool.and_eq_true,beq_iff_eq]at hc
   obtain⟨⟨rfl,h0⟩,h1⟩:=hc
   split at h0
   ·rename_i m e hu
    simp only[Bool.and_eq_true,beq_iff_eq]at h0
    obtain⟨rfl,h0⟩:=h0
    exact⟨t,j,e,rfl,hu,h0,h1⟩
   ·cases h0
  ·cases hc
 obtain⟨⟨cs,T,f,hgl,hx⟩,h⟩:=h
 obtain⟨hh,hno⟩:=hO.glb g _ (by rw[hg]; exact hgl)
 have hrep:x.rep w (own ρ) cs:=D.isC_rep x cs hx
 have hr:(V.d (.ref x)).rep w ρ (.pointer (some ⟨g,0,none⟩)):=Jw.2 ⟨⟨g,0,none⟩,cs,rfl,rfl,⟨fun _=>⟨rfl,hno,Xn hh⟩,fun i hi=>by simp[World.cell?,hh,hi]⟩,hrep⟩
 have r2:=A.sound hs hj
 let a2:Act:=⟨#[.pointer (some ⟨g,0,none⟩),a.eval j],[]⟩
 have hs2:SM w ρ [(0,.d (.ref x)),(1,i.ev sl)] a2:=by
  intro k
  simp only[look]
  split
  ·rename_i e; subst e; exact hr
  ·split
   ·rename_i e; subst e; exact r2
   ·exact Xen
 unfold Yla at h
 split at h
 ·rename_i xs k m e1
  obtain⟨hm,hl,hz,hK⟩:=h
  obtain⟨v,y,hK2,hr2,hrun⟩:=Xge (P:=P.p) (K:=fun v=>v=V.d (.ref (xs.getD m.toNat default))) (a:=a2) (n:=n) (z:=z) (x:=.t 0) (y:=.t 1) (op:=.indexAddr t (.tmp 0) (.tmp 1)) hs2 hO (by simp[C.chk,ht,he,A.chk]) (by
   have q0:A.ev [(0,V.d (.ref (.agg xs))),(1,i.ev sl)] (.t 0)=.d (.ref (.agg xs)):=rfl
   have q1:A.ev [(0,V.d (.ref (.agg xs))),(1,i.ev sl)] (.t 1)=.d (.int k m):=by rw[<-e1]; rfl
   rw[q0,q1]; exact⟨hm,hl,hz,rfl⟩)
  subst hK2
  refine⟨_,_,w,hK,hr2,Ext.refl w,fun o ho=>?_⟩
  have:=hrun ⟨none,.indexAddr t (.tmp 0) (.tmp 1),0, "", #[],none⟩ rfl w (fun _=>Ext.refl w)
  simp only[execOp,Act.eval,a2]at this
  simp only[execOp,ho,hop,Act.eval]
  simpa using this
 ·exact h.elim

theorem I.sound {P:Prg}(hg:ρ.gl=P.g)(hs:SM w ρ sl a)(hO:OM w ρ ob){op:Op}:∀{i:I},i.chk P.p op=true->i.wp P sl ob K Pn->Qo P.p a w ρ op K Pn
 | .c _,hc,h=>Yfs hs hO hc h
 | .box _ _,hc,h=>(Xjy hs hO hc h).does
 | .alloc _ _,hc,h=>(Xdw hO hc h).does
 | .bls _ _ _,hc,h=>(Xq8 hs hO hc h).does hO
 | .blo _ _ _ _,hc,h=>(Xjw hs hO hc h).does
 | .st _ _ _,hc,h=>Ybz hs hO hc h
 | .app _ _ _ _ _,hc,h=>X3k hs hO hc h
 | .appS _ _ _ _,hc,h=>Xwv hs hO hc h
 | .call _ _,hc,h=>Xww hg hs hO hc h
 | .pcall _ _,hc,h=>(Xdv hg hs hO hc h).does hO
 | .callv _ _,hc,h=>Xth hg hs hO hc h
 | .panic _,hc,h=>Xti hs hO hc h
 | .b2s _,hc,h=>X3m hs hO hc h
 | .s2b _,hc,h=>(Xra hs hO hc h).does hO
 | .nilo _ _ _,hc,h=>Xwy hs hO hc h
 | .mvf _,hc,h=>X3v hs hO hc h
 | .ldf _ _ _,hc,h=>X3r hs hO hc h
 | .mvg _ _ _ _ _,hc,h=>X3w hs hO hc h
 | .mvn _ _ _,hc,h=>X3x hs hO hc h
 | .cvb _,hc,h=>X3p hs hO hc h
 | .ustr _ _ _,hc,h=>Xwz hs hO hc h
 | .mkm _,hc,h=>X3u hs hO hc h
 | .lkp _ _ _ _ _,hc,h=>X3t hs hO hc h
 | .mset _ _ _ _,hc,h=>Xwx hs hO hc h
 | .gld _ _ _ _,hc,h=>X3q hg hO hc h
 | .slg _ _ _,hc,h=>X3z hs hO hc h
 | .blv _ _ _ _,hc,h=>(Xjx hs hO hc h).does
 | .apv _ _ _ _ _,hc,h=>X3l hs hO hc h
 | .gv _,hc,h=>Yby hs hO hc h
 | .ldg _ _ _,hc,h=>X3s hs hO hc h
 | .slb _ _ _ _ _,hc,h=>X3y hs hO hc h
 | .cpy _ _ _,hc,h=>X3o hs hO hc h
 | .clr _ _ _,hc,h=>X3n hs hO hc h
 | .gix _ _ _ _ _,hc,h=>(Xq9 hg hs hO hc h).does hO

def I.kind:I->Nat
 | .c cc=>if cc.isLd then 1 else 0
 | .bls _ _ _ | .s2b _ | .pcall _ _ | .gix _ _ _ _ _=>2
 | .box _ _ | .alloc _ _ | .blo _ _ _ _ | .blv _ _ _ _=>4
 | _=>3

theorem I.soundE {P:Prg}(hg:ρ.gl=P.g)(hs:SM w ρ sl a)(hO:OM w ρ ob){op:Op}:∀{i:I},i.kind=2->i.chk P.p op=true->i.wp P sl ob K Pn->Xu0 P.p a w ρ op ob K
 | .bls _ _ _,_,hc,h=>(Xq8 hs hO hc h).doesE
 | .gix _ _ _ _ _,_,hc,h=>(Xq9 hg hs hO hc h).doesE
 | .s2b _,_,hc,h=>(Xra hs hO hc h).doesE
 | .pcall _ _,_,hc,h=>Xdv hg hs hO hc h
 | .c cc,hk,_,_=>by simp only[I.kind]at hk; split at hk<;>cases hk
 | .box _ _,hk,_,_ | .alloc _ _,hk,_,_ | .blo _ _ _ _,hk,_,_ | .st _ _ _,hk,_,_ | .app _ _ _ _ _,hk,_,_ | .appS _ _ _ _,hk,_,_ | .call _ _,hk,_,_ | .callv _ _,hk,_,_ | .panic _,hk,_,_ | .b2s _,hk,_,_ | .nilo _ _ _,hk,_,_ | .mvf _,hk,_,_ | .ldf _ _ _,hk,_,_ | .mvg _ _ _ _ _,hk,_,_ | .mvn _ _ _,hk,_,_ | .cvb _,hk,_,_ | .ustr _ _ _,hk,_,_ | .mkm _,hk,_,_ | .lkp _ _ _ _ _,hk,_,_ | .mset _ _ _ _,hk,_,_ | .gld _ _ _ _,hk,_,_ | .slg _ _ _,hk,_,_ | .blv _ _ _ _,hk,_,_ | .apv _ _ _ _ _,hk,_,_ | .gv _,hk,_,_ | .ldg _ _ _,hk,_,_ | .slb _ _ _ _ _,hk,_,_ | .cpy _ _ _,hk,_,_ | .clr _ _ _,hk,_,_=>by simp[I.kind]at hk
theorem I.soundX (hs:SM w ρ sl a)(hO:OM w ρ ob){Q:Prg}{op:Op}:∀{i:I},i.kind=4->i.chk P op=true->i.wp Q sl ob K Pn->Xji P a w ρ op K
 | .box _ _,_,hc,h=>Xjy hs hO hc h
 | .alloc _ _,_,hc,h=>Xdw hO hc h
 | .blo _ _ _ _,_,hc,h=>Xjw hs hO hc h
 | .blv _ _ _ _,_,hc,h=>Xjx hs hO hc h
 | .c cc,hk,_,_=>by simp only[I.kind]at hk; split at hk<;>cases hk
 | .bls _ _ _,hk,_,_ | .s2b _,hk,_,_ | .pcall _ _,hk,_,_ | .st _ _ _,hk,_,_ | .app _ _ _ _ _,hk,_,_ | .appS _ _ _ _,hk,_,_ | .call _ _,hk,_,_ | .callv _ _,hk,_,_ | .panic _,hk,_,_ | .b2s _,hk,_,_ | .nilo _ _ _,hk,_,_ | .mvf _,hk,_,_ | .ldf _ _ _,hk,_,_ | .mvg _ _ _ _ _,hk,_,_ | .mvn _ _ _,hk,_,_ | .cvb _,hk,_,_ | .ustr _ _ _,hk,_,_ | .mkm _,hk,_,_ | .lkp _ _ _ _ _,hk,_,_ | .mset _ _ _ _,hk,_,_ | .gld _ _ _ _,hk,_,_ | .slg _ _ _,hk,_,_ | .apv _ _ _ _ _,hk,_,_ | .gv _,hk,_,_ | .ldg _ _ _,hk,_,_ | .slb _ _ _ _ _,hk,_,_ | .cpy _ _ _,hk,_,_ | .clr _ _ _,hk,_,_ | .gix _ _ _ _ _,hk,_,_=>by simp[I.kind]at hk
end
end Go.Ab
namespace Go.Ab
open Go
section
variable {P:Program} {ops:Array Oper} {Q:Exit->Act->World->Prop} {md:Region.Mode} {R:World->World->Prop} {tl:Nat->Bool}

def Vv (P:Program)(md:Region.Mode)(ops:Array Oper)(Q:Exit->Act->World->Prop)(R:World->World->Prop)(tl:Nat->Bool):Nat->Array Bool->Act->World->Prop
 | 0,listed,a,w=>Region.ready md ops listed=[]/\Q .normal a w
 | fuel+1,listed,a,w=>
  (Region.ready md ops listed=[]->Q .normal a w)/\
  ∀i∈Region.ready md ops listed,wpOp P ops Q i (fun a' w'=>(tl i=false->R w w')/\Vv P md ops Q R tl fuel (listed.setIfInBounds i true) a' w') a w

theorem Xca:∀(fuel:Nat) (listed:Array Bool) (a:Act) (w:World),Vv P md ops Q R tl fuel listed a w->wpAny P md ops Q fuel listed a w
 | 0,_,_,_,h=>h
 | fuel+1,_,_,_,h=>⟨h.1,fun i hi=>wpOp_mono (fun a' w' h'=>Xca fuel _ a' w' h'.2) (h.2 i hi)⟩

def Xcb (md:Region.Mode)(ops:Array Oper)(listed:Array Bool):Prop:=
 ∀k o,ops[k]? = some o->listed.getD k false=true->∀e∈o.after,Region.binds md e=true->listed.getD e.on false=true

theorem Xcb.step {listed:Array Bool}(h:Xcb md ops listed){j:Nat}(hj:j∈Region.ready md ops listed):Xcb md ops (listed.setIfInBounds j true):=by
 obtain⟨_,oj,hoj,hall⟩:=mem_ready.1 hj
 intro k o hk hl e he hb
 by_cases hjk:j=k
 ·subst hjk
  rw[hoj]at hk; simp at hk; subst hk
  exact getD_set_true (hall e he hb)
 ·rw[getD_set_ne false hjk]at hl
  exact getD_set_true (h k o hk hl e he hb)

def Xcw (md:Region.Mode)(ops:Array Oper)(i:Nat):Nat->Nat->Bool
 | 0,_=>false
 | fuel+1,j=>match ops[j]? with
  | some o=>o.after.any fun e=>Region.binds md e&&(e.on==i||Xcw md ops i fuel e.on)
  | none=>false

theorem Xco {listed:Array Bool}(hc:Xcb md ops listed){i:Nat}:∀(fuel k:Nat),Xcw md ops i fuel k=true->listed.getD k false=true->listed.getD i false=true
 | 0,k,h,_=>by simp[Xcw]at h
 | fuel+1,k,h,hl=>by
  simp only[Xcw]at h
  split at h
  ·rename_i o ho
   rw[Array.any_eq_true']at h
   obtain⟨e,he,h⟩:=h
   simp only[Bool.and_eq_true,Bool.or_eq_true,beq_iff_eq]at h
   have h1:=hc k o ho hl e he h.1
   rcases h.2 with h2 | h2
   ·rw[<-h2]; exact h1
   ·exact Xco hc fuel e.on h2 h1
  ·simp at h

theorem Xa1 {listed:Array Bool}(hc:Xcb md ops listed){i j fuel:Nat}(hi:listed.getD i true=false)(h:Xcw md ops i fuel j=true):j∉Region.ready md ops listed:=by
 intro hj
 obtain⟨_,o,ho,hall⟩:=mem_ready.1 hj
 cases fuel with
 | zero=>simp[Xcw]at h
 | succ fuel=>
  simp only[Xcw,ho]at h
  rw[Array.any_eq_true']at h
  obtain⟨e,he,h⟩:=h
  simp only[Bool.and_eq_true,Bool.or_eq_true,beq_iff_eq]at h
  have h1:=hall e he h.1
  have hli:listed.getD i false=true:=by
   rcases h.2 with h2 | h2
   ·rw[<-h2]; exact h1
   ·exact Xco hc fuel e.on h2 h1
  rcases Nat.lt_or_ge i listed.size with h' | h'
  ·simp[h']at hi hli; rw[hi]at hli; cases hli
  ·simp[Array.getElem?_eq_none h']at hli

theorem Xuq {S S':World->Prop}{o:Oper}{v:Value}{a:Act}(h:YieldsIf P ops S o v a)(hs:∀w,S' w->S w):YieldsIf P ops S' o v a:=
 h.imp (fun ⟨h1,h2⟩=>⟨h1,fun w hw=>h2 w (hs w hw)⟩) id

theorem V4 (hrefl:∀w,R w w)(htrans:∀u v w,R u v->R v w->R u w){l:Bool}{i:Nat}{oi:Oper}{v:Value}(hi:ops[i]? = some oi)(hsel:∀(j:Nat) (o:Oper) cs b,ops[j]? = some o->o.op ≠ .select cs b)
  (hQ:∀c a w,Q (.panic c) (a.put oi.dst v) w->Q (.panic c) a w) (hl:l=true->∀j,j<ops.size->tl j=true->j ≠ i->∃fuel,Xcw md ops i fuel j=true) :
  ∀(fuel:Nat) (listed:Array Bool) (a:Act) (w:World),Xcb md ops listed->
   (∀j oj,ops[j]? = some oj->j ≠ i->listed.getD j true=false->(∀e∈oj.after,Region.binds md e=true->e.on ≠ i)->oi.apart ops oj=true)->
   i∈Region.ready md ops listed->YieldsIf P ops (fun w'=>l=true->R w w') oi v a->
   Vv P md ops Q R tl fuel (listed.setIfInBounds i true) (a.put oi.dst v) w->Vv P md ops Q R tl (fuel+1) listed a w:=by
 intro fuel
 induction fuel with
 | zero=>
  intro listed a w _ _ hr hy H
  refine⟨fun h=>(by rw[h]at hr; cases hr),fun j hj=>?_⟩
  by_cases hji:j=i
  ·subst hji; exact hy.wpOp hi (fun _=>hrefl w) ⟨fun _=>hrefl w,H⟩
  ·have:=ready_mono hj hji
   rw[H.1]at this
   cases this
 | succ fuel ih=>
  intro listed a w hcl hfree hr hy H
  refine⟨fun h=>(by rw[h]at hr; cases hr),fun j hj=>?_⟩
  by_cases hji:j=i
  ·subst hji; exact hy.wpOp hi (fun _=>hrefl w) ⟨fun _=>hrefl w,H⟩
  ·have h1:=H.2 j (ready_mono hj hji)
   obtain⟨hjun,oj,hoj,hall⟩:=mem_ready.1 hj
   have hiun:=(mem_ready.1 hr).1
   have hnot:∀e∈oj.after,Region.binds md e=true->e.on ≠ i:=fun e he hb heq=>by
    have h1:=hall e he hb
    rw[heq]at h1
    rcases Nat.lt_or_ge i listed.size with h' | h'
    ·simp[h']at hiun h1; rw[hiun]at h1; cases h1
    ·simp[Array.getElem?_eq_none h']at h1
   have h2:=wpOp_putIf hoj (hfree j oj hoj hji hjun hnot) (fun cs b=>hsel i oi cs b hi) (fun cs b=>hsel j oj cs b hoj) hQ hy h1
   have hfree':∀k ok,ops[k]? = some ok->k ≠ i->(listed.setIfInBounds j true).getD k true=false->
     (∀e∈ok.after,Region.binds md e=true->e.on ≠ i)->oi.apart ops ok=true:=fun k ok hk hki hun hno=>by
    refine hfree k ok hk hki ?_ hno
    by_cases hjk:j=k
    ·subst hjk; exact hjun
    ·rw[getD_set_ne true hjk]at hun; exact hun
   refine wpOp_mono (fun a' w' h3=>⟨h3.2.1,ih (listed.setIfInBounds j true) a' w' (hcl.step hj) hfree' (ready_mono hr (Ne.symm hji)) (Xuq h3.1 fun w'' h4 h5=>?_) ?_⟩) h2
   ·have hR:R w w':=by
     refine h3.2.1 ?_
     cases ht:tl j with
     | false=>rfl
     | true=>
      obtain⟨fl,hw⟩:=hl h5 j (Array.getElem?_eq_some_iff.1 hoj).1 ht hji
      exact absurd hj (Xa1 hcl hiun hw)
    exact htrans _ _ _ hR (h4 h5)
   ·rw[Array.setIfInBounds_comm _ _ hji]
    exact h3.2.2
end
end Go.Ab
