/- Texts of this claim joined by a program, part 3 of 20; the last is: Worlds that are alike but for the blocks of deferred calls; and a function's marks taken at its end. Over any program; no condition. -/
import Derived.Test.YtolkimpelpnpbaaGreatDoorS2
import Derived.Tactics
import Derived.RangeFuncIn
set_option linter.unusedSimpArgs false
set_option linter.unusedVariables false
set_option linter.unusedSectionVars false
set_option linter.defProp false
namespace Go.Ab
open Go
section
variable {P:Program} {a:Act} {w:World} {ρ:Env} {sl:Xf} {ob:Xa} {K Pn:V->Xa->Prop}

theorem Ya {id:Nat}{o:RO}:(ρ.ins id o).m id=some o:=by simp[Env.ins]

theorem Xim (n:Nat):∀(r c:Nat),c<=2*n+192->Builtin.growBy n r c<=2*n+192
 | 0,c,h=>by simpa[Builtin.growBy]using h
 | r+1,c,h=>by
  simp only[Builtin.growBy]
  split
  ·exact h
  ·exact Xim n r _ (by omega)

theorem Xrf {need cap:Nat}(h:cap<need):Builtin.nextslicecap need cap<=2*need+192:=by
 unfold Builtin.nextslicecap
 split
 ·omega
 ·split
  ·omega
  ·exact Xim need 4 cap (by omega)

theorem Xzp {sz:Nat}{v:V}{x:Value}{K:List D->Prop}(hv:v.rep w ρ x)(h:Xzn sz K v) :
  ∃ys vs,K ys/\D.repL w (own ρ) ys vs/\(∀y∈ys,y.sz=sz)/\(∀w',(Builtin.lenOf x).run P w'=.ok ys.length w')/\∀w',w'.heap=w.heap->(Builtin.firstCells sz ys.length x).run P w'=.ok vs.toArray w':=by
 unfold Xzn at h
 split at h
 ·rename_i z ys
  obtain⟨rfl,h⟩:=h
  rw[Y3]at hv
  rcases hv with⟨rfl,rfl⟩ | ⟨ad,cap,vs,rfl,hcap,hce,hre,hu⟩
  ·exact⟨[],[],h,by simp[D.repL],by simp,fun w'=>by simp[Builtin.lenOf],fun w' _=>by simp[Builtin.firstCells]⟩
  ·refine⟨ys,vs,h,hre,hu,fun w'=>by simp[Builtin.lenOf],fun w' hw=>?_⟩
   have hl:vs.length=ys.length*z:=by rw[D.repL_len _ _ hre,D.szs_uniform _ hu]
   simp only[Builtin.firstCells,<-hl]
   exact run_loadCells_list w' ad vs (fun j u hj=>by
    obtain⟨hj',e⟩:=List.getElem?_eq_some_iff.1 hj
    have hne:vs ≠ []:=by intro h; simp[h]at hj'
    rw[Addr.add_eq (hce.1 hne).1,cell?_congr (w:=w) (w':=w') (by rw[hw]),<-e]
    exact hce.2 j hj')
 ·rw[Wk]at hv
  subst hv
  exact⟨[],[],h,by simp[D.repL],by simp,fun w'=>by simp[Builtin.lenOf],fun w' _=>by simp[Builtin.firstCells]⟩
 ·exact h.elim

structure AppT (P:Program)(t t2 E sz B:Nat):Prop where
 u1:P.underlying t=some (.slice E)
 u2:(∃e,P.underlying t2=some (.slice e))\/P.underlying t2=some .string
 info:∃i z,P.info? E=some i/\i.size=sz/\i.bytes=B/\i.zero=some z/\z.cells.size=sz
 b0:B ≠ 0
 s0:sz ≠ 0

theorem Xn0 {t t2 ty E sz B:Nat}(T:AppT P t t2 E sz B){base:Option Addr}{sLen sCap n:Nat}{x:Value}{cs vs:List Value}
  (hx:∀w',(Builtin.lenOf x).run P w'=.ok n w') (hf:∀w',w'.heap=w.heap->(Builtin.firstCells sz n x).run P w'=.ok vs.toArray w')
  (ho:∀w',w'.heap=w.heap->(Builtin.firstCells sz sLen (.slice base sLen sCap)).run P w'=.ok cs.toArray w') (hneed:sCap<sLen+n) (hB:(2*(sLen+n)+192)*B<=281474976710656) :
  ∃newCap rest,sLen+n<=newCap/\rest.length=(newCap-(sLen+n))*sz/\
   (Builtin.append_ #[t,t2] ty #[.slice base sLen sCap,x]).run P w=.ok (.slice (some ⟨w.heap.size,0,none⟩) (sLen+n) newCap) (Jx { w with drawn:=w.drawn+1 } (.cells ((cs++vs)++rest).toArray E)):=by
 obtain⟨i,z,hi,h1,h2,h3,h4⟩:=T.info
 have hsz:X7 P E=some sz:=by simp[X7,hi,h1]
 have hti:∀w',(typeInfo E).run P w'=.ok i w':=fun w'=>by simp[typeInfo,hi]
 have hzv:∀w',(zeroValue E).run P w'=.ok z w':=fun w'=>by simp[zeroValue,typeInfo,hi,h3]
 have hcap:=Xrf hneed
 have hle:Builtin.nextslicecap (sLen+n) sCap*B<=281474976710656:=Nat.le_trans (Nat.mul_le_mul_right B hcap) hB
 have hq:(Question.appendCap (sLen+n) sCap E).forced=false:=rfl
 refine⟨(Question.appendCap (sLen+n) sCap E).cut (w.tape w.drawn (.appendCap (sLen+n) sCap E)),(Builtin.zeroCells z.cells ((Question.appendCap (sLen+n) sCap E).cut (w.tape w.drawn (.appendCap (sLen+n) sCap E))-(sLen+n))).toList,?_,?_,?_⟩
 ·simp[Question.cut]
 ·simp[Builtin.zeroCells,h4]
 ·generalize hc:(Question.appendCap (sLen+n) sCap E).cut (w.tape w.drawn (.appendCap (sLen+n) sCap E))=newCap
  unfold Builtin.append_
  have e0:(#[t,t2]:Array TypeId)[0]? = some t:=rfl
  have e1:(#[t,t2]:Array TypeId)[1]? = some t2:=rfl
  rcases T.u2 with⟨e2,u2⟩ | u2
  all_goals
   simp only[e0,e1,List.getElem?_toArray,List.getElem?_cons_zero,List.getElem?_cons_succ,Sem.run_bind,Xc T.u1,Xc u2,Result.andThen_ok,Xs hsz,Sem.run_pure,hx,Bool.false_eq_true,if_false,Bool.not_false,if_true]
   rw[if_neg (by omega)]
   have hb:¬(Builtin.nextslicecap (sLen+n) sCap*B > 2 ^ 48):=by omega
   simp only[hb,T.b0,or_self,and_false,if_false,Sem.run_bind,run_choose,hq,Bool.false_eq_true,hc,Result.andThen_ok,run_askRoom,hti,h2,ho { w with drawn:=w.drawn+1 } rfl,hf { w with drawn:=w.drawn+1 } rfl,hzv,newRow,run_newObj,Sem.run_pure]
   have e3:(cs.toArray++vs.toArray)++Builtin.zeroCells z.cells (newCap-(sLen+n))=((cs++vs)++(Builtin.zeroCells z.cells (newCap-(sLen+n))).toList).toArray:=by apply Array.ext'; simp
   rw[e3]
   rfl

theorem Xn2 {t t2 ty E sz B:Nat}(T:AppT P t t2 E sz B){b sLen sCap n:Nat}{x:Value}{cs sp vs:List Value}
  (hx:∀w',(Builtin.lenOf x).run P w'=.ok n w') (hf:∀w',w'.heap=w.heap->(Builtin.firstCells sz n x).run P w'=.ok vs.toArray w')
  (hb:w.heap[b]? = some (.cells (List.toArray (cs++sp)) E (0,0))) (hcs:cs.length=sLen*sz) (hvs:vs.length=n*sz) (hlen:(cs++sp).length=sCap*sz) (hone:∀v∈vs,v.oneCell'=true) (hneed:sLen+n<=sCap) :
  (Builtin.append_ #[t,t2] ty #[.slice (some ⟨b,0,none⟩) sLen sCap,x]).run P w=.ok (.slice (some ⟨b,0,none⟩) (sLen+n) sCap) (w.setRow b ((cs++vs)++sp.drop vs.length).toArray):=by
 obtain⟨i,z,hi,h1,h2,h3,h4⟩:=T.info
 have hsz:X7 P E=some sz:=by simp[X7,hi,h1]
 unfold Builtin.append_
 have e0:(#[t,t2]:Array TypeId)[0]? = some t:=rfl
 have e1:(#[t,t2]:Array TypeId)[1]? = some t2:=rfl
 have hsum:sLen*sz+n*sz<=sCap*sz:=by rw[<-Nat.add_mul]; exact Nat.mul_le_mul_right sz hneed
 have hrun:=run_storeCells_at (P:=P) b (sLen*sz) E vs 0 (cs++sp).toArray w hb (by rw[hvs,List.size_toArray,hlen]; omega) hone
 have hadd:(⟨b,0,none⟩:Addr).add (sLen*sz)=⟨b,sLen*sz,none⟩:=by rw[Addr.add_eq rfl]; simp
 rcases T.u2 with⟨e2,u2⟩ | u2
 all_goals
  simp only[e0,e1,List.getElem?_toArray,List.getElem?_cons_zero,List.getElem?_cons_succ,Sem.run_bind,Xc T.u1,Xc u2,Result.andThen_ok,Xs hsz,Sem.run_pure,hx,Bool.false_eq_true,if_false,Bool.not_false,if_true]
  rw[if_pos hneed]
  simp only[Sem.run_bind,hf w rfl,Result.andThen_ok,hadd,hrun,Sem.run_pure]
  congr 3
  rw[Nat.add_zero,<-hcs]
  simp[List.drop_append]

theorem Xn1 {t t2 ty E sz B:Nat}(T:AppT P t t2 E sz B){x:Value}
  (hx:∀w',(Builtin.lenOf x).run P w'=.ok 0 w') (hf:∀w',w'.heap=w.heap->(Builtin.firstCells sz 0 x).run P w'=.ok #[] w') :
  (Builtin.append_ #[t,t2] ty #[.slice none 0 0,x]).run P w=.ok (.slice none 0 0) w:=by
 obtain⟨i,z,hi,h1,h2,h3,h4⟩:=T.info
 have hsz:X7 P E=some sz:=by simp[X7,hi,h1]
 unfold Builtin.append_
 rcases T.u2 with⟨e2,u2⟩ | u2<;>simp[Xc T.u1,Xc u2,Xs hsz,hx,hf w rfl]

theorem Xnz {t t2 ty E sz B:Nat}(T:AppT P t t2 E sz B)(hO:OM w ρ ob){id:Nat}{xs ys:List D}{s x:Value}{vs:List Value}(hl:Xe ob id=some (.arr E sz xs))
  (hs:(V.sl id xs.length).rep w ρ s) (hre:D.repL w (own ρ) ys vs) (hu:∀y∈ys,y.sz=sz)
  (hx:∀w',(Builtin.lenOf x).run P w'=.ok ys.length w') (hf:∀w',w'.heap=w.heap->(Builtin.firstCells sz ys.length x).run P w'=.ok vs.toArray w')
  (hB:(2*(xs.length+ys.length)+192)*B<=281474976710656) :
  ∃v w' ρ',(Builtin.append_ #[t,t2] ty #[s,x]).run P w=.ok v w'/\Tr w ρ w' ρ'/\OM w' ρ' (setO ob id (.arr E sz (xs++ys)))/\(V.sl id (xs.length+ys.length)).rep w' ρ' v:=by
 rw[Yb]at hs
 obtain⟨o,hρ,hs⟩:=hs
 have h1:=hO.one id _ hl
 have hvl:vs.length=ys.length*sz:=by rw[D.repL_len _ _ hre,D.szs_uniform _ hu]
 -- a new row,from whatever was there
 have grow:∀(base:Option Addr) (sCap:Nat) (cs:List Value),s=.slice base xs.length sCap->D.repL w (own ρ) xs cs->(∀y∈xs,y.sz=sz)->
   (∀w',w'.heap=w.heap->(Builtin.firstCells sz xs.length (.slice base xs.length sCap)).run P w'=.ok cs.toArray w')->sCap<xs.length+ys.length->
   (o=.virt/\xs.length=0\/∃b c,o=.arr b xs.length c)->xs.length<=sCap->
   ∃v w' ρ',(Builtin.append_ #[t,t2] ty #[s,x]).run P w=.ok v w'/\Tr w ρ w' ρ'/\OM w' ρ' (setO ob id (.arr E sz (xs++ys)))/\(V.sl id (xs.length+ys.length)).rep w' ρ' v:=by
  intro base sCap cs es hxs hux hold hneed ho hlc
  subst es
  obtain⟨newCap,rest,g1,g2,g3⟩:=Xn0 (ty:=ty) T hx hf hold hneed hB
  have he:Ext w (Jx { w with drawn:=w.drawn+1 } (.cells ((cs++vs)++rest).toArray E)):=(Ext.drew w _).trans (Y6 _ _)
  have t1:Tr w ρ (Jx { w with drawn:=w.drawn+1 } (.cells ((cs++vs)++rest).toArray E)) (ρ.ins id (.arr w.heap.size (xs.length+ys.length) newCap)):=by
   refine⟨he.size,fun b _ h=>he.keep b h,fun b h=>?_,rfl,rfl,fun j p hp=>?_,he.tape,he.os,he.out,he.drawn⟩
   ·obtain⟨j,p,q1,q2⟩:=h
    simp only[Env.ins]at q1
    split at q1
    ·simp at q1; subst q1; simp[RO.blk?]at q2; exact .inr (by omega)
    ·exact .inl ⟨j,p,q1,q2⟩
   ·by_cases ej:j=id
    ·subst ej
     refine⟨_,Ya,.grow (n:=xs.length) (by omega) ?_⟩
     rw[hρ]at hp; simp at hp; subst hp
     exact ho
    ·exact⟨p,by simp[Env.ins,ej,hp],.refl p⟩
  refine⟨_,_,_,g3,t1,Q7 hO hl t1 (.inr ⟨w.heap.size,newCap,cs++vs,rest,by simp[Env.ins],Zd _ _,D.repL_append (D.repL_mono t1.mono _ _ hxs) (D.repL_mono t1.mono _ _ hre),?_,?_⟩) (fun b hb=>?_) (fun j p b hj h2 h3=>he.keep b (Ws hO h2 h3)),?_⟩
  ·intro y hy
   rcases List.mem_append.1 hy with hy | hy
   ·exact hux y hy
   ·exact hu y hy
  ·have hcl:cs.length=xs.length*sz:=by rw[D.repL_len _ _ hxs,D.szs_uniform _ hux]
   rw[List.length_append,List.length_append,g2,hcl,hvl,<-Nat.add_mul,<-Nat.add_mul]
   congr 1; omega
  ·simp[RO.blk?]at hb; exact .inl (by omega)
  ·rw[Yb]
   refine⟨_,Ya,?_⟩
   exact⟨Nat.le_refl _,⟨_,_,_,rfl⟩,fun _=>rfl⟩
 rcases h1 with⟨h1,rfl⟩ | ⟨b,cap,cs,sp,h1,h2,h3,h4,h5⟩
 ·-- nothing yet
  rw[hρ]at h1; simp at h1; subst h1
  simp only[RO.slice]at hs
  obtain⟨_,rfl⟩:=hs
  by_cases hy:ys=[]
  ·subst hy
   have hv0:vs=[]:=by simpa using hvl
   subst hv0
   refine⟨_,w,ρ,Xn1 T hx (fun w' hw=>hf w' hw),Tr.refl _ _,?_,?_⟩
   ·refine⟨fun j y hy=>?_,fun j p hp=>?_,hO.inj,hO.xlt,hO.glb,hO.xdis,hO.once.set⟩
    ·rw[Xp ob id j ⟨_,hl⟩]at hy
     split at hy
     ·rename_i e; subst e; simp at hy; subst hy; exact .inl ⟨hρ,rfl⟩
     ·exact hO.one j y hy
    ·rw[Xp ob id j ⟨_,hl⟩]
     split
     ·exact⟨_,rfl⟩
     ·exact hO.dom j p hp
   ·rw[Yb]; exact⟨_,hρ,rfl,rfl⟩
  ·refine grow none 0 [] rfl (by simp[D.repL]) (by simp) (fun w' _=>by simp[Builtin.firstCells]) ?_ (.inl ⟨rfl,rfl⟩) (Nat.le_refl _)
   cases ys with
   | nil=>exact absurd rfl hy
   | cons y r=>simp
 ·rw[hρ]at h1; simp at h1; subst h1
  obtain⟨_,_,hs⟩:=hs
  have hs:=hs rfl
  have hcl:cs.length=xs.length*sz:=by rw[D.repL_len _ _ h3,D.szs_uniform _ h4]
  have hlc:xs.length<=cap:=by
   have:xs.length*sz<=cap*sz:=by rw[<-h5,<-hcl]; simp
   exact Nat.le_of_mul_le_mul_right this (Nat.pos_of_ne_zero T.s0)
  by_cases hroom:xs.length+ys.length<=cap
  ·subst hs
   have hrun:=Xn2 (ty:=ty) T hx hf h2 hcl hvl h5 (D.ones ys vs hre) hroom
   have t1:Tr w ρ (w.setRow b ((cs++vs)++sp.drop vs.length).toArray) (ρ.ins id (.arr b (xs.length+ys.length) cap)):=by
    refine⟨by simp,fun j hj _=>setRow_other w b j _ (fun e=>hj ?_),fun j h=>?_,rfl,rfl,fun j p hp=>?_,rfl,rfl,rfl,Nat.le_refl _⟩
    ·subst e; exact⟨id,_,hρ,rfl⟩
    ·obtain⟨k,p,q1,q2⟩:=h
     simp only[Env.ins]at q1
     split at q1
     ·simp at q1; subst q1; simp[RO.blk?]at q2; subst q2; exact .inl ⟨id,_,hρ,rfl⟩
     ·exact .inl ⟨k,p,q1,q2⟩
    ·by_cases ej:j=id
     ·subst ej
      rw[hρ]at hp; simp at hp; subst hp
      refine⟨_,Ya,?_⟩
      cases ys with
      | nil=>exact .refl _
      | cons y r=>exact .grow (n:=xs.length) (by simp) (.inr ⟨_,_,rfl⟩)
     ·exact⟨p,by simp[Env.ins,ej,hp],.refl p⟩
   refine⟨_,_,_,hrun,t1,Q7 hO hl t1 (.inr ⟨b,cap,cs++vs,sp.drop vs.length,by simp[Env.ins],setRow_heap w b _ _ E _ h2,D.repL_append (D.repL_mono t1.mono _ _ h3) (D.repL_mono t1.mono _ _ hre),?_,?_⟩) (fun b' hb=>?_) (fun j p b' hj q1 q2=>setRow_other w b b' _ (fun e=>hj ?_)),?_⟩
   ·intro y hy
    rcases List.mem_append.1 hy with hy | hy
    ·exact h4 y hy
    ·exact hu y hy
   ·have hsum:xs.length*sz+ys.length*sz<=cap*sz:=by rw[<-Nat.add_mul]; exact Nat.mul_le_mul_right sz hroom
    simp only[List.length_append,List.length_drop]at h5⊢
    omega
   ·simp[RO.blk?]at hb; subst hb; exact .inr ⟨_,hρ,rfl⟩
   ·subst e; exact hO.inj j id _ _ _ q1 hρ q2 rfl
   ·rw[Yb]
    refine⟨_,Ya,?_⟩
    exact⟨Nat.le_refl _,⟨_,_,_,rfl⟩,fun _=>rfl⟩
  ·refine grow (some ⟨b,0,none⟩) cap cs hs h3 h4 (fun w' hw=>?_) (by omega) (.inr ⟨_,_,rfl⟩) hlc
   simp only[Builtin.firstCells,<-hcl]
   exact run_loadCells_list w' _ cs (fun j u hj=>by
    obtain⟨hj',e⟩:=List.getElem?_eq_some_iff.1 hj
    rw[Addr.add_eq rfl,cell?_congr (w:=w) (w':=w') (by rw[hw])]
    simp[World.cell?,h2,List.getElem?_append,hj',e])

theorem Xbz {t t2 ty E sz B:Nat}(T:AppT P t t2 E sz B)(hO:OM w ρ ob){id:Nat}{xs ys:List V}{s x:Value}{vs:List Value}(hl:Xe ob id=some (.vec E sz xs))
  (hs:(V.sl id xs.length).rep w ρ s) (hst:V.stos ys=true) (hre:V.repCs w ρ ys vs) (hu:∀y∈ys,y.size=sz)
  (hx:∀w',(Builtin.lenOf x).run P w'=.ok ys.length w') (hf:∀w',w'.heap=w.heap->(Builtin.firstCells sz ys.length x).run P w'=.ok vs.toArray w')
  (hB:(2*(xs.length+ys.length)+192)*B<=281474976710656) :
  ∃v w' ρ',(Builtin.append_ #[t,t2] ty #[s,x]).run P w=.ok v w'/\Tr w ρ w' ρ'/\OM w' ρ' (setO ob id (.vec E sz (xs++ys)))/\(V.sl id (xs.length+ys.length)).rep w' ρ' v:=by
 rw[Yb]at hs
 obtain⟨o,hρ,hs⟩:=hs
 have h1:=hO.one id _ hl
 have hvl:vs.length=ys.length*sz:=by rw[V.repCs_len _ _ hre,V.shapes_eq,X6 _ hu]
 -- a new row,from whatever was there
 have grow:∀(base:Option Addr) (sCap:Nat) (cs:List Value),s=.slice base xs.length sCap->V.repCs w ρ xs cs->(∀y∈xs,y.size=sz)->
   (∀w',w'.heap=w.heap->(Builtin.firstCells sz xs.length (.slice base xs.length sCap)).run P w'=.ok cs.toArray w')->sCap<xs.length+ys.length->
   (o=.virt/\xs.length=0\/∃b c,o=.arr b xs.length c)->xs.length<=sCap->
   ∃v w' ρ',(Builtin.append_ #[t,t2] ty #[s,x]).run P w=.ok v w'/\Tr w ρ w' ρ'/\OM w' ρ' (setO ob id (.vec E sz (xs++ys)))/\(V.sl id (xs.length+ys.length)).rep w' ρ' v:=by
  intro base sCap cs es hxs hux hold hneed ho hlc
  subst es
  obtain⟨newCap,rest,g1,g2,g3⟩:=Xn0 (ty:=ty) T hx hf hold hneed hB
  have he:Ext w (Jx { w with drawn:=w.drawn+1 } (.cells ((cs++vs)++rest).toArray E)):=(Ext.drew w _).trans (Y6 _ _)
  have t1:Tr w ρ (Jx { w with drawn:=w.drawn+1 } (.cells ((cs++vs)++rest).toArray E)) (ρ.ins id (.arr w.heap.size (xs.length+ys.length) newCap)):=by
   refine⟨he.size,fun b _ h=>he.keep b h,fun b h=>?_,rfl,rfl,fun j p hp=>?_,he.tape,he.os,he.out,he.drawn⟩
   ·obtain⟨j,p,q1,q2⟩:=h
    simp only[Env.ins]at q1
    split at q1
    ·simp at q1; subst q1; simp[RO.blk?]at q2; exact .inr (by omega)
    ·exact .inl ⟨j,p,q1,q2⟩
   ·by_cases ej:j=id
    ·subst ej
     refine⟨_,Ya,.grow (n:=xs.length) (by omega) ?_⟩
     rw[hρ]at hp; simp at hp; subst hp
     exact ho
    ·exact⟨p,by simp[Env.ins,ej,hp],.refl p⟩
  refine⟨_,_,_,g3,t1,Q7 hO hl t1 (.inr ⟨w.heap.size,newCap,cs++vs,rest,by simp[Env.ins],Zd _ _,V.repCs_append (V.repCs_tr t1 _ _ hxs) (V.repCs_tr t1 _ _ hre),?_,?_⟩) (fun b hb=>?_) (fun j p b hj h2 h3=>he.keep b (Ws hO h2 h3)),?_⟩
  ·intro y hy
   rcases List.mem_append.1 hy with hy | hy
   ·exact hux y hy
   ·exact hu y hy
  ·have hcl:cs.length=xs.length*sz:=by rw[V.repCs_len _ _ hxs,V.shapes_eq,X6 _ hux]
   rw[List.length_append,List.length_append,g2,hcl,hvl,<-Nat.add_mul,<-Nat.add_mul]
   congr 1; omega
  ·simp[RO.blk?]at hb; exact .inl (by omega)
  ·rw[Yb]
   refine⟨_,Ya,?_⟩
   exact⟨Nat.le_refl _,⟨_,_,_,rfl⟩,fun _=>rfl⟩
 rcases h1 with⟨h1,rfl⟩ | ⟨b,cap,cs,sp,h1,h2,h3,h4,h5⟩
 ·-- nothing yet
  rw[hρ]at h1; simp at h1; subst h1
  simp only[RO.slice]at hs
  obtain⟨_,rfl⟩:=hs
  by_cases hy:ys=[]
  ·subst hy
   have hv0:vs=[]:=by simpa using hvl
   subst hv0
   refine⟨_,w,ρ,Xn1 T hx (fun w' hw=>hf w' hw),Tr.refl _ _,?_,?_⟩
   ·refine⟨fun j y hy=>?_,fun j p hp=>?_,hO.inj,hO.xlt,hO.glb,hO.xdis,hO.once.set⟩
    ·rw[Xp ob id j ⟨_,hl⟩]at hy
     split at hy
     ·rename_i e; subst e; simp at hy; subst hy; exact .inl ⟨hρ,rfl⟩
     ·exact hO.one j y hy
    ·rw[Xp ob id j ⟨_,hl⟩]
     split
     ·exact⟨_,rfl⟩
     ·exact hO.dom j p hp
   ·rw[Yb]; exact⟨_,hρ,rfl,rfl⟩
  ·refine grow none 0 [] rfl (by simp[V.repCs]) (by simp) (fun w' _=>by simp[Builtin.firstCells]) ?_ (.inl ⟨rfl,rfl⟩) (Nat.le_refl _)
   cases ys with
   | nil=>exact absurd rfl hy
   | cons y r=>simp
 ·rw[hρ]at h1; simp at h1; subst h1
  obtain⟨_,_,hs⟩:=hs
  have hs:=hs rfl
  have hcl:cs.length=xs.length*sz:=by rw[V.repCs_len _ _ h3,V.shapes_eq,X6 _ h4]
  have hlc:xs.length<=cap:=by
   have:xs.length*sz<=cap*sz:=by rw[<-h5,<-hcl]; simp
   exact Nat.le_of_mul_le_mul_right this (Nat.pos_of_ne_zero T.s0)
  by_cases hroom:xs.length+ys.length<=cap
  ·subst hs
   have hrun:=Xn2 (ty:=ty) T hx hf h2 hcl hvl h5 (V.onesV ys vs hst hre) hroom
   have t1:Tr w ρ (w.setRow b ((cs++vs)++sp.drop vs.length).toArray) (ρ.ins id (.arr b (xs.length+ys.length) cap)):=by
    refine⟨by simp,fun j hj _=>setRow_other w b j _ (fun e=>hj ?_),fun j h=>?_,rfl,rfl,fun j p hp=>?_,rfl,rfl,rfl,Nat.le_refl _⟩
    ·subst e; exact⟨id,_,hρ,rfl⟩
    ·obtain⟨k,p,q1,q2⟩:=h
     simp only[Env.ins]at q1
     split at q1
     ·simp at q1; subst q1; simp[RO.blk?]at q2; subst q2; exact .inl ⟨id,_,hρ,rfl⟩
     ·exact .inl ⟨k,p,q1,q2⟩
    ·by_cases ej:j=id
     ·subst ej
      rw[hρ]at hp; simp at hp; subst hp
      refine⟨_,Ya,?_⟩
      cases ys with
      | nil=>exact .refl _
      | cons y r=>exact .grow (n:=xs.length) (by simp) (.inr ⟨_,_,rfl⟩)
     ·exact⟨p,by simp[Env.ins,ej,hp],.refl p⟩
   refine⟨_,_,_,hrun,t1,Q7 hO hl t1 (.inr ⟨b,cap,cs++vs,sp.drop vs.length,by simp[Env.ins],setRow_heap w b _ _ E _ h2,V.repCs_append (V.repCs_tr t1 _ _ h3) (V.repCs_tr t1 _ _ hre),?_,?_⟩) (fun b' hb=>?_) (fun j p b' hj q1 q2=>setRow_other w b b' _ (fun e=>hj ?_)),?_⟩
   ·intro y hy
    rcases List.mem_append.1 hy with hy | hy
    ·exact h4 y hy
    ·exact hu y hy
   ·have hsum:xs.length*sz+ys.length*sz<=cap*sz:=by rw[<-Nat.add_mul]; exact Nat.mul_le_mul_right sz hroom
    simp only[List.length_append,List.length_drop]at h5⊢
    omega
   ·simp[RO.blk?]at hb; subst hb; exact .inr ⟨_,hρ,rfl⟩
   ·subst e; exact hO.inj j id _ _ _ q1 hρ q2 rfl
   ·rw[Yb]
    refine⟨_,Ya,?_⟩
    exact⟨Nat.le_refl _,⟨_,_,_,rfl⟩,fun _=>rfl⟩
  ·refine grow (some ⟨b,0,none⟩) cap cs hs h3 h4 (fun w' hw=>?_) (by omega) (.inr ⟨_,_,rfl⟩) hlc
   simp only[Builtin.firstCells,<-hcl]
   exact run_loadCells_list w' _ cs (fun j u hj=>by
    obtain⟨hj',e⟩:=List.getElem?_eq_some_iff.1 hj
    rw[Addr.add_eq rfl,cell?_congr (w:=w) (w':=w') (by rw[hw])]
    simp[World.cell?,h2,List.getElem?_append,hj',e])

theorem X73 {u v:Operand}{t t2 E sz B:Nat}{vx:V}{ys:List D}{vs:List Value}(T:AppT P t t2 E sz B)(r1:vx.rep w ρ (a.eval u))(hO:OM w ρ ob)(hK:Xdp E sz B ob ys K vx)
  (hre:D.repL w (own ρ) ys vs) (hu:∀y∈ys,y.sz=sz) (hx:∀w',(Builtin.lenOf (a.eval v)).run P w'=.ok ys.length w')
  (hf:∀w',w'.heap=w.heap->(Builtin.firstCells sz ys.length (a.eval v)).run P w'=.ok vs.toArray w'):U8 P a w ρ (.call { callee:=.builtin .append,args:=#[u,v],argTypes:=#[t,t2] }) K Pn:=by
 have hrun:∀(w':World) (val:Value) (o:Oper),o.op=.call { callee:=.builtin .append,args:=#[u,v],argTypes:=#[t,t2] }->(Builtin.append_ #[t,t2] o.type #[a.eval u,a.eval v]).run P w=.ok val w'->(execOp a.eval o).run P w=.ok (.value val) w':=by
  intro w' val o ho hr
  simp only[execOp,ho,resolve,invoke,builtin,Sem.run_bind,Sem.run_pure,Result.andThen_ok,List.map_toArray,List.map_cons,List.map_nil,hr]
 unfold Xdp at hK
 split at hK
 ·rename_i id n
  unfold Xde at hK
  split at hK
  ·rename_i E' sz' xs hl
   obtain⟨rfl,rfl,rfl,hB,hK⟩:=hK
   intro o ho next Q hn _
   obtain⟨val,w',ρ',g1,g2,g3,g4⟩:=Xnz (ty:=o.type) T hO hl r1 hre hu hx hf hB
   unfold wpA
   rw[hrun w' val o ho g1]
   exact hn val _ _ w' ρ' hK g4 g3 g2
  ·exact hK.elim
 ·obtain⟨hB,hK⟩:=hK
  have hl:=Xw ob
  rw[Wk]at r1
  have hbl:∀b,RO.virt.blk? = some b->w.heap.size<=b:=fun b hb=>by simp[RO.blk?]at hb
  have t1:=W2 w (Ext.refl w) (o:=.virt) (hO.free hl) hbl
  have o1:OM w (ρ.ins (Xb ob) .virt) ((Xb ob,.arr E sz [])::ob):=hO.ins (Ext.refl w) hl hbl (.inl ⟨Ya,rfl⟩)
  have q1:(V.sl (Xb ob) ([]:List D).length).rep w (ρ.ins (Xb ob) .virt) (a.eval u):=by
   rw[Yb]; exact⟨_,Ya,rfl,r1⟩
  intro o ho next Q hn _
  obtain⟨val,w',ρ',g1,g2,g3,g4⟩:=Xnz (ty:=o.type) (ys:=ys) T o1 (by simp[Xe]) q1 (D.repL_mono t1.mono _ _ hre) hu hx hf (by simpa using hB)
  unfold wpA
  rw[hrun w' val o ho g1]
  simp only[setO,if_true,List.nil_append,List.length_nil,Nat.zero_add]at g3 g4
  exact hn val _ _ w' ρ' hK g4 g3 (t1.trans g2)
 ·exact hK.elim

theorem X1t (hs:SM w ρ sl a)(hO:OM w ρ ob){op:Op}{E sz B:Nat}{x y:A}(hc:I.chk P op (.app E sz B x y)=true)
  (h:Xzn sz (fun ys=>Xdp E sz B ob ys K (x.ev sl)) (y.ev sl)):U8 P a w ρ op K Pn:=by
 cases op<;>simp only[I.chk,Bool.false_eq_true]at hc
 rename_i c
 obtain⟨ca,args,ts⟩:=c
 cases ca<;>(try simp only[Bool.false_eq_true]at hc)
 rename_i b
 cases b<;>(try simp only[Bool.false_eq_true]at hc)
 split at hc
 ·rename_i u v t t2 e1 e2
  simp only[Bool.and_eq_true]at hc
  obtain⟨⟨⟨⟨h0,h1⟩,h2⟩,h3⟩,h4⟩:=hc
  have ea:args=#[u,v]:=by simpa using congrArg List.toArray e1
  have et:ts=#[t,t2]:=by simpa using congrArg List.toArray e2
  subst ea et
  have T:AppT P t t2 E sz B:=by
   cases hi:P.info? E with
   | none=>simp[hi]at h1
   | some i=>
    simp only[hi,Bool.and_eq_true,beq_iff_eq,bne_iff_ne,ne_eq]at h1
    obtain⟨⟨⟨⟨⟨g1,g2⟩,g3⟩,g4⟩,g5⟩,g6⟩:=h1
    obtain⟨z,hz⟩:=Option.isSome_iff_exists.1 g5
    rw[hz]at g6
    simp at g6
    refine⟨?_,?_,⟨i,z,hi,g1,g2,hz,g6⟩,by rw[<-g2]; exact g3,by rw[<-g1]; exact g4⟩
    ·revert h0; split<;>simp_all
    ·left; revert h2; split<;>simp_all
  have r1:=A.sound hs h3
  have r2:=A.sound hs h4
  obtain⟨ys,vs,hK,hre,hu,hx,hf⟩:=Xzp (P:=P) r2 h
  exact X73 T r1 hO hK hre hu hx hf
 ·simp at hc

theorem Xtj {id E sz:Nat}{xs:List D}(h:V0 w ρ id (.arr E sz xs)):V0 w ρ id (.vec E sz (xs.map .d)):=by
 rcases h with⟨h1,rfl⟩ | ⟨b,cap,cs,sp,h1,h2,h3,h4,h5⟩
 ·exact .inl ⟨h1,rfl⟩
 ·refine .inr ⟨b,cap,cs,sp,by simpa using h1,h2,(V.repCs_d _ _).2 h3,fun x hx=>?_,h5⟩
  obtain⟨y,hy,rfl⟩:=List.mem_map.1 hx
  simp[V.size,V.shape,D.size_shape,h4 y hy]
theorem X44 {sz:Nat}{v:V}{x:Value}{K:List V->Prop}(hO:OM w ρ ob)(hv:v.rep w ρ x)(h:Yfg sz K ob v) :
  ∃ys vs,K ys/\V.repCs w ρ ys vs/\V.stos ys=true/\(∀y∈ys,y.size=sz)/\(∀w',(Builtin.lenOf x).run P w'=.ok ys.length w')/\∀w',w'.heap=w.heap->(Builtin.firstCells sz ys.length x).run P w'=.ok vs.toArray w':=by
 have dat:∀{ys:List D} {vs:List Value},D.repL w (own ρ) ys vs->(∀y∈ys,y.sz=sz)->V.repCs w ρ (ys.map .d) vs/\V.stos (ys.map .d)=true/\∀y∈ys.map V.d,y.size=sz:=by
  intro ys vs h1 h2
  refine⟨(V.repCs_d _ _).2 h1,?_,fun y hy=>?_⟩
  ·clear h1 h2; induction ys with
   | nil=>rfl
   | cons y r ih=>simp[V.stos,V.sto,ih]
  ·obtain⟨z,hz,rfl⟩:=List.mem_map.1 hy
   simp[V.size,V.shape,D.size_shape,h2 z hz]
 have own:∀{id:Nat} {E:Nat} {ys:List V},V0 w ρ id (.vec E sz ys)->(V.sl id ys.length).rep w ρ x->V.stos ys=true->K ys->
   ∃ys vs,K ys/\V.repCs w ρ ys vs/\V.stos ys=true/\(∀y∈ys,y.size=sz)/\(∀w',(Builtin.lenOf x).run P w'=.ok ys.length w')/\∀w',w'.heap=w.heap->(Builtin.firstCells sz ys.length x).run P w'=.ok vs.toArray w':=by
  intro id E ys hm hv hst hK
  rw[Yb]at hv
  obtain⟨o,hρ,hv⟩:=hv
  rcases hm with⟨h1,rfl⟩ | ⟨b,cap,cs,sp,h1,h2,h3,h4,h5⟩
  ·rw[hρ]at h1; simp at h1; subst h1
   obtain⟨_,rfl⟩:=hv
   exact⟨[],[],hK,by simp[V.repCs],rfl,by simp,fun w'=>by simp[Builtin.lenOf],fun w' _=>by simp[Builtin.firstCells]⟩
  ·rw[hρ]at h1; simp at h1; subst h1
   have hx:=hv.2.2 rfl
   subst hx
   refine⟨ys,cs,hK,h3,hst,h4,fun w'=>by simp[Builtin.lenOf],fun w' hw=>?_⟩
   have hcl:cs.length=ys.length*sz:=by rw[V.repCs_len _ _ h3,V.shapes_eq,X6 _ h4]
   simp only[Builtin.firstCells,<-hcl]
   exact run_loadCells_list w' _ cs (fun j u hj=>by
    obtain⟨hj',e⟩:=List.getElem?_eq_some_iff.1 hj
    rw[Addr.add_eq rfl,cell?_congr (w:=w) (w':=w') (by rw[hw])]
    simp[World.cell?,h2,List.getElem?_append,hj',e])
 unfold Yfg at h
 split at h
 ·rename_i z ys
  obtain⟨ys',vs,hK,hre,hu,hl,hf⟩:=Xzp (P:=P) (K:=fun ys=>K (ys.map .d)) hv (by simpa only[Xzn]using h)
  obtain⟨d1,d2,d3⟩:=dat hre hu
  exact⟨_,vs,hK,d1,d2,d3,fun w'=>by simpa using hl w',fun w' hw=>by simpa using hf w' hw⟩
 ·rw[Wk]at hv
  subst hv
  exact⟨[],[],h,by simp[V.repCs],rfl,by simp,fun w'=>by simp[Builtin.lenOf],fun w' _=>by simp[Builtin.firstCells]⟩
 ·rename_i id n
  rcases h with⟨E,ys,hl,rfl,hst,hK⟩ | ⟨E,ys,hl,rfl,hK⟩
  ·exact own (hO.one id _ hl) hv hst hK
  ·have hm:V0 w ρ id (.vec E sz (ys.map .d)):=Xtj (hO.one id _ hl)
   refine own hm (by simpa using hv) ?_ hK
   clear hm hl hv hK
   induction ys with
   | nil=>rfl
   | cons y r ih=>simp[V.stos,V.sto,ih]
 ·exact h.elim
theorem X74 {u v:Operand}{t t2 E sz B:Nat}{vx:V}{ys:List V}{vs:List Value}(T:AppT P t t2 E sz B)(r1:vx.rep w ρ (a.eval u))(hO:OM w ρ ob)(hK:Xr6 E sz B ob ys K vx)
  (hst:V.stos ys=true) (hre:V.repCs w ρ ys vs) (hu:∀y∈ys,y.size=sz) (hx:∀w',(Builtin.lenOf (a.eval v)).run P w'=.ok ys.length w')
  (hf:∀w',w'.heap=w.heap->(Builtin.firstCells sz ys.length (a.eval v)).run P w'=.ok vs.toArray w'):U8 P a w ρ (.call { callee:=.builtin .append,args:=#[u,v],argTypes:=#[t,t2] }) K Pn:=by
 have hrun:∀(w':World) (val:Value) (o:Oper),o.op=.call { callee:=.builtin .append,args:=#[u,v],argTypes:=#[t,t2] }->(Builtin.append_ #[t,t2] o.type #[a.eval u,a.eval v]).run P w=.ok val w'->(execOp a.eval o).run P w=.ok (.value val) w':=by
  intro w' val o ho hr
  simp only[execOp,ho,resolve,invoke,builtin,Sem.run_bind,Sem.run_pure,Result.andThen_ok,List.map_toArray,List.map_cons,List.map_nil,hr]
 unfold Xr6 at hK
 split at hK
 ·rename_i id n
  unfold Xqn at hK
  split at hK
  ·rename_i E' sz' xs hl
   obtain⟨rfl,rfl,rfl,hB,hK⟩:=hK
   intro o ho next Q hn _
   obtain⟨val,w',ρ',g1,g2,g3,g4⟩:=Xbz (ty:=o.type) T hO hl r1 hst hre hu hx hf hB
   unfold wpA
   rw[hrun w' val o ho g1]
   exact hn val _ _ w' ρ' hK g4 g3 g2
  ·rename_i E' sz' xs hl
   obtain⟨rfl,rfl,rfl,hB,hK⟩:=hK
   have o2:=hO.swap hl (Xtj (hO.one id _ hl))
   have hl2:Xe (setO ob id (.vec E' sz' (xs.map .d))) id=some (.vec E' sz' (xs.map .d)):=by rw[Xp ob id id ⟨_,hl⟩]; simp
   intro o ho next Q hn _
   obtain⟨val,w',ρ',g1,g2,g3,g4⟩:=Xbz (ty:=o.type) T o2 hl2 (by simpa using r1) hst hre hu hx hf (by simpa using hB)
   rw[Xc2]at g3
   rw[List.length_map]at g4
   unfold wpA
   rw[hrun w' val o ho g1]
   exact hn val _ _ w' ρ' hK g4 g3 g2
  ·exact hK.elim
 ·obtain⟨hB,hK⟩:=hK
  have hl:=Xw ob
  rw[Wk]at r1
  have hbl:∀b,RO.virt.blk? = some b->w.heap.size<=b:=fun b hb=>by simp[RO.blk?]at hb
  have t1:=W2 w (Ext.refl w) (o:=.virt) (hO.free hl) hbl
  have o1:OM w (ρ.ins (Xb ob) .virt) ((Xb ob,.vec E sz [])::ob):=hO.ins (Ext.refl w) hl hbl (.inl ⟨Ya,rfl⟩)
  have q1:(V.sl (Xb ob) ([]:List V).length).rep w (ρ.ins (Xb ob) .virt) (a.eval u):=by
   rw[Yb]; exact⟨_,Ya,rfl,r1⟩
  intro o ho next Q hn _
  obtain⟨val,w',ρ',g1,g2,g3,g4⟩:=Xbz (ty:=o.type) (ys:=ys) T o1 (by simp[Xe]) q1 hst (V.repCs_tr t1 _ _ hre) hu hx hf (by simpa using hB)
  unfold wpA
  rw[hrun w' val o ho g1]
  simp only[setO,if_true,List.nil_append,List.length_nil,Nat.zero_add]at g3 g4
  exact hn val _ _ w' ρ' hK g4 g3 (t1.trans g2)
 ·exact hK.elim

theorem X1u (hs:SM w ρ sl a)(hO:OM w ρ ob){op:Op}{E sz B:Nat}{x y:A}(hc:I.chk P op (.apv E sz B x y)=true)
  (h:Yfg sz (fun ys=>Xr6 E sz B ob ys K (x.ev sl)) ob (y.ev sl)):U8 P a w ρ op K Pn:=by
 cases op<;>simp only[I.chk,Bool.false_eq_true]at hc
 rename_i c
 obtain⟨ca,args,ts⟩:=c
 cases ca<;>(try simp only[Bool.false_eq_true]at hc)
 rename_i b
 cases b<;>(try simp only[Bool.false_eq_true]at hc)
 split at hc
 ·rename_i u v t t2 e1 e2
  simp only[Bool.and_eq_true]at hc
  obtain⟨⟨⟨⟨h0,h1⟩,h2⟩,h3⟩,h4⟩:=hc
  have ea:args=#[u,v]:=by simpa using congrArg List.toArray e1
  have et:ts=#[t,t2]:=by simpa using congrArg List.toArray e2
  subst ea et
  have T:AppT P t t2 E sz B:=by
   cases hi:P.info? E with
   | none=>simp[hi]at h1
   | some i=>
    simp only[hi,Bool.and_eq_true,beq_iff_eq,bne_iff_ne,ne_eq]at h1
    obtain⟨⟨⟨⟨⟨g1,g2⟩,g3⟩,g4⟩,g5⟩,g6⟩:=h1
    obtain⟨z,hz⟩:=Option.isSome_iff_exists.1 g5
    rw[hz]at g6
    simp at g6
    refine⟨?_,?_,⟨i,z,hi,g1,g2,hz,g6⟩,by rw[<-g2]; exact g3,by rw[<-g1]; exact g4⟩
    ·revert h0; split<;>simp_all
    ·left; revert h2; split<;>simp_all
  have r1:=A.sound hs h3
  have r2:=A.sound hs h4
  obtain⟨ys,vs,hK,hre,hst,hu,hx,hf⟩:=X44 (P:=P) hO r2 h
  exact X74 T r1 hO hK hst hre hu hx hf
 ·simp at hc

theorem X1v (hs:SM w ρ sl a)(hO:OM w ρ ob){op:Op}{x:A}(hc:I.chk P op (.cvb x)=true)(h:Xud ob K (x.ev sl)):U8 P a w ρ op K Pn:=by
 cases op<;>simp only[I.chk,Bool.false_eq_true]at hc
 rename_i s t y
 simp only[Bool.and_eq_true,beq_iff_eq]at hc
 obtain⟨⟨rfl,h0⟩,h2⟩:=hc
 have r1:=A.sound hs h2
 obtain⟨e,hs1,he⟩:∃e,P.underlying s=some (.slice e)/\P.underlying e=some (.int .u8):=by
  cases hu:P.underlying s with
  | none=>simp[hu]at h0
  | some d=>
   cases d<;>simp[hu]at h0
   rename_i e
   refine⟨e,rfl,?_⟩
   revert h0; split<;>simp_all
 unfold Xud at h
 split at h
 ·rename_i id n e1
  unfold Xe5 at h
  split at h
  ·rename_i E sz xs hl
   obtain⟨hsz,rfl,hne,hK⟩:=h
   rw[e1]at r1
   have r3:=Q5 hO hl hsz r1
   rw[Yb]at r1
   obtain⟨o,hρ,hv⟩:=r1
   rcases hO.one id _ hl with⟨h1,rfl⟩ | ⟨b,cap,cs,sp,h1,h2,h3,h4,h5⟩
   ·exact absurd rfl hne
   ·rw[hρ]at h1; simp at h1; subst h1
    have hu:=hv.2.2 rfl
    have hw:∃w2,w2.heap.size=w.heap.size/\(∀j,j ≠ b->w2.heap[j]? = w.heap[j]?)/\w2.heap[b]? = some (.cells (List.toArray (cs++sp)) E ((cs++sp).length,(cs++sp).length+1))/\w2.tape=w.tape/\w2.os=w.os/\w2.output=w.output/\w2.drawn=w.drawn/\(markStringish ⟨b,0,none⟩).run P w=.ok () w2:=by
     have hsh:w.shape? b=some (E,(cs++sp).length):=by simp[World.shape?,h2]
     refine⟨w.freeze ⟨b,(cs++sp).length,none⟩ 1,by simp[World.freeze],fun j hj=>?_,?_,rfl,rfl,rfl,rfl,?_⟩
     ·simp only[World.freeze]
      simp[Array.getElem?_modify,Ne.symm hj]
     ·simp only[World.freeze]
      simp[Array.getElem?_modify,h2]
     ·simp only[markStringish,Sem.run_bind,run_shape,hsh,Result.andThen_ok,run_freeze]
    obtain⟨w2,q1,q2,q3,q4,q5,q6,q8,q7⟩:=hw
    obtain⟨t1,o1,hno⟩:=Xfg hO (w2:=w2) ⟨_,hl⟩ q1 (fun j hj=>q2 j (fun e=>hj _ hρ (by rw[e]; rfl))) q4 q5 q6 (by rw[q8]; exact Nat.le_refl _)
    refine Xv (v:=.slice (some ⟨b,0,none⟩) xs.length cap) (fun o ho=>?_) hK ?_ o1 t1
    ·simp only[execOp,ho,hu,convert,Sem.run_bind,Xc hs1,Result.andThen_ok,beq_self_eq_true,Xc he,q7,Sem.run_pure]
    ·rw[Y3]
     refine .inr ⟨_,cap,cs,rfl,?_,⟨fun _=>⟨rfl,hno b _ hρ rfl,Xj q3⟩,fun i hi=>?_⟩,D.repL_mono t1.mono _ _ h3,h4⟩
     ·have hcl:cs.length=xs.length*sz:=by rw[D.repL_len _ _ h3,D.szs_uniform _ h4]
      have:xs.length*sz<=cap*sz:=by rw[<-h5,<-hcl]; simp
      exact Nat.le_of_mul_le_mul_right this (Nat.pos_of_ne_zero hsz)
     ·simp[World.cell?,q3,List.getElem?_append,hi]
  ·exact h.elim
 ·exact h.elim

theorem Xuh (hs:SM w ρ sl a)(hO:OM w ρ ob){op:Op}{E sz:Nat}{x:A}(hc:I.chk P op (.nilo E sz x)=true)(h:Xgq E sz ob K (x.ev sl)):U8 P a w ρ op K Pn:=by
 unfold Xgq at h
 split at h
 ·rename_i e1
  have hf:=Xw ob
  have hbl:∀b,RO.virt.blk? = some b->w.heap.size<=b:=fun b hb=>by simp[RO.blk?]at hb
  have t1:=W2 w (Ext.refl w) (o:=.virt) (hO.free hf) hbl
  have o1:OM w (ρ.ins (Xb ob) .virt) ((Xb ob,.arr E sz [])::ob):=hO.ins (Ext.refl w) hf hbl (.inl ⟨Ya,rfl⟩)
  cases op<;>simp[I.chk]at hc
  all_goals
   have r1:=A.sound hs hc
   rw[e1,Wk]at r1
   exact Xv (fun o ho=>by simp[execOp,ho]) h (Yb.2 ⟨.virt,Ya,⟨rfl,r1⟩⟩) o1 t1
 ·exact h.elim

theorem X11 (hs:SM w ρ sl a)(hO:OM w ρ ob){op:Op}{r:Option A}(hc:I.chk P op (.mkm r)=true)(h:X0e sl r/\K (.mp (Xb ob)) ((Xb ob,.map [])::ob)):U8 P a w ρ op K Pn:=by
 cases op<;>simp only[I.chk,Bool.false_eq_true]at hc
 rename_i t hint
 simp only[Bool.and_eq_true]at hc
 obtain⟨hm,hK⟩:=h
 obtain⟨kt,et,ht⟩:∃kt et,P.underlying t=some (.map kt et):=by
  have:=hc.1
  revert this; split<;>simp_all
 obtain⟨t1,o1,p1⟩:=Ybh hO (Xw ob)
 refine Xv (fun o ho=>?_) hK p1 o1 t1
 cases hint with
 | none=>
  simp only[execOp,ho,Option.map_none,Instr.makeMap,Sem.run_bind,run_newObj,Result.andThen_ok,Sem.run_pure]
  rfl
 | some x=>
  cases r with
  | none=>simp[Xhc]at hc
  | some y=>
   simp only[Xhc]at hc
   have r1:=A.sound hs hc.2
   simp only[X0e]at hm
   unfold Xiv at hm
   split at hm
   ·rename_i k n e1
    rw[e1,X2]at r1
    simp only[execOp,ho,Option.map_some,Instr.makeMap,Sem.run_bind,Xc ht,run_newObj,Result.andThen_ok,Sem.run_pure,r1,asInt]
    rfl
   ·exact hm.elim

theorem Xqm {x y:D}(h:D.alike0 x y=true):∃u v,x.key0=some u/\y.key0=some v:=by
 unfold D.alike0 at h
 split at h<;>first | exact⟨_,_,rfl,rfl⟩ | cases h
theorem Xdo:∀{xs ys:List D},Zl xs ys=true->∃us vs,Wz xs=some us/\Wz ys=some vs
 | [],[],_=>⟨[],[],rfl,rfl⟩
 | x::r,y::s,h=>by
  simp only[Zl,Bool.and_eq_true]at h
  obtain⟨u,v,h1,h2⟩:=Xqm h.1
  obtain⟨us,vs,h3,h4⟩:=Xdo h.2
  exact⟨u::us,v::vs,by simp only[Wz,h1,h3],by simp only[Wz,h2,h4]⟩
 | [],_::_,h=>by cases h
 | _::_,[],h=>by cases h
theorem Xby {k j:D}(h:D.alike k j=true):∃u v,k.key=some u/\j.key=some v:=by
 unfold D.alike at h
 split at h<;>first | exact⟨_,_,rfl,rfl⟩ | (cases h; done) | skip
 obtain⟨us,vs,h1,h2⟩:=Xdo h
 exact⟨.agg us.toArray,.agg vs.toArray,by simp only[D.key,h1,Ysa],by simp only[D.key,h2,Ysa]⟩
def D.flat0:D->Bool
 | .agg _=>false
 | _=>true
theorem Xlf {td:TypeDesc}{k:D}(h:Ud td k=true):k.flat0=true:=by
 unfold Ud at h; split at h<;>first | rfl | cases h
theorem Xea {td:TypeDesc}{kd k:D}(h:Ud td kd=true)(h2:D.alike kd k=true):Ud td k=true:=by
 unfold Ud at h
 split at h
 ·cases k<;>simp[D.alike]at h2<;>rfl
 ·cases k<;>simp[D.alike]at h2<;>rfl
 ·cases k<;>simp[D.alike]at h2<;>rfl
 ·cases h
theorem Xrm {td:TypeDesc}{k j:D}{u v:Value}(hk:Ud td k=true)(ha:D.alike k j=true)(hu:k.key=some u)(hv:j.key=some v):Instr.sameNow td u v=some (D.sameKey k j):=by
 have hfl:=Xlf hk
 cases k<;>simp only[D.flat0,Bool.false_eq_true]at hfl<;>cases j<;>simp only[D.alike,Bool.false_eq_true,decide_eq_true_eq]at ha<;>simp only[D.key,Option.some.injEq]at hu hv<;>subst hu<;>subst hv<;>cases td<;>simp only[Ud,Bool.false_eq_true]at hk
 ·subst ha; simp[Instr.sameNow,D.sameKey]
 ·simp[Instr.sameNow,D.sameKey]
 ·rename_i s t
  simp only[Instr.sameNow,D.sameKey,Option.some.injEq]
  rw[beq_toListBytes,Xj5,Xj5]
theorem Xy0:∀{xs ys:List D} {us vs:List Value},Zl xs ys=true->D.eqbs xs ys=true->Wz xs=some us->Wz ys=some vs->vs=us:=by
 intro xs ys us vs _ h2 h3 h4
 rw[D.eqbs_eq _ _ h2]at h3
 rw[h3]at h4; exact (Option.some.inj h4).symm
theorem Xg0 {k j:D}{u v:Value}(ha:D.alike k j=true)(hs:D.sameKey k j=true)(hu:k.key=some u)(hv:j.key=some v):v=u:=by
 cases k<;>cases j<;>simp only[D.alike,Bool.false_eq_true,decide_eq_true_eq]at ha<;>simp only[D.sameKey,beq_iff_eq]at hs<;>simp only[D.key,Option.some.injEq]at hu hv
 ·rw[<-hu,<-hv]; simp_all
 ·rw[<-hu,<-hv]; simp_all
 ·rw[<-hu,<-hv]; simp_all
 ·obtain⟨us,h1,rfl⟩:=Yy hu
  obtain⟨vs,h2,rfl⟩:=Yy hv
  rw[Xy0 ha hs h1 h2]
theorem X3z {x y:D}{u:Value}(h1:x.key0=some u)(h2:y.key0=some u)(ha:D.alike0 x y=true):D.eqb x y=true:=by
 cases x<;>cases y<;>simp only[D.alike0,Bool.false_eq_true,decide_eq_true_eq]at ha<;>simp only[D.key0,Option.some.injEq]at h1 h2<;>rw[<-h1]at h2
 ·simp only[Value.int.injEq]at h2; simp[D.eqb,h2.1,h2.2]
 ·simp only[Value.bool.injEq]at h2; simp[D.eqb,h2]
 ·simp only[Value.string.injEq,ByteArray.mk.injEq]at h2
  have h2:=congrArg Array.toList h2
  simp only[List.toList_toArray]at h2
  simp[D.eqb,h2]
theorem Xi0:∀{xs ys:List D} {us:List Value},Wz xs=some us->Wz ys=some us->Zl xs ys=true->D.eqbs xs ys=true
 | [],[],_,_,_,_=>rfl
 | x::r,y::s,us,h1,h2,ha=>by
  simp only[Zl,Bool.and_eq_true]at ha
  simp only[Wz]at h1 h2
  split at h1
  ·rename_i u1 us1 a1 a2
   split at h2
   ·rename_i u2 us2 b1 b2
    cases h1; cases h2
    simp only[D.eqbs,Bool.and_eq_true]
    exact⟨X3z a1 b1 ha.1,Xi0 a2 b2 ha.2⟩
   ·cases h2
  ·cases h1
 | [],_::_,_,_,_,h=>by cases h
 | _::_,[],_,_,_,h=>by cases h
theorem Xle {k j:D}{u:Value}(hu:k.key=some u)(hj:j.key=some u)(ha:D.alike k j=true):D.sameKey k j=true:=by
 cases k<;>cases j<;>simp only[D.alike,Bool.false_eq_true,decide_eq_true_eq]at ha<;>simp only[D.key,Option.some.injEq]at hu hj
 ·rw[<-hu]at hj; simp only[Value.int.injEq]at hj; simp[D.sameKey,hj.2]
 ·rw[<-hu]at hj; simp only[Value.bool.injEq]at hj; simp[D.sameKey,hj]
 ·rw[<-hu]at hj; simp only[Value.string.injEq,ByteArray.mk.injEq]at hj
  have hj:=congrArg Array.toList hj
  simp only[List.toList_toArray]at hj
  simp[D.sameKey,hj]
 ·obtain⟨us,h1,rfl⟩:=Yy hu
  obtain⟨vs,h2,h3⟩:=Yy hj
  have h3:us=vs:=by simpa using h3
  subst h3
  exact Xi0 h1 h2 ha
theorem Xo0 {e:MapEntry}{l:List MapEntry}{u:Value}{j:Nat}(h:∀i,i<j->∀e',l[i]? = some e'->e'.key ≠ u)(h0:e.key ≠ u):∀i,i<j+1->∀e',(e::l)[i]? = some e'->e'.key ≠ u
 | 0,_,e',he=>by simp at he; subst he; exact h0
 | i+1,hi,e',he=>h i (by omega) e' (by simpa using he)
theorem Xvt {td:TypeDesc}{k:D}{u:Value}(hk:Ud td k=true)(hu:k.key=some u):∀(es:List (D×V)) (l:List MapEntry) (i:Nat),X3 w ρ es l->(∀e∈es,D.alike k e.1=true)->
  (Vs k es=none/\Instr.findNow td u l i=some none)\/∃v j e,Vs k es=some v/\Instr.findNow td u l i=some (some (i+j,e.val))/\l[j]? = some e/\v.rep w ρ e.val/\e.key=u/\∀i,i<j->∀e',l[i]? = some e'->e'.key ≠ u
 | [],l,i,h,_=>by
  simp only[X3]at h; subst h
  exact .inl ⟨rfl,rfl⟩
 | (j,v)::r,l,i,h,ha=>by
  obtain⟨e,l',rfl,h1,h2,h3⟩:=h
  have haj:=ha (j,v) (by simp)
  have hs:=Xrm hk haj hu h1
  simp only[Instr.findNow,Vs,hs]
  cases hsk:D.sameKey k j with
  | true=>
   exact .inr ⟨v,0,e,by simp,by simp,by simp,h2,Xg0 haj hsk hu h1,fun _ h=>(by omega)⟩
  | false=>
   rcases Xvt hk hu r l' (i+1) h3 (fun x hx=>ha x (by simp[hx])) with⟨f1,f2⟩ | ⟨v',j',e',f1,f2,f3,f4,f5,f6⟩
   ·exact .inl ⟨by simpa using f1,by simpa using f2⟩
   ·exact .inr ⟨v',j'+1,e',by simpa using f1,by simp only[f2]; congr 3; omega,by simpa using f3,f4,f5,Xo0 f6 fun hk=>by rw[Xle hu (by rw[h1,hk]) haj]at hsk; cases hsk⟩
theorem Xce {kt:TypeId}{td:TypeDesc}(ht:P.underlying kt=some td){u:Value}{l:List MapEntry}{r:Option (Nat×Value)}(h:Instr.findNow td u l 0=some r)(w':World):(Instr.findKey kt u l).run P w'=.ok r w':=by
 simp[Instr.findKey,Xc ht,h]
theorem Xhy {kt:TypeId}{td:TypeDesc}(ht:P.underlying kt=some td){k:D}(hk:Ud td k=true)(u:Value)(b:Bool)(w':World):(Instr.checkKey b 10000 kt u).run P w'=.ok () w':=by
 unfold Instr.checkKey
 simp only[Sem.run_bind,Xc ht,Result.andThen_ok]
 unfold Ud at hk
 split at hk<;>first | (cases hk; done) | simp
theorem Xfe:∀{kd xs:List D},Zl kd xs=true->KT.fitss (kd.map Xra) xs=true
 | [],[],_=>rfl
 | x::r,y::s,h=>by
  simp only[Zl,Bool.and_eq_true]at h
  simp only[List.map_cons,KT.fitss,Bool.and_eq_true]
  refine⟨?_,Xfe h.2⟩
  have h1:=h.1
  unfold D.alike0 at h1; split at h1
  ·simpa[Xra,KT.fits]using h1
  ·rfl
  ·rfl
  ·cases h1
 | [],_::_,h=>by cases h
 | _::_,[],h=>by cases h
theorem Xoa:∀{kd:List D},KT.depths (kd.map Xra)<=1
 | []=>by simp[KT.depths]
 | x::r=>by
  simp only[List.map_cons,KT.depths]
  have:=Xoa (kd:=r)
  have h1:(Xra x).depth<=1:=by cases x<;>simp[Xra,KT.depth]
  omega
theorem X8w {t:TypeId}{x:D}(hc:(Xra x).chk P t=true)(b:Bool)(u:Value)(n:Nat)(w':World):(Instr.checkKey b (n+1) t u).run P w'=.ok () w':=by
 unfold Instr.checkKey
 cases x<;>simp only[Xra,KT.chk]at hc<;>(split at hc<;>first | (cases hc; done) | (rename_i hu; simp only[Sem.run_bind,Xc hu,Result.andThen_ok]; simp))
theorem Xhz (b:Bool)(n:Nat):∀(kd:List D) (fds:List Field) (o:Nat) (xs:List D) (px cx:List Value),KT.chks P (kd.map Xra) fds o=true->KT.fitss (kd.map Xra) xs=true->D.repL w (own ρ) xs cx->px.length=o->∀w',
  (forIn fds PUnit.unit (fun f (_:PUnit)=>(if f.name ≠ "_" then (do Instr.checkKey b (n+1) f.type (<-part f.type (px++cx).toArray f.offset); pure (ForInStep.yield PUnit.unit)) else pure (ForInStep.yield PUnit.unit):Sem (ForInStep PUnit)))).run P w'=.ok PUnit.unit w'
 | [],fds,o,xs,px,cx,hc,hx,rx,lx,w'=>by
  cases fds<;>simp[KT.chks]at hc
  simp
 | t::r,fds,o,xs,px,cx,hc,hx,rx,lx,w'=>by
  cases fds<;>simp only[List.map_cons,KT.chks,Bool.false_eq_true,Bool.and_eq_true,bne_iff_ne,ne_eq,beq_iff_eq]at hc
  rename_i f fs
  cases xs<;>simp only[List.map_cons,KT.fitss,Bool.false_eq_true,Bool.and_eq_true]at hx
  rename_i x xs
  simp only[D.repL]at rx
  obtain⟨a1,a2,rfl,ra,rx⟩:=rx
  obtain⟨⟨⟨⟨hn,ho⟩,hsz⟩,hct⟩,hcr⟩:=hc
  have e1:f.offset=px.length:=by omega
  have p1:=Jl (c1:=px) (c3:=a2) hct hsz hx.1 ra w'
  rw[<-e1]at p1
  have la:=D.rep_len _ _ ra
  rw[KT.size_eq _ x hx.1]at la
  have ih:=Xhz b n r fs (o+(Xra t).cells) xs (px++a1) a2 hcr hx.2 rx (by simp; omega) w'
  simp only[List.append_assoc]at ih
  simp only[List.forIn_cons,Sem.run_bind,hn,ne_eq,not_false_eq_true,if_true,p1,X8w hct,Result.andThen_ok,Sem.run_pure]
  exact ih
theorem U9 {kt:TypeId}{kd k:D}{u:Value}(hk:W8 P kt kd=true)(ha:D.alike kd k=true)(hu:k.key=some u)(b:Bool)(w':World):(Instr.checkKey b 10000 kt u).run P w'=.ok () w':=by
 unfold W8 at hk
 split at hk
 ·rename_i xs
  cases k<;>simp only[D.alike,Bool.false_eq_true]at ha
  rename_i ys
  simp only[D.key]at hu
  obtain⟨us,h1,rfl⟩:=Yy hu
  simp only[KT.chk]at hk
  split at hk
  ·rename_i fds hst
   simp only[Bool.and_eq_true]at hk
   unfold Instr.checkKey
   simp only[Sem.run_bind,Xc hst,Result.andThen_ok]
   rw[<-Array.forIn_toList]
   have:=Xhz (P:=P) (w:=w') (ρ:=⟨fun _=>none,fun _=>False,⟨fun _=>none,fun _ _ _ _ _=>False⟩⟩) b 9998 xs fds.toList 0 ys [] us hk.2 (Xfe ha) (Uc h1) rfl w'
   simp only[List.nil_append]at this
   simp only[this,Result.andThen_ok,Sem.run_pure]
  ·cases hk
 ·split at hk
  ·rename_i td htd
   exact Xhy htd (Xea hk ha) u b w'
  ·cases hk
theorem Xvr {kt:TypeId}{xs ys zs:List D}{us vs:List Value}(hk:(KT.st (xs.map Xra)).chk P kt=true)(ha:Zl xs ys=true)(hb:Zl ys zs=true)(hc:Zl xs zs=true)(h1:Wz ys=some us)(h2:Wz zs=some vs)(w':World) :
  (Op.equal kt (.agg us.toArray) (.agg vs.toArray)).run P w'=.ok (D.sameKey (.agg ys) (.agg zs)) w':=by
 have:=KT.equal (P:=P) (w:=w') (ow:=fun _=>False) (KT.st (xs.map Xra)) kt (.agg ys) (.agg zs) us vs 10000 hk (by simp only[KT.fits]; exact Xfe ha) (by simp only[KT.fits]; exact Xfe hc) (by simp only[D.rep]; exact Uc h1) (by simp only[D.rep]; exact Uc h2) (by simp only[KT.depth]; have:=Xoa (kd:=xs); omega) w'
 simp only[Xdb,D.isAgg,if_true,D.eqb]at this
 exact this
theorem Xaq:∀{a b c:List D},Zl a b=true->Zl b c=true->Zl a c=true
 | [],[],[],_,_=>rfl
 | x::r,y::s,z::t,h,h2=>by
  simp only[Zl,Bool.and_eq_true]at h h2⊢
  refine⟨?_,Xaq h.2 h2.2⟩
  have h1:=h.1; have h3:=h2.1
  cases x<;>cases y<;>simp[D.alike0]at h1<;>cases z<;>simp[D.alike0]at h3<;>simp_all[D.alike0]
 | [],[],_::_,_,h=>by cases h
 | [],_::_,_,h,_=>by cases h
 | _::_,[],_,h,_=>by cases h
 | _::_,_::_,[],_,h=>by cases h
theorem X5g {kt:TypeId}{k:D}{u:Value}(hu:k.key=some u)(hs:∀j v,D.alike k j=true->j.key=some v->∀w',(Op.equal kt u v).run P w'=.ok (D.sameKey k j) w'):∀(es:List (D×V)) (l:List MapEntry) (i:Nat),X3 w ρ es l->(∀e∈es,D.alike k e.1=true)->
  (Vs k es=none/\∀w',(Instr.findAsking kt u l i).run P w'=.ok none w')\/∃v j e,Vs k es=some v/\(∀w',(Instr.findAsking kt u l i).run P w'=.ok (some (i+j,e.val)) w')/\l[j]? = some e/\v.rep w ρ e.val/\e.key=u/\∀i,i<j->∀e',l[i]? = some e'->e'.key ≠ u
 | [],l,i,h,_=>by
  simp only[X3]at h; subst h
  exact .inl ⟨rfl,fun w'=>by simp[Instr.findAsking]⟩
 | (j,v)::r,l,i,h,ha=>by
  obtain⟨e,l',rfl,h1,h2,h3⟩:=h
  have haj:=ha (j,v) (by simp)
  have hq:=hs j _ haj h1
  simp only[Vs]
  cases hsk:D.sameKey k j with
  | true=>
   rw[hsk]at hq
   exact .inr ⟨v,0,e,by simp,fun w'=>by simp[Instr.findAsking,hq],by simp,h2,Xg0 haj hsk hu h1,fun _ h=>(by omega)⟩
  | false=>
   rw[hsk]at hq
   rcases X5g hu hs r l' (i+1) h3 (fun x hx=>ha x (by simp[hx])) with⟨f1,f2⟩ | ⟨v',j',e',f1,f2,f3,f4,f5,f6⟩
   ·exact .inl ⟨by simpa using f1,fun w'=>by simp[Instr.findAsking,hq,f2]⟩
   ·exact .inr ⟨v',j'+1,e',by simpa using f1,fun w'=>by simp only[Instr.findAsking,Sem.run_bind,hq,Result.andThen_ok,Bool.false_eq_true,if_false,f2]; congr 3; omega,by simpa using f3,f4,f5,Xo0 f6 fun hk=>by rw[Xle hu (by rw[h1,hk]) haj]at hsk; cases hsk⟩
theorem Xcd {kt:TypeId}{fds:Array Field}(hst:P.underlying kt=some (.struct fds)){u:Value}{l:List MapEntry}(w':World):(Instr.findKey kt u l).run P w'=(Instr.findAsking kt u l).run P w':=by
 cases l with
 | nil=>simp[Instr.findKey,Xc hst,Instr.findNow,Instr.findAsking]
 | cons e r=>
  have:Instr.findNow (.struct fds) u (e::r) 0=none:=by simp[Instr.findNow,Instr.sameNow]
  simp[Instr.findKey,Xc hst,this]
theorem Xaa {kt:TypeId}{kd k:D}{u:Value}(hk:W8 P kt kd=true)(hkd:D.alike kd k=true)(hu:k.key=some u){es:List (D×V)}{l:List MapEntry}(h:X3 w ρ es l)(ha:∀e∈es,D.alike k e.1=true) :
  (Vs k es=none/\∀w',(Instr.findKey kt u l).run P w'=.ok none w')\/∃v j e,Vs k es=some v/\(∀w',(Instr.findKey kt u l).run P w'=.ok (some (j,e.val)) w')/\l[j]? = some e/\v.rep w ρ e.val/\e.key=u/\∀i,i<j->∀e',l[i]? = some e'->e'.key ≠ u:=by
 have hk0:=hk
 unfold W8 at hk
 split at hk
 ·rename_i xs
  cases k<;>simp only[D.alike,Bool.false_eq_true]at hkd
  rename_i ys
  have hu0:=hu
  simp only[D.key]at hu
  obtain⟨us,h1,rfl⟩:=Yy hu
  have hst:∃fds,P.underlying kt=some (.struct fds):=by
   simp only[KT.chk]at hk
   split at hk
   ·exact⟨_,by assumption⟩
   ·cases hk
  obtain⟨fds,hst⟩:=hst
  have hs:∀j v,D.alike (.agg ys) j=true->j.key=some v->∀w',(Op.equal kt (.agg us.toArray) v).run P w'=.ok (D.sameKey (.agg ys) j) w':=by
   intro j v haj hv w'
   cases j<;>simp only[D.alike,Bool.false_eq_true]at haj
   simp only[D.key]at hv
   obtain⟨vs,h2,rfl⟩:=Yy hv
   exact Xvr hk hkd haj (Xaq hkd haj) h1 h2 w'
  rcases X5g (w:=w) (ρ:=ρ) hu0 hs es l 0 h ha with⟨f1,f2⟩ | ⟨v,j,e,f1,f2,f3⟩
  ·exact .inl ⟨f1,fun w'=>(Xcd hst w').trans (f2 w')⟩
  ·exact .inr ⟨v,j,e,f1,fun w'=>(Xcd hst w').trans (by simpa using f2 w'),f3⟩
 ·split at hk
  ·rename_i td htd
   rcases Xvt (Xea hk hkd) hu es l 0 h ha with⟨f1,f2⟩ | ⟨v,j,e,f1,f2,f3⟩
   ·exact .inl ⟨f1,fun w'=>Xce htd f2 w'⟩
   ·exact .inr ⟨v,j,e,f1,fun w'=>Xce htd (by simpa using f2) w',f3⟩
  ·cases hk
theorem Xwg {w:World}{ow:Nat->Prop}:∀{xs:List D} {us cs:List Value},Wz xs=some us->D.repL w ow xs cs->cs=us
 | [],us,cs,h,h2=>by simp only[Wz,Option.some.injEq]at h; simp only[D.repL]at h2; rw[h2,h]
 | x::r,us,cs,h,h2=>by
  simp only[Wz]at h
  split at h
  ·rename_i u us' h1 h3
   cases h
   simp only[D.repL]at h2
   obtain⟨c1,c2,rfl,r1,r2⟩:=h2
   rw[Xwg h3 r2]
   cases x<;>simp only[D.key0,Option.some.injEq,reduceCtorEq]at h1<;>subst h1<;>simp only[D.rep]at r1<;>rw[r1]<;>rfl
  ·cases h
theorem Xwf {d:D}{u v:Value}(h1:d.key=some u)(h2:(V.d d).rep w ρ v):v=u:=by
 cases d<;>simp only[D.key,Option.some.injEq,reduceCtorEq]at h1
 ·rw[X2]at h2; rw[h2,<-h1]
 ·rw[rep_bool]at h2; rw[h2,<-h1]
 ·rw[Wt]at h2; rw[h2,<-h1]
 ·obtain⟨us,h3,rfl⟩:=Yy h1
  rw[Jo]at h2
  rcases h2 with⟨_,ds,rfl,h2⟩ | ⟨h2,_⟩
  ·simp only[D.rep]at h2
   rw[Xwg h3 h2]
  ·cases h2
theorem X5e {et:TypeId}{z:D}(h:(match U2 P et with | some cs=>D.isC z cs&&(((P.info? et).bind (·.zero)).map fun v=>match v with | .agg _=>true | _=>false)==some (V.d z).isAgg | none=>false)=true) :
  ∃zv,(V.d z).rep w ρ zv/\∀w',(zeroValue et).run P w'=.ok zv w':=by
 cases hzt:U2 P et with
 | none=>simp[hzt]at h
 | some cs=>
  simp only[hzt,Bool.and_eq_true,beq_iff_eq]at h
  obtain⟨hz1,hz2⟩:=h
  obtain⟨zv,e1,e2,hzr⟩:=Ux hzt
  refine⟨zv,?_,hzr⟩
  have hr:(V.d z).repC w ρ cs:=by simp only[V.repC]; exact D.isC_rep z cs hz1
  rw[e2]at hz2
  simp only[Option.map_some,Option.some.injEq]at hz2
  cases zv with
  | agg cs'=>
   simp only at hz2
   refine .inr (.inl ⟨hz2.symm,cs,?_,hr⟩)
   simp only[Value.cells]at e1
   rw[<-e1]
  | _=>
   simp only at hz2
   refine .inr (.inr ⟨hz2.symm,?_⟩)
   simp only[Value.cells]at e1
   rw[<-e1]at hr
   simpa using hr
theorem X10 (hs:SM w ρ sl a)(hO:OM w ρ ob){op:Op}{kd z:D}{ok:Bool}{m k:A}(hc:I.chk P op (.lkp kd z ok m k)=true)(h:Xwp ob kd z ok (fun v=>K v ob) (m.ev sl) (k.ev sl)):U8 P a w ρ op K Pn:=by
 cases op<;>simp only[I.chk,Bool.false_eq_true]at hc
 rename_i t x i o
 simp only[Bool.and_eq_true,beq_iff_eq]at hc
 obtain⟨⟨⟨rfl,hty⟩,hx⟩,hi⟩:=hc
 obtain⟨kt,et,ht,hkk,hz⟩:∃kt et,P.underlying t=some (.map kt et)/\W8 P kt kd=true/\(match U2 P et with | some cs=>D.isC z cs&&(((P.info? et).bind (·.zero)).map fun v=>match v with | .agg _=>true | _=>false)==some (V.d z).isAgg | none=>false)=true:=by
  revert hty; split
  ·rename_i kt et h; intro h1; simp only[Bool.and_eq_true]at h1; exact⟨kt,et,h,h1.1,h1.2⟩
  ·intro h; cases h
 obtain⟨zv,hzv,hzr⟩:=X5e (w:=w) (ρ:=ρ) hz
 have r1:=A.sound hs hx
 have r2:=A.sound hs hi
 have tup:∀{v:V} {u:Value} (b:Bool),v.rep w ρ u->(V.tup [v,.d (.bool b)]).rep w ρ (.tuple #[u,.bool b]):=fun b hv=>by
  rw[Zw]
  refine⟨[_,.bool b],rfl,?_⟩
  simp only[V.reps]
  exact⟨_,_,rfl,hv,_,_,rfl,rep_bool.2 rfl,rfl⟩
 unfold Xwp at h
 split at h
 ·rename_i id kk e1 e2
  rw[e1]at r1
  rw[e2]at r2
  unfold Xfj at h
  split at h
  ·rename_i es hl
   obtain⟨⟨ha0,hall⟩,hK⟩:=h
   obtain⟨b,l,clk,g1,g2,g3,_⟩:=hO.one id _ hl
   rw[Xeh]at r1
   rcases r1 with⟨b',g4,r1⟩ | ⟨g4,_⟩
   ·rw[g1]at g4; cases g4
    obtain⟨_,ku,_,hku⟩:=Xby ha0
    have r2':=Xwf hku r2
    have hck:=fun b w'=>U9 hkk ha0 hku b w'
    have hget:(getObj b).run P w=.ok (.map l.toArray clk) w:=by simp[getObj,Sem.run,g2]
    rcases Xaa hkk ha0 hku g3 hall with⟨f1,f2⟩ | ⟨v,j,e,f1,f2,f3,f4,f5,_⟩
    ·rw[f1]at hK
     cases o
     ·exact Xv (fun o ho=>by simp[execOp,ho,Instr.lookup,r1,r2',Xc ht,hget,hck,f2,hzr]) hK hzv hO (Tr.refl _ _)
     ·exact Xv (fun o ho=>by simp[execOp,ho,Instr.lookup,r1,r2',Xc ht,hget,hck,f2,hzr]) hK (tup false hzv) hO (Tr.refl _ _)
    ·rw[f1]at hK
     cases o
     ·exact Xv (fun o ho=>by simp[execOp,ho,Instr.lookup,r1,r2',Xc ht,hget,hck,f2]) hK f4 hO (Tr.refl _ _)
     ·exact Xv (fun o ho=>by simp[execOp,ho,Instr.lookup,r1,r2',Xc ht,hget,hck,f2]) hK (tup true f4) hO (Tr.refl _ _)
   ·rw[g1]at g4; cases g4
  ·exact h.elim
 ·rename_i kk e1 e2
  rw[e1,Jr]at r1
  rw[e2]at r2
  obtain⟨ha0,hK⟩:=h
  obtain⟨_,ku,_,hku⟩:=Xby ha0
  have r2':=Xwf hku r2
  have hck:=fun b w'=>U9 hkk ha0 hku b w'
  have f2:∀w',(Instr.findKey kt ku ([]:List MapEntry)).run P w'=.ok none w':=fun w'=>by
   rcases Xaa (w:=w) (ρ:=ρ) (es:=[]) (l:=[]) hkk ha0 hku rfl (by simp) with⟨_,f⟩ | ⟨_,_,_,f,_⟩
   ·exact f w'
   ·cases f
  cases o
  ·exact Xv (fun o ho=>by simp[execOp,ho,Instr.lookup,r1,r2',Xc ht,hck,f2,hzr]) hK hzv hO (Tr.refl _ _)
  ·exact Xv (fun o ho=>by simp[execOp,ho,Instr.lookup,r1,r2',Xc ht,hck,f2,hzr]) hK (tup false hzv) hO (Tr.refl _ _)
 ·exact h.elim

theorem X7i {k:D}{u:Value}{x:V}{xv:Value}(hu:k.key=some u)(hx:x.rep w ρ xv)(clk:Nat):∀(es:List (D×V)) (l:List MapEntry),X3 w ρ es l->Vs k es=none->X3 w ρ (Xj6 k x es) (l++[{ key:=u,val:=xv,born:=clk }])
 | [],l,h,_=>by simp only[X3]at h; subst h; exact⟨_,[],rfl,hu,hx,rfl⟩
 | (j,v)::r,l,h,hf=>by
  obtain⟨e,l',rfl,h1,h2,h3⟩:=h
  simp only[Vs]at hf
  split at hf
  ·cases hf
  ·rename_i hs
   simp only[Xj6,hs]
   exact⟨e,_,rfl,h1,h2,X7i hu hx clk r l' h3 hf⟩
theorem Xz0 {k:D}{u:Value}{x:V}{xv:Value}(hu:k.key=some u)(hx:x.rep w ρ xv):∀(es:List (D×V)) (l:List MapEntry) (v:V) (j:Nat) (e:MapEntry),X3 w ρ es l->(∀e∈es,D.alike k e.1=true)->(∀i,i<j->∀e',l[i]? = some e'->e'.key ≠ u)->l[j]? = some e->e.key=u->
  X3 w ρ (Xj6 k x es) (l.modify j fun e=>{ e with key:=u,val:=xv })
 | [],l,v,j,e,h,_,_,hl,_=>by simp only[X3]at h; subst h; simp at hl
 | (q,y)::r,l,v,0,e,h,ha,_,hl,hk=>by
  obtain⟨e',l',rfl,h1,h2,h3⟩:=h
  simp only[List.getElem?_cons_zero,Option.some.injEq]at hl
  subst hl
  have hs:=Xle hu (by rw[h1,hk]) (ha (q,y) (by simp))
  simp only[Xj6,hs,if_true]
  exact⟨_,l',rfl,hu,hx,h3⟩
 | (q,y)::r,l,v,j+1,e,h,ha,hb,hl,hk=>by
  obtain⟨e',l',rfl,h1,h2,h3⟩:=h
  have hne:=hb 0 (by omega) e' (by simp)
  have hs:D.sameKey k q=false:=by
   cases hs:D.sameKey k q with
   | false=>rfl
   | true=>exact absurd (Xg0 (ha (q,y) (by simp)) hs hu h1) hne
  simp only[Xj6,hs,Bool.false_eq_true,if_false]
  exact⟨e',_,rfl,h1,h2,Xz0 hu hx r l' v j e h3 (fun x hx=>ha x (by simp[hx])) (fun i hi e2 he=>hb (i+1) (by omega) e2 (by simpa using he)) (by simpa using hl) hk⟩
theorem Jt {n:Nat}:∀{xs:List D} {us:List Value},Wz xs=some us->(us.zip us).all (fun (x,y)=>Instr.sameBits n x y)=true
 | [],us,h=>by simp only[Wz,Option.some.injEq]at h; subst h; rfl
 | x::r,us,h=>by
  simp only[Wz]at h
  split at h
  ·rename_i u us' h1 h2
   cases h
   simp only[List.zip_cons_cons,List.all_cons,Bool.and_eq_true]
   refine⟨?_,Jt h2⟩
   cases x<;>simp only[D.key0,Option.some.injEq,reduceCtorEq]at h1<;>subst h1<;>cases n<;>simp[Instr.sameBits,beq_toListBytes]
  ·cases h
theorem Xjz {k:D}{u:Value}(h:k.key=some u):Instr.sameBits 10000 u u=true:=by
 cases k<;>simp only[D.key,Option.some.injEq,reduceCtorEq]at h
 ·subst h; show (_==_&&_==_)=true; simp
 ·subst h; show (_==_)=true; simp
 ·subst h; show (_==_)=true; rw[beq_toListBytes]; simp
 ·obtain⟨us,h1,rfl⟩:=Yy h
  have:=Jt (n:=9999) h1
  show (_==_&&_)=true
  simpa using this
theorem Jz.snoc:∀{l:List MapEntry} {n:Nat} {e:MapEntry},Jz n l->e.born=n+l.length->Jz n (l++[e])
 | [],n,e,_,h=>⟨by simpa using h,trivial⟩
 | x::r,n,e,h,h2=>⟨h.1,Jz.snoc h.2 (by simp at h2; omega)⟩
theorem Jz.mdf:∀{l:List MapEntry} {n:Nat},Jz n l->∀(j:Nat) (u v:Value),Jz n (l.modify j fun e=>{ e with key:=u,val:=v })
 | [],n,h,j,u,v=>by simpa using h
 | x::r,n,h,0,u,v=>⟨h.1,h.2⟩
 | x::r,n,h,j+1,u,v=>⟨h.1,Jz.mdf h.2 j u v⟩
theorem Xug (hs:SM w ρ sl a)(hO:OM w ρ ob){op:Op}{kd:D}{m k v:A}(hc:I.chk P op (.mset kd m k v)=true)(h:Xcp ob kd (v.ev sl) K (m.ev sl) (k.ev sl)):U8 P a w ρ op K Pn:=by
 obtain⟨t,x,i,y,hop,hty,hx,hi,hy⟩:∃t x i y,(op=.mapUpdate t x i y\/op=.insert t x i y)/\(match P.underlying t with | some (.map kt _)=>W8 P kt kd | _=>false)=true/\A.chk x m=true/\A.chk i k=true/\A.chk y v=true:=by
  cases op<;>simp only[I.chk,Bool.false_eq_true,Bool.and_eq_true]at hc
  ·rename_i t x i y; exact⟨t,x,i,y,.inr rfl,hc.1.1.1,hc.1.1.2,hc.1.2,hc.2⟩
  ·rename_i t x i y; exact⟨t,x,i,y,.inl rfl,hc.1.1.1,hc.1.1.2,hc.1.2,hc.2⟩
 obtain⟨kt,et,ht,hkk⟩:∃kt et,P.underlying t=some (.map kt et)/\W8 P kt kd=true:=by
  revert hty; split
  ·rename_i kt et h; intro h1; exact⟨kt,et,h,h1⟩
  ·intro h; cases h
 have r1:=A.sound hs hx
 have r2:=A.sound hs hi
 have r3:=A.sound hs hy
 unfold Xcp at h
 split at h
 ·rename_i id kk e1 e2
  rw[e1]at r1
  rw[e2]at r2
  unfold Jg at h
  split at h
  ·rename_i es hl
   obtain⟨⟨ha0,hall⟩,hst,hK⟩:=h
   obtain⟨b,l,clk,g1,g2,g3,g5,g6⟩:=hO.one id _ hl
   rw[Xeh]at r1
   rcases r1 with⟨b',g4,r1⟩ | ⟨g4,_⟩
   ·rw[g1]at g4; cases g4
    obtain⟨_,ku,_,hku⟩:=Xby ha0
    have r2':=Xwf hku r2
    have hck:=fun b w'=>U9 hkk ha0 hku b w'
    have hget:(getObj b).run P w=.ok (.map l.toArray clk) w:=by simp[getObj,Sem.run,g2]
    rcases Xaa hkk ha0 hku g3 hall with⟨f0,f1⟩ | ⟨v',j,e,f0,f1,f2,_,f3,f6⟩
    ·have f2:=X7i hku r3 clk es l g3 f0
     obtain⟨t1,o1⟩:=Xkc (clk':=clk+1) hO hl g1 g2 f2 ⟨by simp[g5],Jz.snoc g6 (by simp[g5])⟩
     refine Q0 (fun o ho=>?_) hK o1 t1
     have hset:(setObj b (.map ((l++[(⟨ku,a.eval y,clk⟩:MapEntry)]).toArray) (clk+1))).run P w=.ok () (Jy w b (.map ((l++[(⟨ku,a.eval y,clk⟩:MapEntry)]).toArray) (clk+1))):=by simp[setObj,Sem.run,g2,Jy]
     rcases hop with rfl | rfl<;>simp[execOp,ho,Instr.mapUpdate,r1,r2',Xc ht,hget,hck,f1]<;>(rw[hset]; simp)
    ·have f4:=Xz0 hku r3 es l v' j e g3 hall f6 f2 f3
     obtain⟨t1,o1⟩:=Xkc (clk':=clk) hO hl g1 g2 f4 ⟨by simp[g5],Jz.mdf g6 j _ _⟩
     refine Q0 (fun o ho=>?_) hK o1 t1
     have hks:(Instr.keyThatStays e.key ku).run P w=.ok ku w:=by simp[Instr.keyThatStays,f3,Xjz hku]
     have hm:(l.toArray.modify j fun e=>{ e with key:=ku,val:=a.eval y })=(l.modify j fun e=>{ e with key:=ku,val:=a.eval y }).toArray:=by simp
     have hset:(setObj b (.map (l.modify j fun e=>{ e with key:=ku,val:=a.eval y }).toArray clk)).run P w=.ok () (Jy w b (.map (l.modify j fun e=>{ e with key:=ku,val:=a.eval y }).toArray clk)):=by simp[setObj,Sem.run,g2,Jy]
     rcases hop with rfl | rfl<;>simp[execOp,ho,Instr.mapUpdate,r1,r2',Xc ht,hget,hck,f1,f2,hks]<;>(rw[hset]; simp)
   ·rw[g1]at g4; cases g4
  ·exact h.elim
 ·exact h.elim

theorem X1w {P:Prg}(hg:ρ.gl=P.g)(hO:OM w ρ ob){op:Op}{g n:Nat}{ag:Bool}{x:D}(hc:I.chk P.p op (.gld g n ag x)=true)(h:GlobIs P g x/\x.sz=n/\(V.d x).isAgg=ag/\K (.d x) ob):U8 P.p a w ρ op K Pn:=by
 obtain⟨t,hop,h1,h2,h3⟩:∃t,op=.load t (.global g)/\X7 P.p t=some n/\(P.p.underlying t).isSome=true/\agT P.p t=ag:=by
  simp only[I.chk]at hc
  split at hc
  ·rename_i t hh
   simp only[Bool.and_eq_true,beq_iff_eq]at hc
   obtain⟨⟨⟨rfl,h1⟩,h2⟩,h3⟩:=hc
   exact⟨t,rfl,h1,h2,h3⟩
  ·cases hc
 obtain⟨⟨cs,T,f,hgl,hx⟩,hsz,hag,hK⟩:=h
 obtain⟨hh,hno⟩:=hO.glb g _ (by rw[hg]; exact hgl)
 have hrep:x.rep w (own ρ) cs:=D.isC_rep x cs hx
 have hr:(V.d (.ref x)).rep w ρ (.pointer (some ⟨g,0,none⟩)):=Ug.2 ⟨⟨g,0,none⟩,cs,rfl,rfl,⟨fun _=>⟨rfl,hno,Xj hh⟩,fun i hi=>by simp[World.cell?,hh,hi]⟩,hrep⟩
 let a2:Act:=⟨#[.pointer (some ⟨g,0,none⟩)],[]⟩
 have hs2:SM w ρ [(0,.d (.ref x))] a2:=by
  intro k
  simp only[look]
  split
  ·rename_i e; subst e; exact hr
  ·exact Qp
 obtain⟨v,y,hK2,hr2,hrun⟩:=Uu (P:=P.p) (K:=fun v=>v=V.d x) (a:=a2) (n:=n) (ag:=ag) (x:=.t 0) (op:=.load t (.tmp 0)) hs2 hO (by simp[C.chk,h1,h2,h3,A.chk]) (by simp[A.ev,look,ldK,hsz,hag])
 subst hK2
 refine Xv (fun o ho=>?_) hK hr2 hO (Tr.refl _ _)
 have:=hrun ⟨none,.load t (.tmp 0),0, "", #[],none⟩ rfl w (fun _=>Ext.refl w)
 simp only[execOp,Act.eval,a2]at this
 simp only[execOp,ho,hop,Act.eval]
 simpa using this

theorem Xyx (zs:List Value)(hz:zs.length ≠ 0):∀n:Nat,((Array.range (n*zs.length)).map (fun i=>zs.toArray[i % zs.toArray.size]!))=((List.replicate n zs).flatten).toArray:=by
 intro n
 apply Array.ext'
 simp only[Array.toList_map,Array.toList_range,List.toList_toArray]
 induction n with
 | zero=>simp
 | succ n ih=>
  rw[List.replicate_succ,List.flatten_cons,<-ih,Nat.succ_mul,Nat.add_comm,List.range_add,List.map_append,List.map_map]
  congr 1
  ·apply List.ext_getElem
   ·simp
   ·intro i h1 h2
    simp only[List.length_map,List.length_range]at h1
    simp[Nat.mod_eq_of_lt h1,h1]
  ·apply List.map_congr_left
   intro i _
   simp

theorem X12 (hs:SM w ρ sl a)(hO:OM w ρ ob){op:Op}{E sz B:Nat}{z:D}{l:A}(hc:I.chk P op (.mks E sz B z l)=true)(h:Ysq E sz B z ob K (l.ev sl)):U8 P a w ρ op K Pn:=by
 cases op<;>simp only[I.chk,Bool.false_eq_true]at hc
 rename_i t x y
 simp only[Bool.and_eq_true,bne_iff_ne,ne_eq,beq_iff_eq]at hc
 obtain⟨⟨⟨⟨⟨⟨⟨h1,h2⟩,h3⟩,h4⟩,h5⟩,h6⟩,h7⟩,h8⟩:=hc
 have ht:P.underlying t=some (.slice E):=by
  revert h3; split
  ·rename_i e he; intro h; simp at h; subst h; exact he
  ·intro h; cases h
 obtain⟨info,hi,hi1,hi2⟩:∃info,P.info? E=some info/\info.size=sz/\info.bytes=B:=by
  revert h4; split
  ·rename_i i hi; intro h; simp at h; exact⟨i,hi,h.1,h.2⟩
  ·intro h; cases h
 obtain⟨cs,hzt,hzc,hzl⟩:∃cs,U2 P E=some cs/\D.isC z cs=true/\cs.length=sz:=by
  revert h7; split
  ·rename_i cs hz; intro h; simp at h; exact⟨cs,hz,h.1,h.2⟩
  ·intro h; cases h
 have r1:=A.sound hs h1
 have r2:=A.sound hs h2
 unfold Ysq at h
 split at h
 ·rename_i m e1
  obtain⟨hm0,hmB,hK⟩:=h
  rw[e1,X2]at r1 r2
  have hmle:m<=281474976710656:=by
   have:m*1<=m*(B:Int):=Int.mul_le_mul_of_nonneg_left (by omega) hm0
   omega
  have hwr:IntKind.i64.wrap m=m:=by
   have e0:m % (2 ^ IntKind.i64.bits:Int)=m:=Int.emod_eq_of_lt hm0 (by show m<2 ^ 64; omega)
   have e2:¬m≥(2 ^ (IntKind.i64.bits-1):Int):=by show ¬m≥2 ^ 63; omega
   simp only[IntKind.wrap,e0,e2,decide_false,Bool.and_false,Bool.false_eq_true,if_false]
  obtain⟨zv,ez,_,hzrun⟩:=Ux hzt
  have hti:∀w',(typeInfo E).run P w'=.ok info w':=fun w'=>by simp[typeInfo,hi]
  have hsz:X7 P E=some sz:=by simp[X7,hi,hi1]
  have he2:=Y6 w (.cells ((List.replicate m.toNat cs).flatten).toArray E)
  have hbl:∀b,(RO.arr w.heap.size m.toNat m.toNat).blk? = some b->w.heap.size<=b:=fun b hb=>by simp[RO.blk?]at hb; omega
  have hfree:=Xw ob
  have t1:=W2 _ he2 (o:=.arr w.heap.size m.toNat m.toNat) (hO.free hfree) hbl
  have hrows:∀n,D.repL w (own ρ) (List.replicate n z) (List.replicate n cs).flatten:=by
   intro n
   induction n with
   | zero=>simp[D.repL]
   | succ n ih=>simp only[List.replicate_succ,List.flatten_cons,D.repL]; exact⟨cs,_,rfl,D.isC_rep z cs hzc,ih⟩
  refine Xv (v:=.slice (some ⟨w.heap.size,0,none⟩) m.toNat m.toNat) (fun o ho=>?_) hK (Yb.2 ⟨_,by simp[Env.ins]; rfl,?_⟩) (hO.ins he2 hfree hbl ?_) t1
  ·have hb1:¬((B:Int)*m > 2 ^ 48):=by rw[Int.mul_comm]; omega
   have hg:∀n,(Array.range n).map (fun i=>zv.cells[i % zv.cells.size]!)=(Array.range n).map (fun i=>cs.toArray[i % cs.toArray.size]!):=fun n=>by
    have:zv.cells=cs.toArray:=by rw[<-ez]
    rw[this]
   have hcond:(decide (m<0)||decide ((B:Int)*m > 2 ^ 48)||decide (m<0)||decide (m > m))=false:=by
    simp only[Bool.or_eq_false_iff,decide_eq_false_iff_not]; omega
   simp only[execOp,ho,Instr.makeSlice,Sem.run_bind,Xc ht,Result.andThen_ok,r1,r2,asInt,asIntOf,Sem.run_pure,hti,hi2,hwr,hcond,Bool.false_eq_true,if_false,run_askRoom,Xs hsz]
   by_cases h0:m.toNat=0
   ·have e0:(Array.map (fun x=>(#[]:Array Value)[x % (#[]:Array Value).size]!) (Array.range 0))=(List.replicate 0 cs).flatten.toArray:=by simp
    simp only[h0,Nat.zero_mul,if_true,Sem.run_pure,Result.andThen_ok,newRow,Sem.run_bind,run_newObj]
    rw[e0]; rfl
   ·have h00:m.toNat*sz ≠ 0:=Nat.mul_ne_zero h0 h5
    simp only[h00,if_false,Sem.run_bind,hzrun,Result.andThen_ok,Sem.run_pure,newRow,run_newObj,hg]
    have:=Xyx cs (by rw[hzl]; exact h5) m.toNat
    rw[hzl]at this
    rw[this]
    rfl
  ·simp[RO.slice]
  ·refine .inr ⟨w.heap.size,m.toNat,(List.replicate m.toNat cs).flatten,[],by simp[Env.ins],by simpa using Zd w (.cells ((List.replicate m.toNat cs).flatten).toArray E),D.repL_mono t1.mono _ _ (hrows _),fun x hx=>by rw[List.eq_of_mem_replicate hx]; exact h8,?_⟩
   simp[hzl]
 ·exact h.elim

theorem X8y (h:OM w ρ ob){id E sz k b cap:Nat}{xs:List D}(hl:Xe ob id=some (.arr E sz xs))(hr:ρ.m id=some (.arr b xs.length cap))(hk:k<=xs.length)(hsz:sz ≠ 0) :
  Tr w ρ w ((ρ.ins id .gone).ins (Xb ob) (.arr b k cap))/\OM w ((ρ.ins id .gone).ins (Xb ob) (.arr b k cap)) ((Xb ob,.arr E sz (xs.take k))::setO ob id .gone):=by
 have hne:id ≠ Xb ob:=fun e=>by rw[e,Xw]at hl; cases hl
 have hfm:ρ.m (Xb ob)=none:=h.free (Xw ob)
 let ρ1:=(ρ.ins id .gone).ins (Xb ob) (.arr b k cap)
 have hm1:ρ1.m (Xb ob)=some (.arr b k cap):=by simp[ρ1,Env.ins]
 have hm2:ρ1.m id=some .gone:=by simp[ρ1,Env.ins,hne]
 have hm3:∀j,j ≠ Xb ob->j ≠ id->ρ1.m j=ρ.m j:=fun j h1 h2=>by simp[ρ1,Env.ins,h1,h2]
 have t1:Tr w ρ w ρ1:=by
  refine⟨Nat.le_refl _,fun _ _ _=>rfl,fun c hc=>.inl ?_,rfl,rfl,fun j o hj=>?_,rfl,rfl,rfl,Nat.le_refl _⟩
  ·obtain⟨j,o,h1,h2⟩:=hc
   by_cases e1:j=Xb ob
   ·subst e1; rw[hm1]at h1; cases h1; simp[RO.blk?]at h2; subst h2; exact⟨id,_,hr,rfl⟩
   ·by_cases e2:j=id
    ·subst e2; rw[hm2]at h1; cases h1; simp[RO.blk?]at h2
    ·rw[hm3 j e1 e2]at h1; exact⟨j,o,h1,h2⟩
  ·by_cases e1:j=Xb ob
   ·subst e1; rw[hfm]at hj; cases hj
   ·by_cases e2:j=id
    ·subst e2; exact⟨_,hm2,.gone o⟩
    ·exact⟨o,by rw[hm3 j e1 e2]; exact hj,.refl o⟩
 refine⟨t1,⟨fun j y hy=>?_,fun j o hj=>?_,fun i j p q c h1 h2 h3 h4=>?_,h.xlt,Q6 t1 h.glb,fun c hc=>?_,⟨?_,h.once.set⟩⟩⟩
 ·simp only[Xe]at hy
  split at hy
  ·rename_i e; subst e; simp only[Option.some.injEq]at hy; subst hy
   rcases h.one id _ hl with⟨q,_⟩ | ⟨b',cap',cs,sp,g1,g2,g3,g4,g5⟩
   ·rw[hr]at q; cases q
   ·rw[hr]at g1; simp only[Option.some.injEq,RO.arr.injEq]at g1
    obtain⟨rfl,_,rfl⟩:=g1
    have g3':=D.repL_mono t1.mono _ _ g3
    have q1:=(D.repL_split xs k cs g3').1
    generalize hcn:D.szs (xs.take k)=cn at q1
    refine .inr ⟨b,cap,cs.take cn,cs.drop cn++sp,by rw[hm1]; simp[Nat.min_eq_left hk],by rw[<-List.append_assoc,List.take_append_drop]; exact g2,q1,fun x hx=>g4 x (List.mem_of_mem_take hx),by rw[<-List.append_assoc,List.take_append_drop]; exact g5⟩
  ·rename_i e1
   rw[Xp ob id j ⟨_,hl⟩]at hy
   split at hy
   ·rename_i e; subst e; simp at hy; subst hy; exact hm2
   ·rename_i e2
    exact V0.tr t1 (h.one j y hy) (hm3 j (fun e=>e1 e.symm) e2) (fun _ _ _ _=>rfl)
 ·simp only[Xe]
  split
  ·exact⟨_,rfl⟩
  ·rename_i e1
   rw[Xp ob id j ⟨_,hl⟩]
   split
   ·exact⟨_,rfl⟩
   ·rename_i e2; exact h.dom j o (by rw[<-hm3 j (fun e=>e1 e.symm) e2]; exact hj)
 ·have back:∀{j:Nat} {o:RO} {c:Nat},ρ1.m j=some o->o.blk? = some c->∃j' o',ρ.m j'=some o'/\o'.blk? = some c/\(j=if j'=id then Xb ob else j'):=by
   intro j o c h1 h2
   by_cases e1:j=Xb ob
   ·subst e1; rw[hm1]at h1; cases h1; simp[RO.blk?]at h2; subst h2; exact⟨id,_,hr,rfl,by simp⟩
   ·by_cases e2:j=id
    ·subst e2; rw[hm2]at h1; cases h1; simp[RO.blk?]at h2
    ·rw[hm3 j e1 e2]at h1; exact⟨j,o,h1,h2,by simp[e2]⟩
  obtain⟨i',p',a1,a2,a3⟩:=back h1 h3
  obtain⟨j',q',b1,b2,b3⟩:=back h2 h4
  have:=h.inj i' j' p' q' c a1 b1 a2 b2
  subst this; rw[a3,b3]
 ·rcases t1.owns c hc with hc | hc
  ·exact h.xdis c hc
  ·intro hx; have:=h.xlt c hx; omega
 ·exact Xc0 ob _ (Xw ob)

theorem X17 (hs:SM w ρ sl a)(hO:OM w ρ ob){op:Op}{z:Nat}{x hh:A}(hc:I.chk P op (.trn z x hh)=true)(h:Yfj z ob K (x.ev sl) (hh.ev sl)):U8 P a w ρ op K Pn:=by
 cases op<;>simp only[I.chk,Bool.false_eq_true]at hc
 rename_i t x1 lo hi mx
 cases lo<;>cases hi<;>cases mx<;>(try simp only[Bool.false_eq_true]at hc)
 ·rename_i h1
  simp only[Bool.and_eq_true]at hc
  obtain⟨⟨h0,hx⟩,hy⟩:=hc
  obtain⟨E,ht,he,hz⟩:∃E,P.underlying t=some (.slice E)/\X7 P E=some z/\z ≠ 0:=by
   revert h0; split
   ·rename_i e he; intro h; simp at h; exact⟨e,he,h.1,h.2⟩
   ·intro h; cases h
  have r1:=A.sound hs hx
  have r2:=A.sound hs hy
  unfold Yfj at h
  split at h
  ·rename_i id n m e1 e2
   rw[e1,Yb]at r1
   rw[e2,X2]at r2
   obtain⟨o,g1,g2⟩:=r1
   unfold Y28 at h
   split at h
   ·rename_i E' sz xs hl
    obtain⟨rfl,rfl,hne,⟨hm0,hmn⟩,hK⟩:=h
    rcases hO.one id _ hl with⟨_,q2⟩ | ⟨b,cap,cs,sp,q1,q2,q3,q4,q5⟩
    ·exact absurd q2 hne
    ·rw[g1]at q1; cases q1
     simp only[RO.slice]at g2
     have e3:a.eval x1=.slice (some ⟨b,0,none⟩) xs.length cap:=by simpa using g2.2.2
     have hcap:xs.length<=cap:=by
      have e4:cs.length=xs.length*sz:=by rw[D.repL_len _ _ q3,D.szs_uniform _ q4]
      have e5:xs.length*sz<=cap*sz:=by rw[<-q5,List.length_append]; omega
      exact Nat.le_of_mul_le_mul_right e5 (by omega)
     obtain⟨t1,o1⟩:=X8y hO (k:=m.toNat) hl g1 (by omega) hz
     refine Xv (v:=.slice (some ⟨b,0,none⟩) m.toNat cap) (fun o ho=>?_) hK (Yb.2 ⟨.arr b m.toNat cap,by simp[Env.ins],?_⟩) o1 t1
     ·have hsb:(Instr.sliceBound (.int .i64 m) cap .sliceAcap).run P w=.ok m.toNat w:=by
       simp only[Instr.sliceBound,asIntOf,Sem.run_bind,Sem.run_pure,Result.andThen_ok]
       rw[if_pos ⟨hm0,by omega⟩]; simp
      simp[execOp,ho,Instr.sliceAt,Instr.slice,e3,r2,Xc ht,Instr.sliceBounds,hsb,Xs he,Addr.add]
     ·simp[RO.slice]
   ·exact h.elim
  ·exact h.elim

theorem I.sound {P:Prg}(hg:ρ.gl=P.g)(hs:SM w ρ sl a)(hO:OM w ρ ob){op:Op}:∀{i:I},i.chk P.p op=true->i.wp P sl ob K Pn->U8 P.p a w ρ op K Pn
 | .c _,hc,h=>Ygg hs hO hc h
 | .box _ _,hc,h=>(Xh4 hs hO hc h).does
 | .alloc _ _,hc,h=>(Xb9 hO hc h).does
 | .bls _ _ _,hc,h=>(Xnv hs hO hc h).does hO
 | .blo _ _ _ _,hc,h=>(Xh2 hs hO hc h).does
 | .st _ _ _,hc,h=>X84 hs hO hc h
 | .app _ _ _ _ _,hc,h=>X1t hs hO hc h
 | .appS _ _ _ _,hc,_=>absurd hc (by simp[I.chk])
 | .call _ _,hc,h=>Xuf hg hs hO hc h
 | .pcall _ _,hc,h=>(Xb8 hg hs hO hc h).does hO
 | .callv _ _,hc,h=>Xqu hg hs hO hc h
 | .panic _,hc,h=>Xqv hs hO hc h
 | .b2s _,hc,_=>absurd hc (by simp[I.chk])
 | .s2b _,hc,_=>absurd hc (by simp[I.chk])
 | .nilo _ _ _,hc,h=>Xuh hs hO hc h
 | .mvf _,hc,h=>X13 hs hO hc h
 | .ldf _ _ _,hc,h=>X1y hs hO hc h
 | .mvg _ _ _ _ _,hc,h=>X14 hs hO hc h
 | .mvn _ _ _,hc,h=>X15 hs hO hc h
 | .cvb _,hc,h=>X1v hs hO hc h
 | .ustr _ _ _,hc,_=>absurd hc (by simp[I.chk])
 | .mkm _,hc,h=>X11 hs hO hc h
 | .lkp _ _ _ _ _,hc,h=>X10 hs hO hc h
 | .mset _ _ _ _,hc,h=>Xug hs hO hc h
 | .gld _ _ _ _,hc,h=>X1w hg hO hc h
 | .slg _ _ _,hc,_=>absurd hc (by simp[I.chk])
 | .blv _ _ _ _,hc,h=>(Xh3 hs hO hc h).does
 | .apv _ _ _ _ _,hc,h=>X1u hs hO hc h
 | .gv _,hc,_=>absurd hc (by simp[I.chk])
 | .ldg _ _ _,hc,h=>X1z hs hO hc h
 | .slb _ _ _ _ _,hc,_=>absurd hc (by simp[I.chk])
 | .cpy _ _ _,hc,_=>absurd hc (by simp[I.chk])
 | .clr _ _ _,hc,_=>absurd hc (by simp[I.chk])
 | .gix _ _ _ _ _,hc,_=>absurd hc (by simp[I.chk])
 | .rng _,hc,h=>(Xh5 hs hO hc h).does
 | .nxt _,hc,h=>X16 hs hO hc h
 | .ety _,hc,h=>(Xnw hs hO hc h).does hO
 | .lenM _,hc,h=>(Xhk hs hO hc h).does hO
 | .isn _ _ _,hc,h=>(Xnx hs hO hc h).does hO
 | .inv _ _ _ _ _ _,hc,h=>X1x hg hs hO hc h
 | .mks _ _ _ _ _,hc,h=>X12 hs hO hc h
 | .trn _ _ _,hc,h=>X17 hs hO hc h
 | .xcall _ _,hc,h=>(Xca hg hs hO hc h).does
 | .boxr _ _,hc,h=>(Xhj hs hO hc h).does hO

def I.kind:I->Nat
 | .c cc=>if cc.isLdd then 5 else if cc.isLd then 1 else 0
 | .boxr _ _ | .bls _ _ _ | .s2b _ | .pcall _ _ | .gix _ _ _ _ _ | .ety _ | .lenM _ | .isn _ _ _=>2
 | .box _ _ | .alloc _ _ | .blo _ _ _ _ | .blv _ _ _ _ | .rng _ | .xcall _ _=>4
 | _=>3

theorem I.soundE {P:Prg}(hg:ρ.gl=P.g)(hs:SM w ρ sl a)(hO:OM w ρ ob){op:Op}:∀{i:I},i.kind=2->i.chk P.p op=true->i.wp P sl ob K Pn->Xsc P.p a w ρ op ob K
 | .bls _ _ _,_,hc,h=>(Xnv hs hO hc h).doesE
 | .gix _ _ _ _ _,_,hc,_=>absurd hc (by simp[I.chk])
 | .s2b _,_,hc,_=>absurd hc (by simp[I.chk])
 | .pcall _ _,_,hc,h=>Xb8 hg hs hO hc h
 | .ety _,_,hc,h=>(Xnw hs hO hc h).doesE
 | .lenM _,_,hc,h=>(Xhk hs hO hc h).doesE
 | .isn _ _ _,_,hc,h=>(Xnx hs hO hc h).doesE
 | .boxr _ _,_,hc,h=>(Xhj hs hO hc h).doesE
 | .c cc,hk,_,_=>by exfalso; simp only[I.kind]at hk; revert hk; cases cc.isLdd<;>cases cc.isLd<;>simp
 | .xcall _ _,hk,_,_ | .rng _,hk,_,_ | .nxt _,hk,_,_ | .inv _ _ _ _ _ _,hk,_,_ | .mks _ _ _ _ _,hk,_,_ | .trn _ _ _,hk,_,_ | .box _ _,hk,_,_ | .alloc _ _,hk,_,_ | .blo _ _ _ _,hk,_,_ | .st _ _ _,hk,_,_ | .app _ _ _ _ _,hk,_,_ | .appS _ _ _ _,hk,_,_ | .call _ _,hk,_,_ | .callv _ _,hk,_,_ | .panic _,hk,_,_ | .b2s _,hk,_,_ | .nilo _ _ _,hk,_,_ | .mvf _,hk,_,_ | .ldf _ _ _,hk,_,_ | .mvg _ _ _ _ _,hk,_,_ | .mvn _ _ _,hk,_,_ | .cvb _,hk,_,_ | .ustr _ _ _,hk,_,_ | .mkm _,hk,_,_ | .lkp _ _ _ _ _,hk,_,_ | .mset _ _ _ _,hk,_,_ | .gld _ _ _ _,hk,_,_ | .slg _ _ _,hk,_,_ | .blv _ _ _ _,hk,_,_ | .apv _ _ _ _ _,hk,_,_ | .gv _,hk,_,_ | .ldg _ _ _,hk,_,_ | .slb _ _ _ _ _,hk,_,_ | .cpy _ _ _,hk,_,_ | .clr _ _ _,hk,_,_=>by simp[I.kind]at hk
theorem I.soundX {P:Prg}(hg:ρ.gl=P.g)(hs:SM w ρ sl a)(hO:OM w ρ ob){op:Op}:∀{i:I},i.kind=4->i.chk P.p op=true->i.wp P sl ob K Pn->Xdc P.p a w ρ op K
 | .xcall _ _,_,hc,h=>Xca hg hs hO hc h
 | .box _ _,_,hc,h=>Xh4 hs hO hc h
 | .alloc _ _,_,hc,h=>Xb9 hO hc h
 | .blo _ _ _ _,_,hc,h=>Xh2 hs hO hc h
 | .blv _ _ _ _,_,hc,h=>Xh3 hs hO hc h
 | .rng _,_,hc,h=>Xh5 hs hO hc h
 | .c cc,hk,_,_=>by exfalso; simp only[I.kind]at hk; revert hk; cases cc.isLdd<;>cases cc.isLd<;>simp
 | .boxr _ _,hk,_,_ | .nxt _,hk,_,_ | .ety _,hk,_,_ | .lenM _,hk,_,_ | .isn _ _ _,hk,_,_ | .inv _ _ _ _ _ _,hk,_,_ | .mks _ _ _ _ _,hk,_,_ | .trn _ _ _,hk,_,_ | .bls _ _ _,hk,_,_ | .s2b _,hk,_,_ | .pcall _ _,hk,_,_ | .st _ _ _,hk,_,_ | .app _ _ _ _ _,hk,_,_ | .appS _ _ _ _,hk,_,_ | .call _ _,hk,_,_ | .callv _ _,hk,_,_ | .panic _,hk,_,_ | .b2s _,hk,_,_ | .nilo _ _ _,hk,_,_ | .mvf _,hk,_,_ | .ldf _ _ _,hk,_,_ | .mvg _ _ _ _ _,hk,_,_ | .mvn _ _ _,hk,_,_ | .cvb _,hk,_,_ | .ustr _ _ _,hk,_,_ | .mkm _,hk,_,_ | .lkp _ _ _ _ _,hk,_,_ | .mset _ _ _ _,hk,_,_ | .gld _ _ _ _,hk,_,_ | .slg _ _ _,hk,_,_ | .apv _ _ _ _ _,hk,_,_ | .gv _,hk,_,_ | .ldg _ _ _,hk,_,_ | .slb _ _ _ _ _,hk,_,_ | .cpy _ _ _,hk,_,_ | .clr _ _ _,hk,_,_ | .gix _ _ _ _ _,hk,_,_=>by simp[I.kind]at hk
end
end Go.Ab
namespace Go.Ab
open Go
section
variable {P:Program} {ops:Array Oper} {Q:Exit->Act->World->Prop} {md:Region.Mode} {R:Nat->World->World->Prop}

def Z8 (P:Program)(md:Region.Mode)(ops:Array Oper)(Q:Exit->Act->World->Prop)(R:Nat->World->World->Prop):Nat->Array Bool->Act->World->Prop
 | 0,listed,a,w=>Region.ready md ops listed=[]/\Q .normal a w
 | fuel+1,listed,a,w=>
  (Region.ready md ops listed=[]->Q .normal a w)/\
  ∀i∈Region.ready md ops listed,Qt P ops Q i (fun a' w'=>R i w w'/\Z8 P md ops Q R fuel (listed.setIfInBounds i true) a' w') a w

theorem Xam:∀(fuel:Nat) (listed:Array Bool) (a:Act) (w:World),Z8 P md ops Q R fuel listed a w->Xj9 P md ops Q fuel listed a w
 | 0,_,_,_,h=>h
 | fuel+1,_,_,_,h=>⟨h.1,fun i hi=>Wn (fun a' w' h'=>Xam fuel _ a' w' h'.2) (h.2 i hi)⟩

theorem Qs {R':Nat->World->World->Prop}(hR:∀j u v,R j u v->R' j u v):∀(fuel:Nat) (listed:Array Bool) (a:Act) (w:World),Z8 P md ops Q R fuel listed a w->Z8 P md ops Q R' fuel listed a w
 | 0,_,_,_,h=>h
 | fuel+1,_,_,_,h=>⟨h.1,fun i hi=>Wn (fun a' w' h'=>⟨hR _ _ _ h'.1,Qs hR fuel _ a' w' h'.2⟩) (h.2 i hi)⟩

theorem Qr:∀(n m:Nat) (listed:Array Bool) (a:Act) (w:World),n<=m->Xj9 P md ops Q n listed a w->Xj9 P md ops Q m listed a w
 | 0,0,_,_,_,_,h=>h
 | 0,m+1,_,_,_,_,h=>⟨fun _=>h.2,fun i hi=>by rw[h.1]at hi; cases hi⟩
 | n+1,0,_,_,_,hle,_=>by omega
 | n+1,m+1,_,_,_,hle,h=>⟨h.1,fun i hi=>Wn (fun a' w' h'=>Qr n m _ a' w' (by omega) h') (h.2 i hi)⟩

def Xao (md:Region.Mode)(ops:Array Oper)(listed:Array Bool):Prop:=
 ∀k o,ops[k]? = some o->listed.getD k false=true->∀e∈o.after,Region.binds md e=true->listed.getD e.on false=true

theorem Xao.step {listed:Array Bool}(h:Xao md ops listed){j:Nat}(hj:j∈Region.ready md ops listed):Xao md ops (listed.setIfInBounds j true):=by
 obtain⟨_,oj,hoj,hall⟩:=mem_ready.1 hj
 intro k o hk hl e he hb
 by_cases hjk:j=k
 ·subst hjk
  rw[hoj]at hk; simp at hk; subst hk
  exact getD_set_true (hall e he hb)
 ·rw[getD_set_ne false hjk]at hl
  exact getD_set_true (h k o hk hl e he hb)

def W1 (md:Region.Mode)(ops:Array Oper)(i:Nat):Nat->Nat->Bool
 | 0,_=>false
 | fuel+1,j=>match ops[j]? with
  | some o=>o.after.any fun e=>Region.binds md e&&(e.on==i||W1 md ops i fuel e.on)
  | none=>false

theorem Xa5 {listed:Array Bool}(hc:Xao md ops listed){i:Nat}:∀(fuel k:Nat),W1 md ops i fuel k=true->listed.getD k false=true->listed.getD i false=true
 | 0,k,h,_=>by simp[W1]at h
 | fuel+1,k,h,hl=>by
  simp only[W1]at h
  split at h
  ·rename_i o ho
   rw[Array.any_eq_true']at h
   obtain⟨e,he,h⟩:=h
   simp only[Bool.and_eq_true,Bool.or_eq_true,beq_iff_eq]at h
   have h1:=hc k o ho hl e he h.1
   rcases h.2 with h2 | h2
   ·rw[<-h2]; exact h1
   ·exact Xa5 hc fuel e.on h2 h1
  ·simp at h

theorem Jh {listed:Array Bool}(hc:Xao md ops listed){i j fuel:Nat}(hi:listed.getD i true=false)(h:W1 md ops i fuel j=true):j∉Region.ready md ops listed:=by
 intro hj
 obtain⟨_,o,ho,hall⟩:=mem_ready.1 hj
 cases fuel with
 | zero=>simp[W1]at h
 | succ fuel=>
  simp only[W1,ho]at h
  rw[Array.any_eq_true']at h
  obtain⟨e,he,h⟩:=h
  simp only[Bool.and_eq_true,Bool.or_eq_true,beq_iff_eq]at h
  have h1:=hall e he h.1
  have hli:listed.getD i false=true:=by
   rcases h.2 with h2 | h2
   ·rw[<-h2]; exact h1
   ·exact Xa5 hc fuel e.on h2 h1
  rcases Nat.lt_or_ge i listed.size with h' | h'
  ·simp[h']at hi hli; rw[hi]at hli; cases hli
  ·simp[Array.getElem?_eq_none h']at hli

theorem Xr4 {S S':World->Prop}{o:Oper}{v:Value}{a:Act}(h:YieldsIf P ops S o v a)(hs:∀w,S' w->S w):YieldsIf P ops S' o v a:=
 h.imp (fun ⟨h1,h2⟩=>⟨h1,fun w hw=>h2 w (hs w hw)⟩) id

theorem Yi {S:World->World->Prop}(hrefl:∀w,S w w)(htrans:∀u v w,S u v->S v w->S u w){l:Bool}{i:Nat}{oi:Oper}{v:Value}(hi:ops[i]? = some oi)(hsel:∀(j:Nat) (o:Oper) cs b,ops[j]? = some o->o.op ≠ .select cs b)
  (hQ:∀c a w,Q (.panic c) (a.put oi.dst v) w->Q (.panic c) a w) (hl:l=true->∀j,j<ops.size->j ≠ i->(∃fuel,W1 md ops i fuel j=true)\/∀u v,R j u v->S u v) (hself:∀w,R i w w) :
  ∀(fuel:Nat) (listed:Array Bool) (a:Act) (w:World),Xao md ops listed->
   (∀j oj,ops[j]? = some oj->j ≠ i->listed.getD j true=false->(∀e∈oj.after,Region.binds md e=true->e.on ≠ i)->oi.apart ops oj=true)->
   i∈Region.ready md ops listed->YieldsIf P ops (fun w'=>l=true->S w w') oi v a->
   Z8 P md ops Q R fuel (listed.setIfInBounds i true) (a.put oi.dst v) w->Z8 P md ops Q R (fuel+1) listed a w:=by
 intro fuel
 induction fuel with
 | zero=>
  intro listed a w _ _ hr hy H
  refine⟨fun h=>(by rw[h]at hr; cases hr),fun j hj=>?_⟩
  by_cases hji:j=i
  ·subst hji; exact Xke hi hy (fun _=>hrefl w) ⟨hself w,H⟩
  ·have:=ready_mono hj hji
   rw[H.1]at this
   cases this
 | succ fuel ih=>
  intro listed a w hcl hfree hr hy H
  refine⟨fun h=>(by rw[h]at hr; cases hr),fun j hj=>?_⟩
  by_cases hji:j=i
  ·subst hji; exact Xke hi hy (fun _=>hrefl w) ⟨hself w,H⟩
  ·have h1:=H.2 j (ready_mono hj hji)
   obtain⟨hjun,oj,hoj,hall⟩:=mem_ready.1 hj
   have hiun:=(mem_ready.1 hr).1
   have hnot:∀e∈oj.after,Region.binds md e=true->e.on ≠ i:=fun e he hb heq=>by
    have h1:=hall e he hb
    rw[heq]at h1
    rcases Nat.lt_or_ge i listed.size with h' | h'
    ·simp[h']at hiun h1; rw[hiun]at h1; cases h1
    ·simp[Array.getElem?_eq_none h']at h1
   have h2:=Xm5 hoj (hfree j oj hoj hji hjun hnot) (fun cs b=>hsel i oi cs b hi) (fun cs b=>hsel j oj cs b hoj) hQ hy h1
   have hfree':∀k ok,ops[k]? = some ok->k ≠ i->(listed.setIfInBounds j true).getD k true=false->
     (∀e∈ok.after,Region.binds md e=true->e.on ≠ i)->oi.apart ops ok=true:=fun k ok hk hki hun hno=>by
    refine hfree k ok hk hki ?_ hno
    by_cases hjk:j=k
    ·subst hjk; exact hjun
    ·rw[getD_set_ne true hjk]at hun; exact hun
   refine Wn (fun a' w' h3=>⟨h3.2.1,ih (listed.setIfInBounds j true) a' w' (hcl.step hj) hfree' (ready_mono hr (Ne.symm hji)) (Xr4 h3.1 fun w'' h4 h5=>?_) ?_⟩) h2
   ·have hR:S w w':=by
     rcases hl h5 j (Array.getElem?_eq_some_iff.1 hoj).1 hji with⟨fl,hw⟩ | hs
     ·exact absurd hj (Jh hcl hiun hw)
     ·exact hs _ _ h3.2.1
    exact htrans _ _ _ hR (h4 h5)
   ·rw[Array.setIfInBounds_comm _ _ hji]
    exact h3.2.2
end
end Go.Ab
namespace Go.Ab
open Go

def put (sl:Xf)(d:Option Nat)(v:V):Xf:=match d with
  | some k=>(k,v)::sl
  | none=>sl

inductive It where
  | op (d:Option Nat) (i:I)
  | gop (s:Nat) (want:Bool) (d:Option Nat) (i:I)

def gdK (s:Nat)(want:Bool)(sl:Xf)(Y N:Xf->Prop):V->Prop
  | .d (.bool b)=>(b=want->Y ((s,.d (.bool want))::sl))/\(b=!want->N ((s,.d (.bool (!want)))::sl))
  | .undef=>N sl
  | _=>False

def rwp (P:Prg)(K:Xf->Xa->Prop)(Pn:V->Xf->Xa->Prop):List It->Xf->Xa->Prop
  | [],sl,ob=>K sl ob
  | .op d i::r,sl,ob=>i.wp P sl ob (fun v ob'=>rwp P K Pn r (put sl d v) ob') (fun v ob'=>Pn v sl ob')
  | .gop s want d i::r,sl,ob=>gdK s want sl (fun sl=>i.wp P sl ob (fun v ob'=>rwp P K Pn r (put sl d v) ob') (fun v ob'=>Pn v sl ob')) (fun sl=>rwp P K Pn r (put sl d .undef) ob) (look sl s)

mutual
inductive Ot where
  | done
  | one (i:Nat) (x:It) (r:Ot)
  | br (l:Ots)
inductive Ots where
  | nil
  | cons (i:Nat) (x:It) (r:Ot) (l:Ots)
end
def itK (P:Prg)(next:Xf->Xa->Prop)(Pn:V->Xf->Xa->Prop):It->Xf->Xa->Prop
  | .op d i,sl,ob=>i.wp P sl ob (fun v ob'=>next (put sl d v) ob') (fun v ob'=>Pn v sl ob')
  | .gop s want d i,sl,ob=>gdK s want sl (fun sl=>i.wp P sl ob (fun v ob'=>next (put sl d v) ob') (fun v ob'=>Pn v sl ob')) (fun sl=>next (put sl d .undef) ob) (look sl s)
mutual
def owp (P:Prg)(K:Xf->Xa->Prop)(Pn:V->Xf->Xa->Prop):Ot->Xf->Xa->Prop
  | .done,sl,ob=>K sl ob
  | .one _ x r,sl,ob=>itK P (owp P K Pn r) Pn x sl ob
  | .br l,sl,ob=>Xdi P K Pn l sl ob
def Xdi (P:Prg)(K:Xf->Xa->Prop)(Pn:V->Xf->Xa->Prop):Ots->Xf->Xa->Prop
  | .nil,_,_=>True
  | .cons _ x r l,sl,ob=>itK P (owp P K Pn r) Pn x sl ob/\Xdi P K Pn l sl ob
end

inductive S where
  | rg (ord:List Nat) (l:List It) (keep pk:List Nat)
  | rgT (n:Nat) (t:Ot) (keep pk:List Nat)
  | seq (a b:S)
  | skip
  | cond (c:A) (a b:S)
  | block (n:Nat) (a:S)
  | loop (keep:List Nat) (a:S)
  | exit (n:Nat)
  | ret
    | rgf (tag:Nat) (ps:List Nat) (g:A) (x y:S) (keep:List Nat)

def S.noR:S->Bool
  | .seq a b=>a.noR&&b.noR
  | .cond _ a b=>a.noR&&b.noR
  | .block _ a=>a.noR
  | .loop _ a=>a.noR
  | .rgf _ _ _ _ _ _=>false
  | _=>true

inductive AExit where
  | normal
  | exit (n:Nat)
  | ret
  | panic (v:V)

abbrev Yx:=AExit->Xf->Xa->Prop

def Wm (next:Xf->Xa->Prop)(Q:Yx):Yx
  | .normal,sl,ob=>next sl ob
  | .exit n,sl,ob=>Q (.exit n) sl ob
  | .ret,sl,ob=>Q .ret sl ob
  | .panic v,sl,ob=>Q (.panic v) sl ob
def Yl (id:Nat)(Q:Yx):Yx
  | .normal,sl,ob=>Q .normal sl ob
  | .exit n,sl,ob=>if n=id then Q .normal sl ob else Q (.exit n) sl ob
  | .ret,sl,ob=>Q .ret sl ob
  | .panic v,sl,ob=>Q (.panic v) sl ob
def J7 (Y N:Prop):V->Prop
  | .d (.bool t)=>(t=true->Y)/\(t=false->N)
  | _=>False
def Xk (sl:Xf):List Nat->Xf
  | []=>[]
  | k::r=>(k,look sl k)::Xk sl r

mutual
def V.men (ids:Nat->Bool):V->Bool
  | .ptr id _=>ids id
  | .sl id _=>ids id
  | .sd id _=>ids id
  | .mp id=>ids id
  | .hd _ id=>ids id
  | .ep id _ _ _ _ _=>ids id
  | .bs id _ _ _=>ids id
  | .fn _ a b=>V.mens ids a||V.mens ids b
  | .agg xs=>V.mens ids xs
  | .iface _ v=>V.men ids v
  | .tup xs=>V.mens ids xs
  | _=>false
def V.mens (ids:Nat->Bool):List V->Bool
  | []=>false
  | x::r=>V.men ids x||V.mens ids r
end
def Y4 (ids:Nat->Bool):Xa->Xa
  | []=>[]
  | (j,x)::r=>if ids j then Y4 ids r else (j,x)::Y4 ids r
def Wg (ids:Nat->Bool):Xf->Bool
  | []=>true
  | (_,v)::r=>!V.men ids v&&Wg ids r
def Qj (ids:Nat->Bool):List (D×V)->Bool
  | []=>false
  | (_,v)::r=>V.men ids v||Qj ids r
def Jj (ids:Nat->Bool):Option Nat->Bool
  | some j=>ids j
  | none=>false
def Xh (ids:Nat->Bool):Xa->Bool
  | []=>true
  | (_,.box _ t)::r=>!V.men ids t&&Xh ids r
  | (_,.vec _ _ xs)::r=>!V.mens ids xs&&Xh ids r
  | (_,.map es)::r=>!Qj ids es&&Xh ids r
  | (_,.lp _ _ sl)::r=>Wg ids sl&&Xh ids r
  | (_,.it m _ _)::r=>!Jj ids m&&Xh ids r
  | _::r=>Xh ids r
def Xd (n:Nat)(kp:List Nat)(id:Nat):Bool:=decide (n<=id)&&!kp.contains id
def sub (keep:List Nat)(n:Nat)(K:Xf->Xa->Prop)(sl:Xf)(ob:Xa):Prop:=
  ∃kp:List Nat,Wg (Xd n kp) (Xk sl keep)=true/\Xh (Xd n kp) (Y4 (Xd n kp) ob)=true/\K (Xk sl keep) (Y4 (Xd n kp) ob)

structure ALoop (keep:List Nat)(body:Yx->Xf->Xa->Prop)(Q:Yx)(sl:Xf)(ob:Xa):Prop where
  run:∃(ι:Type) (S:ι->Xf) (O:ι->Xa) (I:ι->Prop) (μ:ι->Nat) (i0:ι),I i0/\Xk sl keep=S i0/\ob=O i0/\
    ∀i,I i->body (Wm (sub keep (Xb (O i)) fun sl' ob'=>∃j,I j/\μ j<μ i/\sl'=S j/\ob'=O j) Q) (S i) (O i)


def J9 (N:Nat):Option Nat->Option Nat->Bool
  | some k,some j=>k==j&&decide (k<N)
  | none,none=>true
  | _,_=>false

def It.chk (P:Program)(N:Nat)(ops:Array Oper)(o:Oper):It->Bool
  | .op d i=>J9 N o.dst d&&o.guard.isNone&&i.chk P o.op
  | .gop s want d i=>J9 N o.dst d&&(match o.guard with
    | some (j,b)=>b==want&&(match ops[j]? with | some o'=>o'.dst==some s | none=>false)
    | none=>false)&&i.chk P o.op

def Wf (P:Program)(N:Nat)(ops:Array Oper):List Oper->List It->Bool
  | [],[]=>true
  | o::r,i::s=>i.chk P N ops o&&Wf P N ops r s
  | _,_=>false

def It.kind:It->Nat
  | .op _ i=>i.kind
  | .gop _ _ _ i=>i.kind
def X51:List Nat->List It->Nat->Nat
  | i::r,x::s,j=>if i=j then x.kind else X51 r s j
  | _,_,_=>3
def Xkt (P:Program)(N:Nat)(ops:Array Oper)(kd:Nat->Nat)(listed:Array Bool):List Nat->List It->Bool
  | [],[]=>(Region.ready .any ops listed).isEmpty
  | i::r,x::s=>(Region.ready .any ops listed).contains i&&(match ops[i]? with | some o=>x.chk P N ops o | none=>false)&&x.kind==kd i&&
      (match x.kind with
        | 0=>Region.free .any ops listed i
        | 5=>Region.free .any ops listed i
        | 1=>Region.free .any ops listed i&&(List.range ops.size).all (fun j=>kd j != 3||j==i||W1 .any ops i 1 j||W1 .any ops i ops.size j)
        | _=>(Region.ready .any ops listed)==[i])&&
      Xkt P N ops kd (listed.setIfInBounds i true) r s
  | _,_=>false
mutual
def Ot.kinds:Ot->List (Nat×Nat)
  | .done=>[]
  | .one i x r=>(i,x.kind)::r.kinds
  | .br l=>l.kinds
def Ots.kinds:Ots->List (Nat×Nat)
  | .nil=>[]
  | .cons i x r l=>(i,x.kind)::(r.kinds++l.kinds)
end
def X52:List (Nat×Nat)->Nat->Nat
  | [],_=>3
  | (i,k)::r,j=>if i=j then k else X52 r j
def Ots.has (j:Nat):Ots->Bool
  | .nil=>false
  | .cons i _ _ l=>i==j||l.has j
mutual
def V2 (P:Program)(N:Nat)(ops:Array Oper)(kd:Nat->Nat):Nat->Array Bool->Ot->Bool
  | 0,listed,.done=>(Region.ready .any ops listed).isEmpty
  | n+1,listed,.one i x r=>(Region.ready .any ops listed).contains i&&(match ops[i]? with | some o=>x.chk P N ops o | none=>false)&&x.kind==kd i&&
      (match x.kind with
        | 0=>Region.free .any ops listed i
        | 5=>Region.free .any ops listed i
        | 1=>Region.free .any ops listed i&&(List.range ops.size).all (fun j=>kd j != 3||j==i||W1 .any ops i 1 j||W1 .any ops i ops.size j)
        | _=>(Region.ready .any ops listed)==[i])&&
      V2 P N ops kd n (listed.setIfInBounds i true) r
  | n+1,listed,.br l=>!(Region.ready .any ops listed).isEmpty&&(Region.ready .any ops listed).all (fun j=>l.has j)&&Xe4 P N ops kd n listed l
  | _,_,_=>false
def Xe4 (P:Program)(N:Nat)(ops:Array Oper)(kd:Nat->Nat):Nat->Array Bool->Ots->Bool
  | _,_,.nil=>true
  | n,listed,.cons i x r l=>(Region.ready .any ops listed).contains i&&(match ops[i]? with | some o=>x.chk P N ops o | none=>false)&&x.kind==kd i&&V2 P N ops kd n (listed.setIfInBounds i true) r&&Xe4 P N ops kd n listed l
end
def Xbj (pk:List Nat)(ops:Array Oper):Bool:=ops.toList.all fun o=>match o.dst with
  | some d=>!pk.contains d
  | none=>true

def Xmu (ops:Array Oper):Bool:=ops.toList.all fun o=>match o.op with
  | .defer _=>false
  | _=>true
def S.chk (P:Program)(N:Nat):Code->S->Bool
  | .skip,.skip=>true
  | .region _ ops draw,.rg ord l _ pk=>Xmu ops&&if draw then decide (ord.length<=ops.size)&&Region.noSelect ops&&Xbj pk ops&&Xkt P N ops (X51 ord l) (Array.replicate ops.size false) ord l else Wf P N ops ops.toList l
  | .region _ ops draw,.rgT n t _ pk=>Xmu ops&&draw&&decide (n<=ops.size)&&Region.noSelect ops&&Xbj pk ops&&V2 P N ops (X52 t.kinds) n (Array.replicate ops.size false) t
  | .seq a b,.seq x y=>S.chk P N a x&&S.chk P N b y
  | .cond c a b,.cond d x y=>A.chk c d&&S.chk P N a x&&S.chk P N b y
  | .block n a,.block m x=>n==m&&S.chk P N a x
  | .loop a,.loop _ x=>S.chk P N a x
  | .exit n,.exit m=>n==m
  | .ret,.ret=>true
  | .rangeFunc f qs a c,.rgf _ ps g x y _=>A.chk f g&&((qs.toList==ps)&&ps.all (fun k=>decide (k<N))&&S.chk P N a x&&S.chk P N c y&&x.noR&&y.noR)
  | _,_=>false

def Vc (P:Prg)(tag:Nat)(ps:List Nat)(x y:S):Prop:=∀(qs:Array Nat) (N:Nat) (ca cb:Code),P.g.l tag qs N ca cb↔((qs.toList==ps)&&ps.all (fun k=>decide (k<N))&&S.chk P.p N ca x&&S.chk P.p N cb y&&x.noR&&y.noR)=true
def rgE (Q:Yx)(slk:Xf)(id:Nat)(ob:Xa):Option Ob->Prop
  | some (.lp _ .ready _)=>Q .normal slk (setO ob id .gone)
  | some (.lp _ .ret _)=>Q .ret slk (setO ob id .gone)
  | some (.lp _ (.exit n) _)=>Q (.exit n) slk (setO ob id .gone)
  | _=>False
def rgQ (Q:Yx)(slk:Xf)(id:Nat):Out->Xa->Prop
  | .ret _,ob=>rgE Q slk id ob (Xe ob id)
  | .panic _,_=>False
def rgK (P:Prg)(tag:Nat)(slk:Xf)(ob:Xa)(Q:Yx):V->Prop
  | .fn f fi ca=>Xm P.p f=true/\ACall P f (fi++[.hd true (Xb ob)]++ca) ((Xb ob,.lp tag .ready slk)::ob) (rgQ Q slk (Xb ob))
  | .d (.fn f fi ca)=>Xm P.p f=true/\ACall P f (fi.map .d++[.hd true (Xb ob)]++ca.map .d) ((Xb ob,.lp tag .ready slk)::ob) (rgQ Q slk (Xb ob))
  | _=>False

def cwp (P:Prg):S->Yx->Xf->Xa->Prop
  | .rg _ l keep pk,Q,sl,ob=>rwp P (fun sl ob=>Q .normal (Xk sl keep) ob) (fun v sl ob=>Q (.panic v) (Xk sl pk) ob) l sl ob
  | .rgT _ t keep pk,Q,sl,ob=>owp P (fun sl ob=>Q .normal (Xk sl keep) ob) (fun v sl ob=>Q (.panic v) (Xk sl pk) ob) t sl ob
  | .seq a b,Q,sl,ob=>cwp P a (Wm (cwp P b Q) Q) sl ob
  | .skip,Q,sl,ob=>Q .normal sl ob
  | .cond c a b,Q,sl,ob=>J7 (cwp P a Q sl ob) (cwp P b Q sl ob) (c.ev sl)
  | .block n a,Q,sl,ob=>cwp P a (Yl n Q) sl ob
  | .loop keep a,Q,sl,ob=>ALoop keep (cwp P a) Q sl ob
  | .exit n,Q,sl,ob=>Q (.exit n) sl ob
  | .ret,Q,sl,ob=>Q .ret sl ob
  | .rgf tag ps g x y keep,Q,sl,ob=>Vc P tag ps x y/\rgK P tag (Xk sl keep) ob Q (g.ev sl)


structure Ctx where
  w0:World
  ex:Nat->Prop
  N:Nat
  df:List Deferred
  g:Gl
  m0:Nat->Option RO
  ev:List (V×Value)
  mrk:Bool:=false

def Env.del (ρ:Env)(ids:Nat->Bool):Env:=⟨fun j=>if ids j then none else ρ.m j,ρ.xo,ρ.gl⟩
def mkD (r:Nat):Deferred:={ target:=.collected r,args:=#[] }
def Dfr (c:Ctx)(w:World)(ρ:Env)(ds:List Deferred):Prop:=
  ∃ms:List Nat,ds=ms.map mkD++c.df/\(c.mrk=false->ms=[])/\ms.Nodup/\∀r∈ms,c.w0.heap.size<=r/\w.heap[r]? = some (.deferred (some []))/\¬Xbn ρ r
theorem Dfr.tr {c:Ctx}{w w':World}{ρ ρ':Env}{ds:List Deferred}(h:Dfr c w ρ ds)(t:Tr w ρ w' ρ'):Dfr c w' ρ' ds:=by
  obtain⟨ms,h1,h2,h3,h4⟩:=h
  refine⟨ms,h1,h2,h3,fun r hr=>?_⟩
  obtain⟨g1,g2,g3⟩:=h4 r hr
  have hlt:r<w.heap.size:=Xj g2
  exact⟨g1,(t.keep r g3 hlt).trans g2,fun h=>(t.owns r h).elim g3 (fun h=>by omega)⟩
theorem Dfr.put {c:Ctx}{w:World}{ρ:Env}{a a':Act}(h:Dfr c w ρ a.defers)(e:a'.defers=a.defers):Dfr c w ρ a'.defers:=by rw[e]; exact h
theorem Dfr.del {c:Ctx}{w:World}{ρ:Env}{ds:List Deferred}{ids:Nat->Bool}(h:Dfr c w ρ ds)(hd:∀b,Xbn (ρ.del ids) b->Xbn ρ b):Dfr c w (ρ.del ids) ds:=by
  obtain⟨ms,h1,h2,h3,h4⟩:=h
  exact⟨ms,h1,h2,h3,fun r hr=>⟨(h4 r hr).1,(h4 r hr).2.1,fun h=>(h4 r hr).2.2 (hd r h)⟩⟩
theorem Dfr.nil {c:Ctx}{w:World}{ρ:Env}:Dfr c w ρ c.df:=⟨[],rfl,fun _=>rfl,List.nodup_nil,fun _ h=>by cases h⟩
theorem Dfr.eq {c:Ctx}{w:World}{ρ:Env}{ds:List Deferred}(h:Dfr c w ρ ds)(hm:c.mrk=false):ds=c.df:=by
  obtain⟨ms,h1,h2,_⟩:=h
  rw[h1,h2 hm]; rfl

structure Base (c:Ctx)(w:World)(ρ:Env):Prop where
  size:c.w0.heap.size<=w.heap.size
  keep:∀b,b<c.w0.heap.size->¬c.ex b->w.heap[b]? = c.w0.heap[b]?
  owns:∀b,Xbn ρ b->c.w0.heap.size<=b\/c.ex b
  tape:w.tape=c.w0.tape
  os:w.os=c.w0.os
  out:w.output=c.w0.output
  same:∀id o,c.m0 id=some o->∃o',ρ.m id=some o'/\o.le o'
  ext:∀p∈c.ev,p.1.rep w ρ p.2
  drawn:c.w0.drawn<=w.drawn

theorem Base.tr {c:Ctx}{w w':World}{ρ ρ':Env}(h:Base c w ρ)(t:Tr w ρ w' ρ'):Base c w' ρ':=by
  refine⟨Nat.le_trans h.size t.size,fun b h1 h2=>?_,fun b h1=>?_,t.tape.trans h.tape,t.os.trans h.os,t.out.trans h.out,fun id o h1=>?_,fun p hp=>V.rep_tr t (h.ext p hp),Nat.le_trans h.drawn t.drawn⟩
  · refine (t.keep b (fun h3=>?_) (Nat.lt_of_lt_of_le h1 h.size)).trans (h.keep b h1 h2)
    exact (h.owns b h3).elim (fun h=>by omega) h2
  · rcases t.owns b h1 with h3 | h3
    · exact h.owns b h3
    · exact .inl (Nat.le_trans h.size h3)
  · obtain⟨o',h2,h3⟩:=h.same id o h1
    obtain⟨o'',h4,h5⟩:=t.same id o' h2
    exact⟨o'',h4,h3.trans h5⟩

structure Mod (c:Ctx)(xo:Nat->Prop)(ρ:Env)(sl:Xf)(ob:Xa)(a:Act)(w:World):Prop where
  base:Base c w ρ
  om:OM w ρ ob
  sm:SM w ρ sl a
  size:a.tmps.size=c.N
  df:Dfr c w ρ a.defers
  xo:ρ.xo=xo
  gl:ρ.gl=c.g

def exM (w:World)(ρ:Env):Exit->AExit->Prop
  | .normal,.normal=>True
  | .exit n,.exit m=>n=m
  | .ret,.ret=>True
  | .panic ch,.panic v=>∃u,ch=[{ v:=u,recovered:=false }]/\v.rep w ρ u
  | _,_=>False

def lift (c:Ctx)(xo:Nat->Prop)(Q:Yx):Exit->Act->World->Prop:=
  fun e a w=>∃ae sl ob ρ,Q ae sl ob/\exM w ρ e ae/\Mod c xo ρ sl ob a w

theorem Xn {w:World}{ρ:Env}{sl:Xf}{a:Act}{d:Option Nat}{x:V}{v:Value}{N:Nat}{o:Option Nat}(hd:J9 N o d=true)(hN:a.tmps.size=N)(hs:SM w ρ sl a)(hx:x.rep w ρ v) :
    SM w ρ (put sl d x) (a.put o v)/\(a.put o v).tmps.size=N/\(a.put o v).defers=a.defers:=by
  cases o with
  | none=>
    cases d with
    | none=>exact⟨hs,hN,rfl⟩
    | some j=>simp[J9]at hd
  | some k=>
    cases d with
    | none=>simp[J9]at hd
    | some j=>
      simp only[J9,Bool.and_eq_true,beq_iff_eq,decide_eq_true_eq]at hd
      obtain⟨rfl,hk⟩:=hd
      refine⟨fun i=>?_,by simpa[Act.put]using hN,rfl⟩
      simp only[put,look,Act.put]
      split
      · rename_i e; subst e
        have:k<a.tmps.size:=by omega
        simpa[this]using hx
      · rename_i e
        have:=hs i
        simpa[Array.getElem?_setIfInBounds,e]using this

theorem Xkd {ops:Array Oper}{a:Act}{j s:Nat}{o':Oper}{b:Bool}(h1:ops[j]? = some o')(h2:o'.dst=some s)(h3:a.tmps.getD s undef=.bool b):yielded ops a.tmps j=some b:=by
  have hs:s<a.tmps.size:=by
    rcases Nat.lt_or_ge s a.tmps.size with h | h
    · exact h
    · simp[Array.getD,Nat.not_lt.2 h,undef]at h3
  simp only[Array.getD,hs,dif_pos]at h3
  have:a.tmps[s]? = some (.bool b):=by rw[Array.getElem?_eq_getElem hs]; exact congrArg some h3
  simp[yielded,h1,h2,this]

theorem Xg9 {ops:Array Oper}{a:Act}{j s:Nat}{o':Oper}(h1:ops[j]? = some o')(h2:o'.dst=some s)(h3:a.tmps.getD s undef=undef):yielded ops a.tmps j=none:=by
  rcases Nat.lt_or_ge s a.tmps.size with hs | hs
  · simp only[Array.getD,hs,dif_pos]at h3
    have:a.tmps[s]? = some (.tuple #[]):=by rw[Array.getElem?_eq_getElem hs]; exact congrArg some h3
    simp[yielded,h1,h2,this]
  · have:a.tmps[s]? = none:=Array.getElem?_eq_none hs
    simp[yielded,h1,h2,this]

theorem Zt {w:World}{ρ:Env}{sl:Xf}{a:Act}{ops:Array Oper}{o:Oper}{s:Nat}{want:Bool}{Y N:Xf->Prop}(hs:SM w ρ sl a)
    (hg:(match o.guard with | some (j,b)=>b==want&&(match ops[j]? with | some o'=>o'.dst==some s | none=>false) | none=>false)=true)
    (h:gdK s want sl Y N (look sl s)) :
    (Region.wanted o (yielded ops a.tmps)=true/\∃sl',SM w ρ sl' a/\Y sl')\/(Region.wanted o (yielded ops a.tmps)=false/\∃sl',SM w ρ sl' a/\N sl'):=by
  split at hg
  · rename_i j b hj
    simp only[Bool.and_eq_true,beq_iff_eq]at hg
    obtain⟨rfl,hg⟩:=hg
    split at hg
    · rename_i o' ho
      have hd:o'.dst=some s:=by simpa using hg
      have hv:=hs s
      have key:∀c:Bool,a.tmps.getD s undef=.bool c->SM w ρ ((s,.d (.bool c))::sl) a:=fun c hc k=>by
        simp only[look]
        split
        · rename_i e; subst e; rw[hc]; exact rep_bool.2 rfl
        · exact hs k
      unfold gdK at h
      split at h
      · rename_i c e
        rw[e,rep_bool]at hv
        have hy:=Xkd (a:=a) ho hd hv
        by_cases hcb:c=b
        · subst hcb
          exact .inl ⟨by simp[Region.wanted,hj,hy],_,key c hv,h.1 rfl⟩
        · have hcn:c=!b:=by cases c<;>cases b<;>simp_all
          subst hcn
          exact .inr ⟨by simp[Region.wanted,hj,hy],_,key _ hv,h.2 rfl⟩
      · rename_i e
        rw[e,Yu]at hv
        have hy:=Xg9 (a:=a) ho hd hv
        exact .inr ⟨by simp[Region.wanted,hj,hy],_,hs,h⟩
      · exact h.elim
    · simp at hg
  · simp at hg

theorem Xad {P:Prg}{c:Ctx}(hg:P.g=c.g){xo:Nat->Prop}{ops:Array Oper}{Q:Exit->Act->World->Prop}{K:Xf->Xa->Prop}{Pn:V->Xf->Xa->Prop}
    (hK:∀sl ob ρ a w,K sl ob->Mod c xo ρ sl ob a w->Q .normal a w)
    (hP:∀v sl ob ρ a w u,Pn v sl ob->Mod c xo ρ sl ob a w->v.rep w ρ u->Q (.panic [{ v:=u,recovered:=false }]) a w) :
    ∀(l:List Oper) (its:List It) (sl:Xf) (ob:Xa) (ρ:Env) (a:Act) (w:World),Wf P.p c.N ops l its=true->rwp P K Pn its sl ob->Mod c xo ρ sl ob a w->Vz P.p ops Q l a w
  | [],[],sl,ob,ρ,a,w,_,h,m=>by simp only[Vz]; exact hK sl ob ρ a w h m
  | o::r,i::s,sl,ob,ρ,a,w,hc,h,m=>by
    simp only[Wf,Bool.and_eq_true]at hc
    obtain⟨h1,h2⟩:=hc
    have step:∀(d:Option Nat) (x:I) (sl:Xf),SM w ρ sl a->J9 c.N o.dst d=true->x.chk P.p o.op=true->x.wp P sl ob (fun v ob'=>rwp P K Pn s (put sl d v) ob') (fun v ob'=>Pn v sl ob')->wpA P.p o a w (Vz P.p ops Q r) Q:=by
      intro d x sl hs hd hx hw
      refine I.sound (m.gl.trans hg.symm) hs m.om hx hw o rfl _ _ (fun v y ob' w' ρ' hk hr ho t=>?_) (fun u y ob' w' ρ' hk hr ho t=>?_)
      · obtain⟨g1,g2,g3⟩:=Xn hd m.size (hs.tr t) hr
        exact Xad hg hK hP r s _ ob' ρ' _ w' h2 hk ⟨m.base.tr t,ho,g1,g2,(m.df.tr t).put g3,t.xo.trans m.xo,t.gl.trans m.gl⟩
      · exact hP y sl ob' ρ' a w' u hk ⟨m.base.tr t,ho,hs.tr t,m.size,m.df.tr t,t.xo.trans m.xo,t.gl.trans m.gl⟩ hr
    cases i with
    | op d x=>
      simp only[It.chk,Bool.and_eq_true,Option.isNone_iff_eq_none]at h1
      simp only[rwp]at h
      simp only[Vz,Region.wanted,h1.1.2,if_true]
      exact step d x sl m.sm h1.1.1 h1.2 h
    | gop g want d x=>
      simp only[It.chk,Bool.and_eq_true]at h1
      simp only[rwp]at h
      simp only[Vz]
      rcases Zt (ops:=ops) m.sm h1.1.2 h with⟨hw,sl',hs,h⟩ | ⟨hw,sl',hs,h⟩
      · rw[if_pos hw]
        exact step d x sl' hs h1.1.1 h1.2 h
      · rw[hw]
        simp only[Bool.false_eq_true,if_false]
        obtain⟨g1,g2,g3⟩:=Xn h1.1.1 m.size hs (Yu.2 rfl)
        exact Xad hg hK hP r s _ ob ρ _ w h2 h ⟨m.base,m.om,g1,g2,m.df.put g3,m.xo,m.gl⟩
  | [],_::_,_,_,_,_,_,hc,_,_=>by simp[Wf]at hc
  | _::_,[],_,_,_,_,_,hc,_,_=>by simp[Wf]at hc

theorem SM.keep {w:World}{ρ:Env}{sl:Xf}{a:Act}(hs:SM w ρ sl a)(l:List Nat):SM w ρ (Xk sl l) a:=by
  intro k
  induction l with
  | nil=>exact Qp
  | cons j r ih=>
    simp only[Xk,look]
    split
    · rename_i e; subst e; exact hs j
    · exact ih


theorem Z1 {ρ:Env}{ids:Nat->Bool}{b:Nat}(h:Xbn (ρ.del ids) b):Xbn ρ b:=by
  obtain⟨j,o,h1,h2⟩:=h
  simp only[Env.del]at h1
  split at h1
  · cases h1
  · exact⟨j,o,h1,h2⟩

theorem Xe7 (w:World)(ρ:Env)(ids:Nat->Bool):Xha w (own ρ) w (own (ρ.del ids)):=fun _ h _=>
  ⟨rfl,fun h'=>h (h'.elim (fun h=>.inl (Z1 h)) .inr)⟩

mutual
theorem V.repC_del {w:World}{ρ:Env}{ids:Nat->Bool}:∀(x:V) (cs:List Value),V.men ids x=false->x.repC w ρ cs->x.repC w (ρ.del ids) cs
  | .d x,cs,_,h=>by simp only[V.repC]at h⊢; exact D.rep_mono (Xe7 w ρ ids) x cs h
  | .ptr id p,cs,hm,h=>by
    simp only[V.repC]at h⊢
    simp only[V.men]at hm
    rcases h with⟨b,sh,h1,h2⟩ | ⟨h1,h2⟩
    · exact .inl ⟨b,sh,by simp only[Env.del,hm]; exact h1,h2⟩
    · exact .inr ⟨by simp only[Env.del,hm]; exact h1,h2⟩
  | .sl id n,cs,hm,h=>by
    simp only[V.repC]at h⊢
    simp only[V.men]at hm
    obtain⟨o,u,h1,h2⟩:=h
    exact⟨o,u,by simp only[Env.del,hm]; exact h1,h2⟩
  | .sd id n,cs,hm,h=>by
    simp only[V.repC]at h⊢
    simp only[V.men]at hm
    obtain⟨o,u,h1,h2⟩:=h
    exact⟨o,u,by simp only[Env.del,hm]; exact h1,h2⟩
  | .mp id,cs,hm,h=>by
    simp only[V.repC]at h⊢
    simp only[V.men]at hm
    rcases h with⟨b,h1,h2⟩ | ⟨h1,h2⟩
    · exact .inl ⟨b,by simp only[Env.del,hm]; exact h1,h2⟩
    · exact .inr ⟨by simp only[Env.del,hm]; exact h1,h2⟩
  | .hd y id,cs,hm,h=>by
    simp only[V.repC]at h⊢
    simp only[V.men]at hm
    rcases h with⟨b,h1,h2⟩ | ⟨h1,h2⟩
    · exact .inl ⟨b,by simp only[Env.del,hm]; exact h1,h2⟩
    · exact .inr ⟨by simp only[Env.del,hm]; exact h1,h2⟩
  | .bs id p lo n,cs,hm,h=>by
    simp only[V.repC]at h⊢
    simp only[V.men]at hm
    rcases h with⟨b,sh,cap,f,h1,h2⟩ | ⟨h1,h2⟩
    · exact .inl ⟨b,sh,cap,f,by simp only[Env.del,hm]; exact h1,h2⟩
    · exact .inr ⟨by simp only[Env.del,hm]; exact h1,h2⟩
  | .ep id n z i f p,cs,hm,h=>by
    simp only[V.repC]at h⊢
    simp only[V.men]at hm
    obtain⟨o,u,h1,h2⟩:=h
    exact⟨o,u,by simp only[Env.del,hm]; exact h1,h2⟩
  | .fn f fi ca,cs,hm,h=>by
    simp only[V.repC]at h⊢
    simp only[V.men,Bool.or_eq_false_iff]at hm
    obtain⟨fs,gs,e,h1,h2⟩:=h
    exact⟨fs,gs,e,V.reps_del fi fs hm.1 h1,V.reps_del ca gs hm.2 h2⟩
  | .agg xs,cs,hm,h=>by
    simp only[V.repC]at h⊢
    simp only[V.men]at hm
    exact V.repCs_del xs cs hm h
  | .iface ty x,cs,hm,h=>by
    simp only[V.repC]at h⊢
    simp only[V.men]at hm
    obtain⟨u,e,h1⟩:=h
    refine⟨u,e,?_⟩
    rcases h1 with h1 | ⟨p,ds,q,r⟩ | ⟨p,r⟩
    · exact .inl h1
    · exact .inr (.inl ⟨p,ds,q,V.repC_del x ds hm r⟩)
    · exact .inr (.inr ⟨p,V.repC_del x _ hm r⟩)
  | .tup xs,cs,hm,h=>by
    simp only[V.repC]at h⊢
    simp only[V.men]at hm
    obtain⟨vs,e,h1⟩:=h
    exact⟨vs,e,V.reps_del xs vs hm h1⟩
  | .undef,cs,_,h=>by simpa only[V.repC]using h
  | .any,cs,_,h=>by simpa only[V.repC]using h
theorem V.repCs_del {w:World}{ρ:Env}{ids:Nat->Bool}:∀(xs:List V) (cs:List Value),V.mens ids xs=false->V.repCs w ρ xs cs->V.repCs w (ρ.del ids) xs cs
  | [],cs,_,h=>by simpa only[V.repCs]using h
  | x::r,cs,hm,h=>by
    simp only[V.repCs]at h⊢
    simp only[V.mens,Bool.or_eq_false_iff]at hm
    obtain⟨c1,c2,e,h1,h2⟩:=h
    exact⟨c1,c2,e,V.repC_del x c1 hm.1 h1,V.repCs_del r c2 hm.2 h2⟩
theorem V.reps_del {w:World}{ρ:Env}{ids:Nat->Bool}:∀(xs:List V) (vs:List Value),V.mens ids xs=false->V.reps w ρ xs vs->V.reps w (ρ.del ids) xs vs
  | [],vs,_,h=>by simpa only[V.reps]using h
  | x::r,vs,hm,h=>by
    simp only[V.reps]at h⊢
    simp only[V.mens,Bool.or_eq_false_iff]at hm
    obtain⟨u,us,e,h1,h2⟩:=h
    refine⟨u,us,e,?_,V.reps_del r us hm.2 h2⟩
    rcases h1 with h1 | ⟨p,ds,q,r⟩ | ⟨p,r⟩
    · exact .inl h1
    · exact .inr (.inl ⟨p,ds,q,V.repC_del x ds hm.1 r⟩)
    · exact .inr (.inr ⟨p,V.repC_del x _ hm.1 r⟩)
end

theorem V.rep_del {w:World}{ρ:Env}{ids:Nat->Bool}{x:V}{u:Value}(hm:V.men ids x=false)(h:x.rep w ρ u):x.rep w (ρ.del ids) u:=by
  rcases h with h1 | ⟨p,ds,q,r⟩ | ⟨p,r⟩
  · exact .inl h1
  · exact .inr (.inl ⟨p,ds,q,V.repC_del x ds hm r⟩)
  · exact .inr (.inr ⟨p,V.repC_del x _ hm r⟩)

theorem X3.del {w:World}{ρ:Env}{ids:Nat->Bool}:∀(l:List (D×V)) (es:List MapEntry),Qj ids l=false->X3 w ρ l es->X3 w (ρ.del ids) l es
  | [],es,_,h=>h
  | (k,v)::r,es,hm,h=>by
    simp only[Qj,Bool.or_eq_false_iff]at hm
    obtain⟨e,es',h1,h2,h3,h4⟩:=h
    exact⟨e,es',h1,h2,V.rep_del hm.1 h3,X3.del r es' hm.2 h4⟩

theorem Vj {ids:Nat->Bool}:∀(ob:Xa) (j:Nat),Xe (Y4 ids ob) j=if ids j then none else Xe ob j
  | [],j=>by simp[Y4,Xe]
  | (k,x)::r,j=>by
    simp only[Y4]
    split
    · rename_i h
      rw[Vj r j]
      simp only[Xe]
      by_cases e:k=j
      · subst e; rw[if_pos h,if_pos h]
      · simp[e]
    · rename_i h
      simp only[Xe,Vj r j]
      by_cases e:k=j
      · subst e; rw[if_pos rfl,if_neg h,if_pos rfl]
      · simp[e]

theorem Xkn.drop {ids:Nat->Bool}:∀{ob:Xa},Xkn ob->Xkn (Y4 ids ob)
  | [],h=>h
  | (k,x)::r,h=>by
    simp only[Y4]
    split
    · exact Xkn.drop h.2
    · refine⟨?_,Xkn.drop h.2⟩
      rw[Vj,h.1]; split<;>rfl

theorem Ys {ids:Nat->Bool}:∀(ob:Xa) (j E:Nat) (t:V),Xh ids ob=true->Xe ob j=some (.box E t)->V.men ids t=false
  | [],j,E,t,_,h=>by simp[Xe]at h
  | (k,x)::r,j,E,t,hm,h=>by
    simp only[Xe]at h
    split at h
    · simp at h; subst h
      simp only[Xh,Bool.and_eq_true]at hm
      simpa using hm.1
    · cases x with
      | box _ y=>simp only[Xh,Bool.and_eq_true]at hm; exact Ys r j E t hm.2 h
      | vec _ _ y=>simp only[Xh,Bool.and_eq_true]at hm; exact Ys r j E t hm.2 h
      | map y=>simp only[Xh,Bool.and_eq_true]at hm; exact Ys r j E t hm.2 h
      | arr _ z xs=>simp only[Xh]at hm; exact Ys r j E t hm h
      | gone=>simp only[Xh]at hm; exact Ys r j E t hm h
      | lp _ _ _=>simp only[Xh,Bool.and_eq_true]at hm; exact Ys r j E t hm.2 h
      | it m _ _=>simp only[Xh,Bool.and_eq_true]at hm; exact Ys r j E t hm.2 h
theorem Za {ids:Nat->Bool}:∀(ob:Xa) (j E sz:Nat) (t:List V),Xh ids ob=true->Xe ob j=some (.vec E sz t)->V.mens ids t=false
  | [],j,E,sz,t,_,h=>by simp[Xe]at h
  | (k,x)::r,j,E,sz,t,hm,h=>by
    simp only[Xe]at h
    split at h
    · simp at h; subst h
      simp only[Xh,Bool.and_eq_true]at hm
      simpa using hm.1
    · cases x with
      | box _ y=>simp only[Xh,Bool.and_eq_true]at hm; exact Za r j E sz t hm.2 h
      | vec _ _ y=>simp only[Xh,Bool.and_eq_true]at hm; exact Za r j E sz t hm.2 h
      | map y=>simp only[Xh,Bool.and_eq_true]at hm; exact Za r j E sz t hm.2 h
      | arr _ z xs=>simp only[Xh]at hm; exact Za r j E sz t hm h
      | gone=>simp only[Xh]at hm; exact Za r j E sz t hm h
      | lp _ _ _=>simp only[Xh,Bool.and_eq_true]at hm; exact Za r j E sz t hm.2 h
      | it m _ _=>simp only[Xh,Bool.and_eq_true]at hm; exact Za r j E sz t hm.2 h
theorem Y9 {ids:Nat->Bool}:∀(ob:Xa) (j:Nat) (t:List (D×V)),Xh ids ob=true->Xe ob j=some (.map t)->Qj ids t=false
  | [],j,t,_,h=>by simp[Xe]at h
  | (k,x)::r,j,t,hm,h=>by
    simp only[Xe]at h
    split at h
    · simp at h; subst h
      simp only[Xh,Bool.and_eq_true]at hm
      simpa using hm.1
    · cases x with
      | box _ y=>simp only[Xh,Bool.and_eq_true]at hm; exact Y9 r j t hm.2 h
      | vec _ _ y=>simp only[Xh,Bool.and_eq_true]at hm; exact Y9 r j t hm.2 h
      | map y=>simp only[Xh,Bool.and_eq_true]at hm; exact Y9 r j t hm.2 h
      | arr _ z xs=>simp only[Xh]at hm; exact Y9 r j t hm h
      | gone=>simp only[Xh]at hm; exact Y9 r j t hm h
      | lp _ _ _=>simp only[Xh,Bool.and_eq_true]at hm; exact Y9 r j t hm.2 h
      | it m _ _=>simp only[Xh,Bool.and_eq_true]at hm; exact Y9 r j t hm.2 h

theorem Xje {ids:Nat->Bool}:∀(ob:Xa) (j tag:Nat) (st:LSt) (t:Xf),Xh ids ob=true->Xe ob j=some (.lp tag st t)->Wg ids t=true
  | [],j,tag,st,t,_,h=>by simp[Xe]at h
  | (k,x)::r,j,tag,st,t,hm,h=>by
    simp only[Xe]at h
    split at h
    · simp at h; subst h
      simp only[Xh,Bool.and_eq_true]at hm
      simpa using hm.1
    · refine Xje r j tag st t ?_ h
      cases x with
      | box _ y=>simp only[Xh,Bool.and_eq_true]at hm; exact hm.2
      | vec _ _ y=>simp only[Xh,Bool.and_eq_true]at hm; exact hm.2
      | map y=>simp only[Xh,Bool.and_eq_true]at hm; exact hm.2
      | arr _ z xs=>simp only[Xh]at hm; exact hm
      | gone=>simp only[Xh]at hm; exact hm
      | lp _ _ _=>simp only[Xh,Bool.and_eq_true]at hm; exact hm.2
      | it m _ _=>simp only[Xh,Bool.and_eq_true]at hm; exact hm.2
theorem Xjd {ids:Nat->Bool}:∀(ob:Xa) (j i n:Nat) (t:List Nat),Xh ids ob=true->Xe ob j=some (.it (some i) n t)->ids i=false
  | [],j,i,n,t,_,h=>by simp[Xe]at h
  | (k,x)::r,j,i,n,t,hm,h=>by
    simp only[Xe]at h
    split at h
    · simp at h; subst h
      simp only[Xh,Bool.and_eq_true]at hm
      simpa[Jj]using hm.1
    · refine Xjd r j i n t ?_ h
      cases x with
      | box _ y=>simp only[Xh,Bool.and_eq_true]at hm; exact hm.2
      | vec _ _ y=>simp only[Xh,Bool.and_eq_true]at hm; exact hm.2
      | map y=>simp only[Xh,Bool.and_eq_true]at hm; exact hm.2
      | arr _ z xs=>simp only[Xh]at hm; exact hm
      | gone=>simp only[Xh]at hm; exact hm
      | lp _ _ _=>simp only[Xh,Bool.and_eq_true]at hm; exact hm.2
      | it m _ _=>simp only[Xh,Bool.and_eq_true]at hm; exact hm.2
theorem Xae {ids:Nat->Bool}:∀(sl:Xf),Wg ids sl=true->∀p∈sl,V.men ids p.2=false
  | [],_,p,h=>by cases h
  | (j,v)::r,hm,p,h=>by
    simp only[Wg,Bool.and_eq_true,Bool.not_eq_true']at hm
    rcases List.mem_cons.1 h with rfl | h
    · exact hm.1
    · exact Xae r hm.2 p h
theorem Xcq {ids:Nat->Bool}:∀(sl:Xf) (k:Nat),Wg ids sl=true->V.men ids (look sl k)=false
  | [],k,_=>by simp[look,V.men]
  | (j,v)::r,k,hm=>by
    simp only[Wg,Bool.and_eq_true]at hm
    simp only[look]
    split
    · simpa using hm.1
    · exact Xcq r k hm.2

theorem OM.del {w:World}{ρ:Env}{ob:Xa}{ids:Nat->Bool}(h:OM w ρ ob)(hm:Xh ids (Y4 ids ob)=true):OM w (ρ.del ids) (Y4 ids ob):=by
  refine⟨fun j x hx=>?_,fun j o hj=>?_,fun i j o p b h1 h2 h3 h4=>?_,h.xlt,fun b o hb=>⟨(h.glb b o hb).1,(Xe7 w ρ ids b (h.glb b o hb).2 (Xj (h.glb b o hb).1)).2⟩,fun b hb=>h.xdis b (Z1 hb),Xkn.drop h.once⟩
  · have hx0:=hx
    rw[Vj]at hx
    split at hx
    · cases hx
    · rename_i hn
      have h1:=h.one j x hx
      cases x with
      | box E t=>
        obtain⟨b,cs,g1,g2,g3⟩:=h1
        exact⟨b,cs,by simp only[Env.del,hn]; exact g1,g2,V.repC_del t cs (Ys _ j E t hm hx0) g3⟩
      | gone=>exact (by simp only[Env.del,hn]; exact h1:(ρ.del ids).m j=some .gone)
      | arr E sz xs=>
        rcases h1 with⟨g1,g2⟩ | ⟨b,cap,cs,sp,g1,g2,g3,g4⟩
        · exact .inl ⟨by simp only[Env.del,hn]; exact g1,g2⟩
        · exact .inr ⟨b,cap,cs,sp,by simp only[Env.del,hn]; exact g1,g2,D.repL_mono (Xe7 w ρ ids) _ _ g3,g4⟩
      | vec E sz xs=>
        rcases h1 with⟨g1,g2⟩ | ⟨b,cap,cs,sp,g1,g2,g3,g4⟩
        · exact .inl ⟨by simp only[Env.del,hn]; exact g1,g2⟩
        · exact .inr ⟨b,cap,cs,sp,by simp only[Env.del,hn]; exact g1,g2,V.repCs_del xs cs (Za _ j E sz xs hm hx0) g3,g4⟩
      | map es=>
        obtain⟨b,l,clk,g1,g2,g3,g4⟩:=h1
        exact⟨b,l,clk,by simp only[Env.del,hn]; exact g1,g2,X3.del es l (Y9 _ j es hm hx0) g3,g4⟩
      | lp tag st t=>
        obtain⟨b,fn,tm,dd,ps,ca,cb,g1,g2,g3,g4⟩:=h1
        exact⟨b,fn,tm,dd,ps,ca,cb,by simp only[Env.del,hn]; exact g1,g2,g3,fun p hp=>V.rep_del (Xae t (Xje _ j tag st t hm hx0) p hp) (g4 p hp)⟩
      | it m n t=>
        cases m with
        | none=>obtain⟨b,g1,g2⟩:=h1; exact⟨b,by simp only[Env.del,hn]; exact g1,g2⟩
        | some i=>
          obtain⟨b,mb,g1,g2,g3⟩:=h1
          have hi:=Xjd _ j i n t hm hx0
          exact⟨b,mb,by simp only[Env.del,hn]; exact g1,by simp only[Env.del,hi]; exact g2,g3⟩
  · simp only[Env.del]at hj
    rw[Vj]
    split at hj
    · cases hj
    · rename_i hn
      rw[if_neg hn]
      exact h.dom j o hj
  · simp only[Env.del]at h1 h2
    split at h1
    · cases h1
    · split at h2
      · cases h2
      · exact h.inj i j o p b h1 h2 h3 h4

section
variable {w:World} {ρ:Env}
mutual
theorem V.men_dom {ids:Nat->Bool}(hd:∀id o,ρ.m id=some o->ids id=false):∀(v:V) (cs:List Value),v.repC w ρ cs->V.men ids v=false
  | .d _,_,_=>rfl
  | .ptr id p,cs,h=>by
    simp only[V.repC]at h
    simp only[V.men]
    rcases h with⟨_,_,h,_⟩ | ⟨h,_⟩<;>exact hd _ _ h
  | .sl id n,cs,h=>by simp only[V.repC]at h; obtain⟨_,_,h,_⟩:=h; exact hd _ _ h
  | .sd id n,cs,h=>by simp only[V.repC]at h; obtain⟨_,_,h,_⟩:=h; exact hd _ _ h
  | .mp id,cs,h=>by
    simp only[V.repC]at h
    simp only[V.men]
    rcases h with⟨_,h,_⟩ | ⟨h,_⟩<;>exact hd _ _ h
  | .hd y id,cs,h=>by
    simp only[V.repC]at h
    simp only[V.men]
    rcases h with⟨_,h,_⟩ | ⟨h,_⟩<;>exact hd _ _ h
  | .bs id p lo n,cs,h=>by
    simp only[V.repC]at h
    simp only[V.men]
    rcases h with⟨_,_,_,_,h,_⟩ | ⟨h,_⟩<;>exact hd _ _ h
  | .ep id n z i f p,cs,h=>by simp only[V.repC]at h; obtain⟨_,_,h,_⟩:=h; exact hd _ _ h
  | .fn f fi ca,cs,h=>by
    simp only[V.repC]at h
    obtain⟨fs,gs,_,h1,h2⟩:=h
    simp only[V.men,V.mens_dom hd fi fs h1,V.mens_dom hd ca gs h2,Bool.or_self]
  | .agg xs,cs,h=>by simp only[V.repC]at h; simp only[V.men]; exact V.menCs_dom hd xs cs h
  | .iface t x,cs,h=>by
    simp only[V.repC]at h
    obtain⟨u,_,h⟩:=h
    simp only[V.men]
    rcases h with h | ⟨_,ds,_,h⟩ | ⟨_,h⟩
    · subst h; rfl
    · exact V.men_dom hd x ds h
    · exact V.men_dom hd x _ h
  | .tup xs,cs,h=>by simp only[V.repC]at h; obtain⟨vs,_,h⟩:=h; simp only[V.men]; exact V.mens_dom hd xs vs h
  | .undef,_,_=>rfl
  | .any,_,_=>rfl
theorem V.menCs_dom {ids:Nat->Bool}(hd:∀id o,ρ.m id=some o->ids id=false):∀(xs:List V) (cs:List Value),V.repCs w ρ xs cs->V.mens ids xs=false
  | [],_,_=>rfl
  | x::r,cs,h=>by
    simp only[V.repCs]at h
    obtain⟨c1,c2,_,h1,h2⟩:=h
    simp only[V.mens,V.men_dom hd x c1 h1,V.menCs_dom hd r c2 h2,Bool.or_self]
theorem V.mens_dom {ids:Nat->Bool}(hd:∀id o,ρ.m id=some o->ids id=false):∀(xs:List V) (vs:List Value),V.reps w ρ xs vs->V.mens ids xs=false
  | [],_,_=>rfl
  | x::r,vs,h=>by
    simp only[V.reps]at h
    obtain⟨u,us,_,h1,h2⟩:=h
    have:V.men ids x=false:=by
      rcases h1 with h | ⟨_,ds,_,h⟩ | ⟨_,h⟩
      · subst h; rfl
      · exact V.men_dom hd x ds h
      · exact V.men_dom hd x _ h
    simp only[V.mens,this,V.mens_dom hd r us h2,Bool.or_self]
end
theorem V.men_temp {ids:Nat->Bool}(hd:∀id o,ρ.m id=some o->ids id=false){v:V}{u:Value}(h:v.rep w ρ u):V.men ids v=false:=by
  rcases h with h | ⟨_,ds,_,h⟩ | ⟨_,h⟩
  · subst h; rfl
  · exact V.men_dom hd v ds h
  · exact V.men_dom hd v _ h
end

theorem Mod.sub {c:Ctx}{xo:Nat->Prop}{ρ:Env}{sl:Xf}{ob:Xa}{a:Act}{w:World}{keep:List Nat}{drp:Nat->Bool}(m:Mod c xo ρ sl ob a w)(hd:∀id o,c.m0 id=some o->drp id=false)(hv:∀p∈c.ev,V.men drp p.1=false)
    (h1:Wg drp (Xk sl keep)=true) (h2:Xh drp (Y4 drp ob)=true):Mod c xo (ρ.del drp) (Xk sl keep) (Y4 drp ob) a w:=
  ⟨⟨m.base.size,m.base.keep,fun b hb=>m.base.owns b (Z1 hb),m.base.tape,m.base.os,m.base.out,fun id o h=>(m.base.same id o h).elim fun o' q=>⟨o',by simp only[Env.del,hd id o h]; exact q.1,q.2⟩,fun p hp=>V.rep_del (hv p hp) (m.base.ext p hp),m.base.drawn⟩,m.om.del h2,fun k=>V.rep_del (Xcq _ k h1) (m.sm.keep keep k),m.size,m.df.del fun _=>Z1,m.xo,m.gl⟩

def Xbt (c:Ctx)(xo:Nat->Prop)(pk:List Nat)(Q:Yx)(ch:List PanicEntry)(a:Act)(w:World):Prop:=
  ∃v sl ob ρ u,Q (.panic v) (Xk sl pk) ob/\ch=[{ v:=u,recovered:=false }]/\v.rep w ρ u/\Mod c xo ρ (Xk sl pk) ob a w

theorem Xi6 (sl:Xf):∀(pk:List Nat) (k:Nat),k∉pk->look (Xk sl pk) k=.any
  | [],k,_=>by simp[Xk,look]
  | j::r,k,h=>by
    simp only[Xk,look]
    have:j ≠ k:=fun e=>h (by simp[e])
    rw[if_neg this]
    exact Xi6 sl r k (fun h'=>h (by simp[h']))

theorem Xjp {c:Ctx}{xo:Nat->Prop}{pk:List Nat}{Q:Yx}{ch:List PanicEntry}{a:Act}{w:World}{d:Option Nat}{v:Value}(hd:∀k,d=some k->k∉pk)(h:Xbt c xo pk Q ch (a.put d v) w):Xbt c xo pk Q ch a w:=by
  obtain⟨x,sl,ob,ρ,u,h1,h2,h3,m⟩:=h
  refine⟨x,sl,ob,ρ,u,h1,h2,h3,m.base,m.om,fun k=>?_,?_,?_,m.xo,m.gl⟩
  · by_cases hk:k∈pk
    · have:=m.sm k
      cases d with
      | none=>exact this
      | some j=>
        have hne:j ≠ k:=fun e=>hd j rfl (e▸hk)
        simpa[Act.put,Array.getElem?_setIfInBounds,hne]using this
    · rw[Xi6 sl pk k hk]; exact Qp
  · have:=m.size
    cases d<;>simpa[Act.put]using this
  · have:=m.df
    cases d<;>simpa only[Act.put]using this

def FB (B:Nat->Prop)(u v:World):Prop:=∀b,B b->v.heap[b]? = u.heap[b]?
def X0s (B:Nat->Prop)(w:World)(ρ:Env):Prop:=∀b,B b->b<w.heap.size/\¬own ρ b
theorem X0s.tr {B:Nat->Prop}{w w':World}{ρ ρ':Env}(h:X0s B w ρ)(t:Tr w ρ w' ρ'):X0s B w' ρ':=fun b hb=>by
  obtain⟨h1,h2⟩:=h b hb
  refine⟨Nat.lt_of_lt_of_le h1 t.size,?_⟩
  rintro (h3 | h3)
  · rcases t.owns b h3 with h4 | h4
    · exact h2 (.inl h4)
    · omega
  · exact h2 (.inr (t.xo▸h3))
theorem X0s.fb {B:Nat->Prop}{w w':World}{ρ ρ':Env}(h:X0s B w ρ)(t:Tr w ρ w' ρ'):FB B w w':=fun b hb=>t.keep b (fun h3=>(h b hb).2 (.inl h3)) (h b hb).1
theorem FB.refl (B:Nat->Prop)(w:World):FB B w w:=fun _ _=>rfl
theorem FB.trans {B:Nat->Prop}{u v w:World}(h:FB B u v)(h':FB B v w):FB B u w:=fun b hb=>(h' b hb).trans (h b hb)
def RJ (kd:Nat->Nat)(B:Nat->Prop)(j:Nat)(u v:World):Prop:=(kd j ≠ 3->Ext u v)/\FB B u v
theorem Yj {P:Prg}{c:Ctx}(hg:P.g=c.g){xo:Nat->Prop}{ops:Array Oper}{Q:Exit->Act->World->Prop}{QP:Yx}{pk:List Nat}{K:Xf->Xa->Prop}{kd:Nat->Nat}
    (hsel:Region.noSelect ops=true) (hpk:Xbj pk ops=true)
    (hK:∀sl ob ρ a w,K sl ob->Mod c xo ρ sl ob a w->Q .normal a w)
    (hQ:∀ch a w,Q (.panic ch) a w↔Xbt c xo pk QP ch a w) :
    ∀(ord:List Nat) (its:List It) (B:Nat->Prop) (listed:Array Bool) (sl:Xf) (ob:Xa) (ρ:Env) (a:Act) (w:World),X0s B w ρ->Xkt P.p c.N ops kd listed ord its=true->Xao .any ops listed->
      rwp P K (fun v sl ob=>QP (.panic v) (Xk sl pk) ob) its sl ob->Mod c xo ρ sl ob a w->Z8 P.p .any ops Q (RJ kd B) ord.length listed a w
  | [],[],B,listed,sl,ob,ρ,a,w,hB,hc,_,h,m=>by
    simp only[Xkt]at hc
    simp only[List.length_nil,Z8]
    exact⟨by simpa using hc,hK sl ob ρ a w h m⟩
  | i::r,x::s,B,listed,sl,ob,ρ,a,w,hB,hc,hcl,h,m=>by
    simp only[Xkt,Bool.and_eq_true]at hc
    obtain⟨⟨⟨⟨hr,hx⟩,hkd⟩,hkind⟩,hrest⟩:=hc
    have hr':i∈Region.ready .any ops listed:=by simpa using hr
    cases ho:ops[i]? with
    | none=>simp[ho]at hx
    | some o=>
      simp only[ho]at hx
      have hkd':x.kind=kd i:=by simpa using hkd
      have hpko:∀k,o.dst=some k->k∉pk:=by
        intro k hk
        have:=List.all_eq_true.1 hpk o (by simpa using Array.mem_of_getElem? ho)
        simpa[hk]using this
      have hQo:∀v:Value,∀ch a w,Q (.panic ch) (a.put o.dst v) w->Q (.panic ch) a w:=fun v ch a w hq=>(hQ ch a w).2 (Xjp hpko ((hQ ch _ w).1 hq))
      have hcl':=hcl.step hr'
      simp only[List.length_cons]
      -- the operation's state and text,whichever way its guard goes
      have hd:∃(d:Option Nat) (y:I),J9 c.N o.dst d=true/\y.chk P.p o.op=true/\x.kind=y.kind/\
          ((Region.wanted o (yielded ops a.tmps)=true/\∃sl',SM w ρ sl' a/\y.wp P sl' ob (fun v ob'=>rwp P K (fun v sl ob=>QP (.panic v) (Xk sl pk) ob) s (put sl' d v) ob') (fun v ob'=>QP (.panic v) (Xk sl' pk) ob'))\/
           (Region.wanted o (yielded ops a.tmps)=false/\∃sl',SM w ρ sl' a/\rwp P K (fun v sl ob=>QP (.panic v) (Xk sl pk) ob) s (put sl' d .undef) ob)):=by
        cases x with
        | op d y=>
          simp only[It.chk,Bool.and_eq_true,Option.isNone_iff_eq_none]at hx
          simp only[rwp]at h
          exact⟨d,y,hx.1.1,hx.2,rfl,.inl ⟨by simp[Region.wanted,hx.1.2],sl,m.sm,h⟩⟩
        | gop g want d y=>
          simp only[It.chk,Bool.and_eq_true]at hx
          simp only[rwp]at h
          exact⟨d,y,hx.1.1,hx.2,rfl,Zt (ops:=ops) m.sm hx.1.2 h⟩
      obtain⟨d,y,hdst,hy,hky,hways⟩:=hd
      -- an operation that may be taken first
      have first:∀l:Bool,(∀cc,y=.c cc->cc.isLd=l)->(∃cc,y=.c cc)->Region.free .any ops listed i=true->
          (l=true->∀j,j<ops.size->kd j=3->j ≠ i->∃fuel,W1 .any ops i fuel j=true)->kd i ≠ 3->Z8 P.p .any ops Q (RJ kd B) (r.length+1) listed a w:=by
        intro l hld hcc hfree hwt hk3
        have hwt':l=true->∀j,j<ops.size->j ≠ i->(∃fuel,W1 .any ops i fuel j=true)\/∀u v,RJ kd B j u v->Ext u v:=fun h1 j h2 h3=>by
          by_cases h4:kd j=3
          · exact .inl (hwt h1 j h2 h4 h3)
          · exact .inr fun u v h5=>h5.1 h4
        have hself:∀w,RJ kd B i w w:=fun w=>⟨fun _=>Ext.refl w,FB.refl B w⟩
        obtain⟨cc,rfl⟩:=hcc
        have hld:=hld cc rfl
        rcases hways with⟨hw,sl',hs,hwp⟩ | ⟨hw,sl',hs,hwp⟩
        · simp only[I.wp]at hwp
          obtain⟨v,z,hk,hrep,hrun⟩:=C.sound hs m.om hy hwp
          obtain⟨g1,g2,g3⟩:=Xn hdst m.size hs hrep
          refine Yi (S:=Ext) (l:=l) Ext.refl (fun _ _ _=>Ext.trans) ho (Region.noSelect_spec hsel) (hQo v) hwt' hself _ listed a w hcl (Region.free_spec ho hfree) hr' (.inl ⟨hw,fun w' hw'=>hrun o rfl w' (fun e=>hw' (by rw[<-hld]; exact e))⟩) ?_
          exact Yj hg hsel hpk hK hQ r s B _ _ ob ρ _ w hB hrest hcl' hk ⟨m.base,m.om,g1,g2,m.df.put g3,m.xo,m.gl⟩
        · obtain⟨g1,g2,g3⟩:=Xn hdst m.size hs (Yu.2 rfl)
          refine Yi (S:=Ext) (l:=l) Ext.refl (fun _ _ _=>Ext.trans) ho (Region.noSelect_spec hsel) (hQo undef) hwt' hself _ listed a w hcl (Region.free_spec ho hfree) hr' (.inr ⟨hw,rfl⟩) ?_
          exact Yj hg hsel hpk hK hQ r s B _ _ ob ρ _ w hB hrest hcl' hwp ⟨m.base,m.om,g1,g2,m.df.put g3,m.xo,m.gl⟩
      -- the only one that may come up
      have alone:Region.ready .any ops listed=[i]->(y.kind=2\/y.kind=3\/y.kind=4)->Z8 P.p .any ops Q (RJ kd B) (r.length+1) listed a w:=by
        intro hra hk23
        refine⟨fun h0=>(by rw[hra]at h0; cases h0),fun j hj=>?_⟩
        rw[hra]at hj
        simp at hj; subst hj
        unfold Qt
        simp only[ho]
        rcases hways with⟨hw,sl',hs,hwp⟩ | ⟨hw,sl',hs,hwp⟩
        · rw[if_pos hw]
          rcases hk23 with hk2 | hk3 | hk4
          · refine I.soundE (m.gl.trans hg.symm) hs m.om hk2 hy hwp o rfl _ _ (fun v z w' hk hrep he=>⟨⟨fun _=>he,hB.fb he.tr⟩,?_⟩)
            obtain⟨g1,g2,g3⟩:=Xn hdst m.size (hs.tr he.tr) hrep
            exact Yj hg hsel hpk hK hQ r s B _ _ ob ρ _ w' (hB.tr he.tr) hrest hcl' hk ⟨m.base.tr he.tr,m.om.ext he,g1,g2,(m.df.tr he.tr).put g3,m.xo,m.gl⟩
          · refine I.sound (m.gl.trans hg.symm) hs m.om hy hwp o rfl _ _ (fun v z ob' w' ρ' hk hrep ho' t=>⟨⟨fun hf=>?_,hB.fb t⟩,?_⟩) (fun u z ob' w' ρ' hk hrep ho' t=>?_)
            · exact absurd (by rw[<-hkd',hky,hk3]) hf
            · obtain⟨g1,g2,g3⟩:=Xn hdst m.size (hs.tr t) hrep
              exact Yj hg hsel hpk hK hQ r s B _ _ ob' ρ' _ w' (hB.tr t) hrest hcl' hk ⟨m.base.tr t,ho',g1,g2,(m.df.tr t).put g3,t.xo.trans m.xo,t.gl.trans m.gl⟩
            · exact (hQ _ _ _).2 ⟨z,sl',ob',ρ',u,hk,rfl,hrep,m.base.tr t,ho',(hs.tr t).keep pk,m.size,m.df.tr t,t.xo.trans m.xo,t.gl.trans m.gl⟩
          · refine I.soundX (m.gl.trans hg.symm) hs m.om hk4 hy hwp o rfl _ _ (fun v z ob' w' ρ' hk hrep ho' t he=>⟨⟨fun _=>he,hB.fb t⟩,?_⟩)
            obtain⟨g1,g2,g3⟩:=Xn hdst m.size (hs.tr t) hrep
            exact Yj hg hsel hpk hK hQ r s B _ _ ob' ρ' _ w' (hB.tr t) hrest hcl' hk ⟨m.base.tr t,ho',g1,g2,(m.df.tr t).put g3,t.xo.trans m.xo,t.gl.trans m.gl⟩
        · rw[hw]
          simp only[Bool.false_eq_true,if_false]
          refine⟨⟨fun _=>Ext.refl w,FB.refl B w⟩,?_⟩
          obtain⟨g1,g2,g3⟩:=Xn hdst m.size hs (Yu.2 rfl)
          exact Yj hg hsel hpk hK hQ r s B _ _ ob ρ _ w hB hrest hcl' hwp ⟨m.base,m.om,g1,g2,m.df.put g3,m.xo,m.gl⟩
      have hkl:y.kind=0\/y.kind=1\/y.kind=2\/y.kind=3\/y.kind=4\/y.kind=5:=by
        cases y with
        | c cc=>simp only[I.kind]; (repeat' split)<;>simp
        | _=>simp[I.kind]
      have hcc:∀n,(n=0\/n=1)->y.kind=n->(∃cc,y=.c cc)/\∀cc,y=.c cc->cc.isLd=(n==1):=by
        intro n hn hyn
        cases y with
        | c cc=>
          refine⟨⟨cc,rfl⟩,fun c' e=>?_⟩
          cases e
          simp only[I.kind]at hyn
          cases hd:cc.isLdd
          · cases hl:cc.isLd<;>simp[hl,hd]at hyn<;>subst hyn<;>rfl
          · simp[hd]at hyn; subst hyn; simp at hn
        | _=>simp[I.kind]at hyn; subst hyn; simp at hn
      rcases hkl with h0 | h1 | h2 | h3 | h4 | h5
      · rw[hky,h0]at hkind
        obtain⟨c1,c2⟩:=hcc 0 (.inl rfl) h0
        exact first false (fun cc e=>by simpa using c2 cc e) c1 hkind (by simp) (by rw[<-hkd',hky,h0]; decide)
      · rw[hky,h1]at hkind
        simp only[Bool.and_eq_true]at hkind
        obtain⟨c1,c2⟩:=hcc 1 (.inr rfl) h1
        refine first true (fun cc e=>by simpa using c2 cc e) c1 hkind.1 (fun _ j hj hk3 hne=>?_) (by rw[<-hkd',hky,h1]; decide)
        have:=List.all_eq_true.1 hkind.2 j (by simpa using hj)
        have hk3':kd j=3:=hk3
        have hw:W1 .any ops i 1 j=true\/W1 .any ops i ops.size j=true:=by simpa[hk3',hne]using this
        exact hw.elim (fun h=>⟨_,h⟩) (fun h=>⟨_,h⟩)
      · rw[hky,h2]at hkind
        exact alone (by simpa using hkind) (.inl h2)
      · rw[hky,h3]at hkind
        exact alone (by simpa using hkind) (.inr (.inl h3))
      · rw[hky,h4]at hkind
        exact alone (by simpa using hkind) (.inr (.inr h4))
      · rw[hky,h5]at hkind
        obtain⟨cc,rfl,hld⟩:∃cc,y=.c cc/\cc.isLdd=true:=by
          cases y with
          | c cc=>
            simp only[I.kind]at h5
            cases hd:cc.isLdd
            · cases hl:cc.isLd<;>simp[hl,hd]at h5
            · exact⟨cc,rfl,hd⟩
          | _=>simp[I.kind]at h5
        let B':Nat->Prop:=fun b=>b<w.heap.size/\¬own ρ b
        have hB':X0s B' w ρ:=fun b hb=>hb
        have hself:∀w,RJ kd B' i w w:=fun w=>⟨fun _=>Ext.refl w,FB.refl B' w⟩
        have hwt:true=true->∀j,j<ops.size->j ≠ i->(∃fuel,W1 .any ops i fuel j=true)\/∀u v,RJ kd B' j u v->FB B' u v:=fun _ j _ _=>.inr fun u v h=>h.2
        refine Qs (R:=RJ kd B') (fun j u v h=>⟨h.1,fun b hb=>h.2 b (hB b hb)⟩) _ _ _ _ ?_
        rcases hways with⟨hw,sl',hs,hwp⟩ | ⟨hw,sl',hs,hwp⟩
        · simp only[I.wp]at hwp
          obtain⟨v,z,hk,hrep,hrun⟩:=C.soundD hs m.om hld hy hwp
          obtain⟨g1,g2,g3⟩:=Xn hdst m.size hs hrep
          refine Yi (S:=FB B') (l:=true) (FB.refl B') (fun _ _ _=>FB.trans) ho (Region.noSelect_spec hsel) (hQo v) hwt hself _ listed a w hcl (Region.free_spec ho hkind) hr' (.inl ⟨hw,fun w' hw'=>hrun o rfl w' (fun b h1 h2=>hw' rfl b ⟨h1,h2⟩)⟩) ?_
          exact Yj hg hsel hpk hK hQ r s B' _ _ ob ρ _ w hB' hrest hcl' hk ⟨m.base,m.om,g1,g2,m.df.put g3,m.xo,m.gl⟩
        · obtain⟨g1,g2,g3⟩:=Xn hdst m.size hs (Yu.2 rfl)
          refine Yi (S:=FB B') (l:=true) (FB.refl B') (fun _ _ _=>FB.trans) ho (Region.noSelect_spec hsel) (hQo undef) hwt hself _ listed a w hcl (Region.free_spec ho hkind) hr' (.inr ⟨hw,rfl⟩) ?_
          exact Yj hg hsel hpk hK hQ r s B' _ _ ob ρ _ w hB' hrest hcl' hwp ⟨m.base,m.om,g1,g2,m.df.put g3,m.xo,m.gl⟩
  | [],_::_,_,_,_,_,_,_,_,_,hc,_,_,_=>by simp[Xkt]at hc
  | _::_,[],_,_,_,_,_,_,_,_,hc,_,_,_=>by simp[Xkt]at hc

theorem Xp7 {P:Prg}{c:Ctx}(hg:P.g=c.g){xo:Nat->Prop}{ops:Array Oper}{Q:Exit->Act->World->Prop}{QP:Yx}{pk:List Nat}{next:Xf->Xa->Prop}{i:Nat}{o:Oper}{x:It}{sl:Xf}{ob:Xa}{ρ:Env}{a:Act}{w:World}{N:Act->World->Prop}
    (hQ:∀ch a w,Q (.panic ch) a w↔Xbt c xo pk QP ch a w) (ho:ops[i]? = some o) (hx:x.chk P.p c.N ops o=true) (h:itK P next (fun v sl ob=>QP (.panic v) (Xk sl pk) ob) x sl ob) (m:Mod c xo ρ sl ob a w)
    (hN:∀sl' ob' ρ' a' w',next sl' ob'->Mod c xo ρ' sl' ob' a' w'->Tr w ρ w' ρ'->N a' w'):Qt P.p ops Q i (fun a' w'=>((x.kind ≠ 3->Ext w w')/\∃ρ',Tr w ρ w' ρ')/\N a' w') a w:=by
  have hd:∃(d:Option Nat) (y:I),J9 c.N o.dst d=true/\y.chk P.p o.op=true/\x.kind=y.kind/\
      ((Region.wanted o (yielded ops a.tmps)=true/\∃sl',SM w ρ sl' a/\y.wp P sl' ob (fun v ob'=>next (put sl' d v) ob') (fun v ob'=>QP (.panic v) (Xk sl' pk) ob'))\/
       (Region.wanted o (yielded ops a.tmps)=false/\∃sl',SM w ρ sl' a/\next (put sl' d .undef) ob)):=by
    cases x with
    | op d y=>
      simp only[It.chk,Bool.and_eq_true,Option.isNone_iff_eq_none]at hx
      exact⟨d,y,hx.1.1,hx.2,rfl,.inl ⟨by simp[Region.wanted,hx.1.2],sl,m.sm,h⟩⟩
    | gop g want d y=>
      simp only[It.chk,Bool.and_eq_true]at hx
      simp only[itK]at h
      exact⟨d,y,hx.1.1,hx.2,rfl,Zt (ops:=ops) m.sm hx.1.2 h⟩
  obtain⟨d,y,hdst,hy,hky,hways⟩:=hd
  unfold Qt
  simp only[ho]
  rcases hways with⟨hw,sl',hs,hwp⟩ | ⟨hw,sl',hs,hwp⟩
  · rw[if_pos hw]
    by_cases hk3:y.kind=3
    · refine I.sound (m.gl.trans hg.symm) hs m.om hy hwp o rfl _ _ (fun v z ob' w' ρ' hk hrep ho' t=>⟨⟨fun hf=>?_,ρ',t⟩,?_⟩) (fun u z ob' w' ρ' hk hrep ho' t=>?_)
      · rw[hky]at hf; exact absurd hk3 hf
      · obtain⟨g1,g2,g3⟩:=Xn hdst m.size (hs.tr t) hrep
        exact hN _ ob' ρ' _ w' hk ⟨m.base.tr t,ho',g1,g2,(m.df.tr t).put g3,t.xo.trans m.xo,t.gl.trans m.gl⟩ t
      · exact (hQ _ _ _).2 ⟨z,sl',ob',ρ',u,hk,rfl,hrep,m.base.tr t,ho',(hs.tr t).keep pk,m.size,m.df.tr t,t.xo.trans m.xo,t.gl.trans m.gl⟩
    · by_cases hk2:y.kind=2
      · refine I.soundE (m.gl.trans hg.symm) hs m.om hk2 hy hwp o rfl _ _ (fun v z w' hk hrep he=>⟨⟨fun _=>he,ρ,he.tr⟩,?_⟩)
        obtain⟨g1,g2,g3⟩:=Xn hdst m.size (hs.tr he.tr) hrep
        exact hN _ ob ρ _ w' hk ⟨m.base.tr he.tr,m.om.ext he,g1,g2,(m.df.tr he.tr).put g3,m.xo,m.gl⟩ he.tr
      · by_cases hk4:y.kind=4
        · refine I.soundX (m.gl.trans hg.symm) hs m.om hk4 hy hwp o rfl _ _ (fun v z ob' w' ρ' hk hrep ho' t he=>⟨⟨fun _=>he,ρ',t⟩,?_⟩)
          obtain⟨g1,g2,g3⟩:=Xn hdst m.size (hs.tr t) hrep
          exact hN _ ob' ρ' _ w' hk ⟨m.base.tr t,ho',g1,g2,(m.df.tr t).put g3,t.xo.trans m.xo,t.gl.trans m.gl⟩ t
        cases y with
        | c cc=>
          simp only[I.wp]at hwp
          obtain⟨v,z,hk,hrep,hrun⟩:=C.sound hs m.om hy hwp
          obtain⟨g1,g2,g3⟩:=Xn hdst m.size hs hrep
          unfold wpA
          rw[hrun o rfl w (fun _=>Ext.refl w)]
          exact⟨⟨fun _=>Ext.refl w,ρ,Tr.refl w ρ⟩,hN _ ob ρ _ w hk ⟨m.base,m.om,g1,g2,m.df.put g3,m.xo,m.gl⟩ (Tr.refl w ρ)⟩
        | _=>exfalso; simp[I.kind]at hk2 hk3 hk4
  · rw[hw]
    simp only[Bool.false_eq_true,if_false]
    refine⟨⟨fun _=>Ext.refl w,ρ,Tr.refl w ρ⟩,?_⟩
    obtain⟨g1,g2,g3⟩:=Xn hdst m.size hs (Yu.2 rfl)
    exact hN _ ob ρ _ w hwp ⟨m.base,m.om,g1,g2,m.df.put g3,m.xo,m.gl⟩ (Tr.refl w ρ)

theorem Yn {P:Prg}{c:Ctx}(hg:P.g=c.g){xo:Nat->Prop}{ops:Array Oper}{Q:Exit->Act->World->Prop}{QP:Yx}{pk:List Nat}{K:Xf->Xa->Prop}{kd:Nat->Nat}
    (hsel:Region.noSelect ops=true) (hpk:Xbj pk ops=true)
    (hK:∀sl ob ρ a w,K sl ob->Mod c xo ρ sl ob a w->Q .normal a w)
    (hQ:∀ch a w,Q (.panic ch) a w↔Xbt c xo pk QP ch a w) :
    ∀(n:Nat) (t:Ot) (B:Nat->Prop) (listed:Array Bool) (sl:Xf) (ob:Xa) (ρ:Env) (a:Act) (w:World),X0s B w ρ->V2 P.p c.N ops kd n listed t=true->Xao .any ops listed->
      owp P K (fun v sl ob=>QP (.panic v) (Xk sl pk) ob) t sl ob->Mod c xo ρ sl ob a w->Z8 P.p .any ops Q (RJ kd B) n listed a w
  | 0,.done,B,listed,sl,ob,ρ,a,w,hB,hc,_,h,m=>by
    simp only[V2]at hc
    simp only[owp]at h
    simp only[Z8]
    exact⟨by simpa using hc,hK sl ob ρ a w h m⟩
  | n+1,.br l,B,listed,sl,ob,ρ,a,w,hB,hc,hcl,h,m=>by
    simp only[V2,Bool.and_eq_true,Bool.not_eq_true']at hc
    obtain⟨⟨hne,hall⟩,hcs⟩:=hc
    simp only[owp]at h
    simp only[Z8]
    refine⟨fun h0=>by rw[h0]at hne; simp at hne,fun j hj=>?_⟩
    have hh:=List.all_eq_true.1 hall j hj
    obtain⟨x,r,o,g1,g2,g3,g4,g5⟩:∃x r o,ops[j]? = some o/\x.chk P.p c.N ops o=true/\x.kind=kd j/\V2 P.p c.N ops kd n (listed.setIfInBounds j true) r=true/\itK P (owp P K (fun v sl ob=>QP (.panic v) (Xk sl pk) ob) r) (fun v sl ob=>QP (.panic v) (Xk sl pk) ob) x sl ob:=by
      clear hne hall
      revert h hcs hh
      generalize l=l
      intro hh hcs h
      have go:∀(l:Ots),l.has j=true->Xe4 P.p c.N ops kd n listed l=true->Xdi P K (fun v sl ob=>QP (.panic v) (Xk sl pk) ob) l sl ob->∃x r o,ops[j]? = some o/\x.chk P.p c.N ops o=true/\x.kind=kd j/\V2 P.p c.N ops kd n (listed.setIfInBounds j true) r=true/\itK P (owp P K (fun v sl ob=>QP (.panic v) (Xk sl pk) ob) r) (fun v sl ob=>QP (.panic v) (Xk sl pk) ob) x sl ob:=by
        intro l
        induction l using Ots.rec (motive_1:=fun _=>True) with
        | nil=>intro h; simp[Ots.has]at h
        | cons i x r l _ ih=>
          intro h1 h2 h3
          simp only[Ots.has,Bool.or_eq_true,beq_iff_eq]at h1
          simp only[Xe4,Bool.and_eq_true]at h2
          simp only[Xdi]at h3
          by_cases e:i=j
          · subst e
            obtain⟨⟨⟨⟨_,hx⟩,hk⟩,hr⟩,_⟩:=h2
            cases ho:ops[i]? with
            | none=>simp[ho]at hx
            | some o=>simp only[ho]at hx; exact⟨x,r,o,rfl,hx,by simpa using hk,hr,h3.1⟩
          · exact ih (h1.resolve_left e) h2.2 h3.2
        | done=>trivial
        | one i x r _=>trivial
        | br l _=>trivial
      first | exact go _ hh hcs h | exact go _ h hcs hh
    have hst:=Xp7 (Q:=Q) (N:=fun a' w'=>Z8 P.p .any ops Q (RJ kd B) n (listed.setIfInBounds j true) a' w') hg hQ g1 g2 g5 m (fun sl' ob' ρ' a' w' hk m' t=>Yn hg hsel hpk hK hQ n r B _ sl' ob' ρ' a' w' (hB.tr t) g4 (hcl.step hj) hk m')
    refine Wn (fun a' w' h'=>⟨⟨fun hf=>h'.1.1 ?_,h'.1.2.elim fun ρ' t=>hB.fb t⟩,h'.2⟩) hst
    rw[g3]; exact hf
  | n+1,.one i x r,B,listed,sl,ob,ρ,a,w,hB,hc,hcl,h,m=>by
    simp only[V2,Bool.and_eq_true]at hc
    obtain⟨⟨⟨⟨hr,hx⟩,hkd⟩,hkind⟩,hrest⟩:=hc
    have hr':i∈Region.ready .any ops listed:=by simpa using hr
    simp only[owp]at h
    cases ho:ops[i]? with
    | none=>simp[ho]at hx
    | some o=>
      simp only[ho]at hx
      have hkd':x.kind=kd i:=by simpa using hkd
      have hcl':=hcl.step hr'
      -- the only one that may come up
      have alone:Region.ready .any ops listed=[i]->Z8 P.p .any ops Q (RJ kd B) (n+1) listed a w:=by
        intro hra
        refine⟨fun h0=>(by rw[hra]at h0; cases h0),fun j hj=>?_⟩
        rw[hra]at hj
        simp at hj; subst hj
        have hst:=Xp7 (Q:=Q) (N:=fun a' w'=>Z8 P.p .any ops Q (RJ kd B) n (listed.setIfInBounds j true) a' w') hg hQ ho hx h m (fun sl' ob' ρ' a' w' hk m' t=>Yn hg hsel hpk hK hQ n r B _ sl' ob' ρ' a' w' (hB.tr t) hrest hcl' hk m')
        refine Wn (fun a' w' h'=>⟨⟨fun hf=>h'.1.1 ?_,h'.1.2.elim fun ρ' t=>hB.fb t⟩,h'.2⟩) hst
        rw[hkd']; exact hf
      have hpko:∀k,o.dst=some k->k∉pk:=by
        intro k hk
        have:=List.all_eq_true.1 hpk o (by simpa using Array.mem_of_getElem? ho)
        simpa[hk]using this
      have hQo:∀v:Value,∀ch a w,Q (.panic ch) (a.put o.dst v) w->Q (.panic ch) a w:=fun v ch a w hq=>(hQ ch a w).2 (Xjp hpko ((hQ ch _ w).1 hq))
      have hd:∃(d:Option Nat) (y:I),J9 c.N o.dst d=true/\y.chk P.p o.op=true/\x.kind=y.kind/\
          ((Region.wanted o (yielded ops a.tmps)=true/\∃sl',SM w ρ sl' a/\y.wp P sl' ob (fun v ob'=>owp P K (fun v sl ob=>QP (.panic v) (Xk sl pk) ob) r (put sl' d v) ob') (fun v ob'=>QP (.panic v) (Xk sl' pk) ob'))\/
           (Region.wanted o (yielded ops a.tmps)=false/\∃sl',SM w ρ sl' a/\owp P K (fun v sl ob=>QP (.panic v) (Xk sl pk) ob) r (put sl' d .undef) ob)):=by
        cases x with
        | op d y=>
          simp only[It.chk,Bool.and_eq_true,Option.isNone_iff_eq_none]at hx
          exact⟨d,y,hx.1.1,hx.2,rfl,.inl ⟨by simp[Region.wanted,hx.1.2],sl,m.sm,h⟩⟩
        | gop g want d y=>
          simp only[It.chk,Bool.and_eq_true]at hx
          simp only[itK]at h
          exact⟨d,y,hx.1.1,hx.2,rfl,Zt (ops:=ops) m.sm hx.1.2 h⟩
      obtain⟨d,y,hdst,hy,hky,hways⟩:=hd
      have first:∀l:Bool,(∀cc,y=.c cc->cc.isLd=l)->(∃cc,y=.c cc)->Region.free .any ops listed i=true->
          (l=true->∀j,j<ops.size->kd j=3->j ≠ i->∃fuel,W1 .any ops i fuel j=true)->kd i ≠ 3->Z8 P.p .any ops Q (RJ kd B) (n+1) listed a w:=by
        intro l hld hcc hfree hwt hk3
        have hwt':l=true->∀j,j<ops.size->j ≠ i->(∃fuel,W1 .any ops i fuel j=true)\/∀u v,RJ kd B j u v->Ext u v:=fun h1 j h2 h3=>by
          by_cases h4:kd j=3
          · exact .inl (hwt h1 j h2 h4 h3)
          · exact .inr fun u v h5=>h5.1 h4
        have hself:∀w,RJ kd B i w w:=fun w=>⟨fun _=>Ext.refl w,FB.refl B w⟩
        obtain⟨cc,rfl⟩:=hcc
        have hld:=hld cc rfl
        rcases hways with⟨hw,sl',hs,hwp⟩ | ⟨hw,sl',hs,hwp⟩
        · simp only[I.wp]at hwp
          obtain⟨v,z,hk,hrep,hrun⟩:=C.sound hs m.om hy hwp
          obtain⟨g1,g2,g3⟩:=Xn hdst m.size hs hrep
          refine Yi (S:=Ext) (l:=l) Ext.refl (fun _ _ _=>Ext.trans) ho (Region.noSelect_spec hsel) (hQo v) hwt' hself _ listed a w hcl (Region.free_spec ho hfree) hr' (.inl ⟨hw,fun w' hw'=>hrun o rfl w' (fun e=>hw' (by rw[<-hld]; exact e))⟩) ?_
          exact Yn hg hsel hpk hK hQ n r B _ _ ob ρ _ w hB hrest hcl' hk ⟨m.base,m.om,g1,g2,m.df.put g3,m.xo,m.gl⟩
        · obtain⟨g1,g2,g3⟩:=Xn hdst m.size hs (Yu.2 rfl)
          refine Yi (S:=Ext) (l:=l) Ext.refl (fun _ _ _=>Ext.trans) ho (Region.noSelect_spec hsel) (hQo undef) hwt' hself _ listed a w hcl (Region.free_spec ho hfree) hr' (.inr ⟨hw,rfl⟩) ?_
          exact Yn hg hsel hpk hK hQ n r B _ _ ob ρ _ w hB hrest hcl' hwp ⟨m.base,m.om,g1,g2,m.df.put g3,m.xo,m.gl⟩
      have hcc:∀n,(n=0\/n=1)->y.kind=n->(∃cc,y=.c cc)/\∀cc,y=.c cc->cc.isLd=(n==1):=by
        intro n hn hyn
        cases y with
        | c cc=>
          refine⟨⟨cc,rfl⟩,fun c' e=>?_⟩
          cases e
          simp only[I.kind]at hyn
          cases hd:cc.isLdd
          · cases hl:cc.isLd<;>simp[hl,hd]at hyn<;>subst hyn<;>rfl
          · simp[hd]at hyn; subst hyn; simp at hn
        | _=>simp[I.kind]at hyn; subst hyn; simp at hn
      have hkl:y.kind=0\/y.kind=1\/y.kind=2\/y.kind=3\/y.kind=4\/y.kind=5:=by
        cases y with
        | c cc=>simp only[I.kind]; (repeat' split)<;>simp
        | _=>simp[I.kind]
      rcases hkl with h0 | h1 | h2 | h3 | h4 | h5
      · rw[hky,h0]at hkind
        obtain⟨c1,c2⟩:=hcc 0 (.inl rfl) h0
        exact first false (fun cc e=>by simpa using c2 cc e) c1 hkind (by simp) (by rw[<-hkd',hky,h0]; decide)
      · rw[hky,h1]at hkind
        simp only[Bool.and_eq_true]at hkind
        obtain⟨c1,c2⟩:=hcc 1 (.inr rfl) h1
        refine first true (fun cc e=>by simpa using c2 cc e) c1 hkind.1 (fun _ j hj hk3 hne=>?_) (by rw[<-hkd',hky,h1]; decide)
        have:=List.all_eq_true.1 hkind.2 j (by simpa using hj)
        have hk3':kd j=3:=hk3
        have hw:W1 .any ops i 1 j=true\/W1 .any ops i ops.size j=true:=by simpa[hk3',hne]using this
        exact hw.elim (fun h=>⟨_,h⟩) (fun h=>⟨_,h⟩)
      · rw[hky,h2]at hkind
        exact alone (by simpa using hkind)
      · rw[hky,h3]at hkind
        exact alone (by simpa using hkind)
      · rw[hky,h4]at hkind
        exact alone (by simpa using hkind)
      · rw[hky,h5]at hkind
        obtain⟨cc,rfl,hld⟩:∃cc,y=.c cc/\cc.isLdd=true:=by
          cases y with
          | c cc=>
            simp only[I.kind]at h5
            cases hd:cc.isLdd
            · cases hl:cc.isLd<;>simp[hl,hd]at h5
            · exact⟨cc,rfl,hd⟩
          | _=>simp[I.kind]at h5
        let B':Nat->Prop:=fun b=>b<w.heap.size/\¬own ρ b
        have hB':X0s B' w ρ:=fun b hb=>hb
        have hself:∀w,RJ kd B' i w w:=fun w=>⟨fun _=>Ext.refl w,FB.refl B' w⟩
        have hwt:true=true->∀j,j<ops.size->j ≠ i->(∃fuel,W1 .any ops i fuel j=true)\/∀u v,RJ kd B' j u v->FB B' u v:=fun _ j _ _=>.inr fun u v h=>h.2
        refine Qs (R:=RJ kd B') (fun j u v h=>⟨h.1,fun b hb=>h.2 b (hB b hb)⟩) _ _ _ _ ?_
        rcases hways with⟨hw,sl',hs,hwp⟩ | ⟨hw,sl',hs,hwp⟩
        · simp only[I.wp]at hwp
          obtain⟨v,z,hk,hrep,hrun⟩:=C.soundD hs m.om hld hy hwp
          obtain⟨g1,g2,g3⟩:=Xn hdst m.size hs hrep
          refine Yi (S:=FB B') (l:=true) (FB.refl B') (fun _ _ _=>FB.trans) ho (Region.noSelect_spec hsel) (hQo v) hwt hself _ listed a w hcl (Region.free_spec ho hkind) hr' (.inl ⟨hw,fun w' hw'=>hrun o rfl w' (fun b h1 h2=>hw' rfl b ⟨h1,h2⟩)⟩) ?_
          exact Yn hg hsel hpk hK hQ n r B' _ _ ob ρ _ w hB' hrest hcl' hk ⟨m.base,m.om,g1,g2,m.df.put g3,m.xo,m.gl⟩
        · obtain⟨g1,g2,g3⟩:=Xn hdst m.size hs (Yu.2 rfl)
          refine Yi (S:=FB B') (l:=true) (FB.refl B') (fun _ _ _=>FB.trans) ho (Region.noSelect_spec hsel) (hQo undef) hwt hself _ listed a w hcl (Region.free_spec ho hkind) hr' (.inr ⟨hw,rfl⟩) ?_
          exact Yn hg hsel hpk hK hQ n r B' _ _ ob ρ _ w hB' hrest hcl' hwp ⟨m.base,m.om,g1,g2,m.df.put g3,m.xo,m.gl⟩
  | 0,.one _ _ _,_,_,_,_,_,_,_,_,hc,_,_,_=>by simp[V2]at hc
  | 0,.br _,_,_,_,_,_,_,_,_,hc,_,_,_=>by simp[V2]at hc
  | _+1,.done,_,_,_,_,_,_,_,_,hc,_,_,_=>by simp[V2]at hc

theorem Xat {p:Nat->Prop}:∀n,p n->∃m,p m/\∀k,p k->m<=k:=by
  intro n
  induction n using Nat.strongRecOn with
  | _ n ih=>
    intro hn
    by_cases h:∃k,p k/\k<n
    · obtain⟨k,hk,hlt⟩:=h; exact ih k hlt hk
    · exact⟨n,hn,fun k hk=>Nat.le_of_not_lt fun hlt=>h ⟨k,hk,hlt⟩⟩

theorem Xix {sl:Xf}:∀{l:List Nat} {p:Nat×V},p∈Xk sl l->p.2=look sl p.1
  | [],p,h=>by cases h
  | k::r,p,h=>by
    rcases List.mem_cons.1 h with rfl | h
    · rfl
    · exact Xix h
theorem Ylu {w:World}{ρ:Env}{ob:Xa}(h:OM w ρ ob)(o:Obj):Tr w ρ (Jx w o) (ρ.ins (Xb ob) (.map w.heap.size)):=
  W2 _ (Y6 w o) (o:=.map w.heap.size) (h.free (Xw ob)) (fun b hb=>by simp[RO.blk?]at hb; omega)
theorem X4c {sl:Xf}{k:Nat}:look sl k=.any\/(k,look sl k)∈sl:=by
  induction sl with
  | nil=>exact .inl rfl
  | cons e r ih=>
    obtain⟨j,v⟩:=e
    simp only[look]
    split
    · rename_i e; subst e; exact .inr (by simp)
    · exact ih.imp id (fun h=>by simp[h])

theorem Xyv {P:Prg}{c:Ctx}(hg:P.g=c.g){xo:Nat->Prop}{f:Operand}{tag:Nat}{slk:Xf}{Q:Yx}{ob:Xa}{ρ:Env}{a:Act}{w w1:World}{ρ1:Env}{fi ca:List V}{fs gs:List Value}{fk D:Nat}(hmk:c.mrk=true)
    (m:Mod c xo ρ slk ob a w) (hcal:Xm P.p fk=true) (h:ACall P fk (fi++[.hd true (Xb ob)]++ca) ((Xb ob,.lp tag .ready slk)::ob) (rgQ Q slk (Xb ob)))
    (e1:a.eval f=.func (.func fk) fs.toArray gs.toArray) (r2:V.reps w ρ fi fs) (r3:V.reps w ρ ca gs) (t1:Tr w ρ w1 ρ1) (o1:OM w1 ρ1 ((Xb ob,.lp tag .ready slk)::ob)) {L:Nat} (hL1:ρ1.m (Xb ob)=some (.map L))
    (hD:c.w0.heap.size<=D/\w1.heap[D]? = some (.deferred (some []))/\¬Xbn ρ1 D) (hDn:w.heap.size<=D) :
    ∃(d:Deferred) (w₁':World) (f':FuncId) (args:Array Value) (w₂:World),
      (resolve a.eval (rangeCall f L) 0).run P.p w1=.ok d w₁'/\(∀f',Target.leads P.p w₁' d.target d.args=some f'->(frm none).fn f')/\
      (invoke d.target d.args).run P.p w₁'=.ok (.enter f' args) w₂/\((frm none).depth.isSome=true->1<=0)/\
      CallsIn (frm none) (0-1) P.p f' args w₂ (rangePost (frm none) 0 P.p L (lift c xo Q) { a with defers:=[mkD D]++a.defers }):=by
  have hgl:ρ1.gl=P.g:=t1.gl.trans (m.gl.trans hg.symm)
  have hy:(V.hd true (Xb ob)).rep w1 ρ1 (.func (.yield L) #[] #[]):=Jq.2 (.inl ⟨L,hL1,rfl⟩)
  have hreps:V.reps w1 ρ1 (fi++[.hd true (Xb ob)]++ca) (fs++[Value.func (.yield L) #[] #[]]++gs):=
    reps_append (reps_append (V.reps_tr t1 _ _ r2) (by simp only[V.reps]; exact⟨_,_,rfl,hy,rfl⟩)) (V.reps_tr t1 _ _ r3)
  refine⟨⟨.fn (.func fk) gs.toArray,fs.toArray++#[Value.func (.yield L) #[] #[]]⟩,w1,fk,(fs++[Value.func (.yield L) #[] #[]]++gs).toArray,w1,?_,fun _ _=>Xo5 _ _,?_,fun h=>(by rw[Xii]at h; cases h),Xih ?_⟩
  · simp only[resolve,rangeCall,e1,Deferred.ofValue,Sem.run_pure]
    simp[Act.eval]
  · simp only[invoke,Yg hcal]
    congr 2
    apply Array.ext'; simp
  · refine (h.run w1 ρ1 _ o1 hgl hreps).mono fun e w' ⟨out,ob',ρ',hk,hr,o2,t2⟩=>?_
    cases e with
    | panicked ch=>cases out<;>first | exact hk.elim | exact hr.elim
    | outgrown=>cases out<;>exact hr.elim
    | returned u=>
      cases out with
      | panic v=>exact hr.elim
      | ret v=>
        simp only[rgQ]at hk
        obtain⟨st,tg,sl2,hl,hst,hk⟩:∃st tg sl2,Xe ob' (Xb ob)=some (.lp tg st sl2)/\st ≠ .busy/\(match st with
            | .ready=>Q .normal slk (setO ob' (Xb ob) .gone)
            | .ret=>Q .ret slk (setO ob' (Xb ob) .gone)
            | .exit n=>Q (.exit n) slk (setO ob' (Xb ob) .gone)
            | .busy=>False):=by
          unfold rgE at hk
          split at hk
          · rename_i hl; exact⟨_,_,_,hl,by simp,hk⟩
          · rename_i hl; exact⟨_,_,_,hl,by simp,hk⟩
          · rename_i hl; exact⟨_,_,_,hl,by simp,hk⟩
          · exact hk.elim
        obtain⟨b,fn,tm,dd,qs,c1,c2,g1,g2,g3,g4⟩:=o2.one _ _ hl
        obtain⟨o',p1,p2⟩:=t2.same _ _ hL1
        have hbL:b=L:=by
          rw[g1]at p1; simp only[Option.some.injEq]at p1; subst p1
          cases p2 with
          | refl=>rfl
        subst hbL
        have hend:(Instr.endLoop b).run P.p w'=.ok st.pend (Jy w' b (.loop { state:=.exhausted,pending:=st.pend,fn:=fn,tmps:=tm,params:=qs,assign:=c1,body:=c2,defers:=dd })):=by
          have hget:(Instr.getLoop b).run P.p w'=.ok { state:=st.st,pending:=st.pend,fn:=fn,tmps:=tm,params:=qs,assign:=c1,body:=c2,defers:=dd } w':=by
            simp[Instr.getLoop,getObj,Sem.run,g2]
          have hnb:(st.st==LoopState.busy)=false:=by cases st<;>first | exact absurd rfl hst | rfl
          have hset:=Ut (P:=P.p) (o:=.loop { state:=.exhausted,pending:=st.pend,fn:=fn,tmps:=tm,params:=qs,assign:=c1,body:=c2,defers:=dd }) w' g2 rfl
          simp only[Instr.endLoop,Sem.run_bind,hget,Result.andThen_ok,hnb,Bool.false_eq_true,if_false,hset,Sem.run_pure]
        obtain⟨t3,o3,_⟩:=Xfg (w2:=Jy w' b (.loop { state:=.exhausted,pending:=st.pend,fn:=fn,tmps:=tm,params:=qs,assign:=c1,body:=c2,defers:=dd })) o2 ⟨_,hl⟩ (Ww ..) (fun j hj=>Zb w' _ (fun e=>hj _ g1 (by simp[RO.blk?,e]))) rfl rfl rfl (Nat.le_refl _)
        have t4:=(t1.trans t2).trans t3
        have m4:Mod c xo (ρ'.ins (Xb ob) .gone) slk (setO ob' (Xb ob) .gone) { a with defers:=[mkD D]++a.defers } (Jy w' b (.loop { state:=.exhausted,pending:=st.pend,fn:=fn,tmps:=tm,params:=qs,assign:=c1,body:=c2,defers:=dd })):=by
          refine⟨m.base.tr t4,o3,m.sm.tr t4,m.size,?_,t4.xo.trans m.xo,t4.gl.trans m.gl⟩
          obtain⟨ms,q1,q2,q3,q4⟩:=m.df.tr t4
          have t5:=t2.trans t3
          refine⟨D::ms,by simp[q1,mkD],fun h=>(by rw[hmk]at h; cases h),List.nodup_cons.2 ⟨fun hm=>?_,q3⟩,fun r hr=>?_⟩
          · obtain⟨ms',q1',_,_,q4'⟩:=m.df
            have:ms.map mkD++c.df=ms'.map mkD++c.df:=q1.symm.trans q1'
            have h2:=List.append_cancel_right this
            have h3:mkD D∈ms'.map mkD:=by rw[<-h2]; exact List.mem_map_of_mem hm
            obtain⟨r,hr,e⟩:=List.mem_map.1 h3
            have:r=D:=by simpa[mkD]using e
            subst this
            have:=Xj (q4' r hr).2.1
            omega
          · rcases List.mem_cons.1 hr with rfl | hr
            · exact⟨hD.1,(t5.keep _ hD.2.2 (Xj hD.2.1)).trans hD.2.1,fun h=>(t5.owns _ h).elim hD.2.2 (fun h=>by have:=Xj hD.2.1; omega)⟩
            · exact q4 r hr
        refine⟨st.pend,_,hend,?_⟩
        cases st with
        | ready=>exact⟨.normal,slk,_,_,hk,trivial,m4⟩
        | busy=>exact hk.elim
        | ret=>exact wpIn_ret ⟨.ret,slk,_,_,hk,trivial,m4⟩
        | exit n=>exact wpIn_exit ⟨.exit n,slk,_,_,hk,rfl,m4⟩

theorem Xyw {P:Prg}{c:Ctx}(hg:P.g=c.g)(hmk:c.mrk=true){xo:Nat->Prop}{f:Operand}{qs:Array Nat}{ca cb:Code}{tag:Nat}{ps:List Nat}{g:A}{x y:S}{keep:List Nat}{Q:Yx}{sl:Xf}{ob:Xa}{ρ:Env}{a:Act}{w:World}
    (hc:(A.chk f g&&((qs.toList==ps)&&ps.all (fun k=>decide (k<c.N))&&S.chk P.p c.N ca x&&S.chk P.p c.N cb y&&x.noR&&y.noR))=true)
    (h:cwp P (.rgf tag ps g x y keep) Q sl ob) (m:Mod c xo ρ sl ob a w):(Code.rangeFunc f qs ca cb).wpIn (frm none) 0 P.p (lift c xo Q) a w:=by
  simp only[cwp]at h
  obtain⟨hL,hr⟩:=h
  rw[Bool.and_eq_true]at hc
  obtain⟨h1,h2⟩:=hc
  refine wpIn_rangeFunc fun fn _=>?_
  have r1:=A.sound m.sm h1
  let D:=w.heap.size
  let wd:=Jx w (.deferred (some []))
  let L:=wd.heap.size
  let lo:Loop:={ state:=.ready,pending:=none,fn:=fn,tmps:=a.tmps,params:=qs,assign:=ca,body:=cb,defers:=D }
  have t0:Tr w ρ wd ρ:=(Y6 w _).tr
  have o0:OM wd ρ ob:=m.om.ext (Y6 w _)
  have t1:=Ylu o0 (.loop lo)
  have hbig:w.heap.size<wd.heap.size:=by show w.heap.size<(w.heap.push _).size; simp
  have hx:V0 (Jx wd (.loop lo)) (ρ.ins (Xb ob) (.map wd.heap.size)) (Xb ob) (.lp tag .ready (Xk sl keep)):=by
    refine⟨L,fn,a.tmps,D,qs,ca,cb,by simp[Env.ins,L],Zd _ _,?_,fun p hp=>?_⟩
    · show ρ.gl.l tag qs a.tmps.size ca cb
      rw[m.gl,<-hg,m.size]
      exact (hL qs c.N ca cb).2 h2
    · rw[Xix hp]
      exact V.rep_tr (t0.trans t1) (m.sm p.1)
  obtain⟨_,o1,_⟩:=Xwj o0 (.loop lo) (.lp tag .ready (Xk sl keep)) hx
  have hent:(Instr.enterLoop fn a.tmps qs ca cb (frm none).round).run P.p w=.ok (L,[mkD D]) (Jx wd (.loop lo)):=by
    simp only[Instr.enterLoop,Xij,Sem.run_bind,run_newObj,Result.andThen_ok,Sem.run_pure]
    rfl
  have hown:¬Xbn ρ D:=fun ⟨i,o,q1,q2⟩=>by have:=Ws m.om q1 q2; omega
  have hD:c.w0.heap.size<=D/\(Jx wd (.loop lo)).heap[D]? = some (.deferred (some []))/\¬Xbn (ρ.ins (Xb ob) (.map wd.heap.size)) D:=by
    refine⟨m.base.size,?_,fun ⟨i,o,q1,q2⟩=>?_⟩
    · have:(Jx wd (.loop lo)).heap[D]? = wd.heap[D]?:=Xtf wd _ hbig
      rw[this]; exact Zd _ _
    · simp only[Env.ins]at q1
      split at q1
      · cases q1; simp[RO.blk?]at q2; omega
      · exact hown ⟨i,o,q1,q2⟩
  have mk:Mod c xo ρ (Xk sl keep) ob a w:=⟨m.base,m.om,m.sm.keep keep,m.size,m.df,m.xo,m.gl⟩
  have hm1:(ρ.ins (Xb ob) (.map wd.heap.size)).m (Xb ob)=some (.map L):=by simp[Env.ins,L]
  unfold rgK at hr
  split at hr
  · rename_i fk fi cc e1
    rw[e1,Xa2]at r1
    obtain⟨fs,gs,r1,r2,r3⟩:=r1
    obtain⟨d,w1',f',args,w2,q1,q2,q3,q4,q5⟩:=Xyv hg hmk mk hr.1 hr.2 r1 r2 r3 (t0.trans t1) o1 hm1 hD (Nat.le_refl _)
    exact⟨L,[mkD D],_,d,w1',f',args,w2,hent,q1,q2,q3,q4,q5⟩
  · rename_i fk fi cc e1
    rw[e1,Xcx]at r1
    obtain⟨fs,gs,r1,r2,r3⟩:=r1
    obtain⟨d,w1',f',args,w2,q1,q2,q3,q4,q5⟩:=Xyv hg hmk mk hr.1 hr.2 r1 r2 r3 (t0.trans t1) o1 hm1 hD (Nat.le_refl _)
    exact⟨L,[mkD D],_,d,w1',f',args,w2,hent,q1,q2,q3,q4,q5⟩
  · exact hr.elim

theorem Xa0 {ops:Array Oper}(h:Xmu ops=true):∀o∈ops.toList,∀c,o.op ≠ .defer c:=fun o ho c e=>by
  have:=List.all_eq_true.1 h o ho
  simp[e]at this
theorem Ypq {a b:Bool}{p:Prop}(h:(a&&b)=true\/p):a=true\/p:=h.imp (fun h=>(by simp at h; exact h.1)) id
theorem Ypr {a b:Bool}{p:Prop}(h:(a&&b)=true\/p):b=true\/p:=h.imp (fun h=>(by simp at h; exact h.2)) id
theorem X8 {P:Prg}(hm:P.p.follows .mixedOrders=true){c:Ctx}(hg:P.g=c.g){xo:Nat->Prop}{rd:Option Nat}:∀(code:Code) (s:S) (Q:Yx) (sl:Xf) (ob:Xa) (ρ:Env) (a:Act) (w:World),
    S.chk P.p c.N code s=true->(s.noR=true\/(c.mrk=true/\rd=none))->cwp P s Q sl ob->Mod c xo ρ sl ob a w->code.wpIn (frm rd) 0 P.p (lift c xo Q) a w
  | .skip,s,Q,sl,ob,ρ,a,w,hc,hn,h,m=>by
    cases s<;>simp[S.chk]at hc
    exact wpIn_skip ⟨.normal,sl,ob,ρ,h,trivial,m⟩
  | .region id ops draw,s,Q,sl,ob,ρ,a,w,hc,hn,h,m=>by
    cases s<;>simp only[S.chk,Bool.false_eq_true]at hc
    case rgT n t keep pk=>
      simp only[cwp]at h
      simp only[Bool.and_eq_true]at hc
      obtain⟨⟨⟨⟨⟨hnd,hdr⟩,hlen⟩,hsel⟩,hpk⟩,hcan⟩:=hc
      have hnd:=Xa0 hnd
      subst hdr
      have hlen:n<=ops.size:=by simpa using hlen
      let Q':Exit->Act->World->Prop:=fun e a w=>match e with
        | .panic ch=>Xbt c xo pk Q ch a w
        | e=>lift c xo Q e a w
      have hx:Ext w { w with drawn:=w.drawn+1 }:=Ext.drew w _
      have key:=Yn (Q:=Q') (QP:=Q) (K:=fun sl ob=>Q .normal (Xk sl keep) ob) hg hsel hpk
        (fun sl ob ρ a w hk m=>(⟨.normal,_,ob,ρ,hk,trivial,m.base,m.om,m.sm.keep keep,m.size,m.df,m.xo,m.gl⟩:lift c xo Q .normal a w))
        (fun ch a w=>Iff.rfl) n t (fun _=>False) (Array.replicate ops.size false) sl ob ρ a { w with drawn:=w.drawn+1 } (fun _ h=>h.elim) hcan
        (fun k o _ hl=>by
          rcases Nat.lt_or_ge k ops.size with h' | h'
          · simp[h']at hl
          · simp[h']at hl) h ⟨m.base.tr hx.tr,m.om.ext hx,m.sm.tr hx.tr,m.size,m.df.tr hx.tr,m.xo,m.gl⟩
      have hany:=Xam _ _ _ _ key
      refine wpIn_mono (wpIn_region_any hm (Xc8 hnd _ _ _ _ (Qr _ _ _ _ _ hlen hany))) (fun e a' w' he=>?_)
      cases e with
      | panic ch=>
        obtain⟨v,sl',ob',ρ',u,h1,h2,h3,m'⟩:=he
        exact⟨.panic v,_,ob',ρ',h1,⟨u,h2,h3⟩,m'⟩
      | _=>exact he
    rename_i ord l keep pk
    simp only[cwp]at h
    rw[Bool.and_eq_true]at hc
    obtain⟨hnd,hc⟩:=hc
    have hnd:=Xa0 hnd
    cases draw with
    | false=>
      simp only[Bool.false_eq_true,if_false]at hc
      refine wpIn_region_list (Xan _ hnd _ _ (Xad (c:=c) (xo:=xo) hg (fun sl ob ρ a w hk m=>?_) (fun v sl ob ρ a w u hk m hr=>?_) ops.toList l sl ob ρ a w hc h m))
      · exact⟨.normal,_,ob,ρ,hk,trivial,m.base,m.om,m.sm.keep keep,m.size,m.df,m.xo,m.gl⟩
      · exact⟨.panic v,_,ob,ρ,hk,⟨u,rfl,hr⟩,m.base,m.om,m.sm.keep pk,m.size,m.df,m.xo,m.gl⟩
    | true=>
      simp only[if_true,Bool.and_eq_true]at hc
      obtain⟨⟨⟨hlen,hsel⟩,hpk⟩,hcan⟩:=hc
      have hlen:ord.length<=ops.size:=by simpa using hlen
      let Q':Exit->Act->World->Prop:=fun e a w=>match e with
        | .panic ch=>Xbt c xo pk Q ch a w
        | e=>lift c xo Q e a w
      have hx:Ext w { w with drawn:=w.drawn+1 }:=Ext.drew w _
      have key:=Yj (Q:=Q') (QP:=Q) (K:=fun sl ob=>Q .normal (Xk sl keep) ob) hg hsel hpk
        (fun sl ob ρ a w hk m=>(⟨.normal,_,ob,ρ,hk,trivial,m.base,m.om,m.sm.keep keep,m.size,m.df,m.xo,m.gl⟩:lift c xo Q .normal a w))
        (fun ch a w=>Iff.rfl) ord l (fun _=>False) (Array.replicate ops.size false) sl ob ρ a { w with drawn:=w.drawn+1 } (fun _ h=>h.elim) hcan
        (fun k o _ hl=>by
          rcases Nat.lt_or_ge k ops.size with h' | h'
          · simp[h']at hl
          · simp[h']at hl) h ⟨m.base.tr hx.tr,m.om.ext hx,m.sm.tr hx.tr,m.size,m.df.tr hx.tr,m.xo,m.gl⟩
      have hany:=Xam _ _ _ _ key
      refine wpIn_mono (wpIn_region_any hm (Xc8 hnd _ _ _ _ (Qr _ _ _ _ _ hlen hany))) (fun e a' w' he=>?_)
      cases e with
      | panic ch=>
        obtain⟨v,sl',ob',ρ',u,h1,h2,h3,m'⟩:=he
        exact⟨.panic v,_,ob',ρ',h1,⟨u,h2,h3⟩,m'⟩
      | _=>exact he
  | .seq x y,s,Q,sl,ob,ρ,a,w,hc,hn,h,m=>by
    cases s<;>simp[S.chk]at hc
    simp only[cwp]at h
    refine wpIn_seq (wpIn_mono (X8 hm hg x _ _ sl ob ρ a w hc.1 (Ypq hn) h m) ?_)
    rintro e a' w' ⟨ae,sl',ob',ρ',hq,he,m'⟩
    cases ae with
    | normal=>
      cases e<;>simp only[exM]at he
      exact X8 hm hg y _ Q sl' ob' ρ' a' w' hc.2 (Ypr hn) hq m'
    | exit n=>
      cases e<;>simp only[exM]at he
      exact⟨.exit n,sl',ob',ρ',hq,he,m'⟩
    | ret=>
      cases e<;>simp only[exM]at he
      exact⟨.ret,sl',ob',ρ',hq,trivial,m'⟩
    | panic v=>
      cases e<;>simp only[exM]at he
      exact⟨.panic v,sl',ob',ρ',hq,he,m'⟩
  | .cond d x y,s,Q,sl,ob,ρ,a,w,hc,hn,h,m=>by
    cases s<;>simp[S.chk]at hc
    obtain⟨⟨h1,h2⟩,h3⟩:=hc
    simp only[cwp]at h
    have r1:=A.sound m.sm h1
    unfold J7 at h
    split at h
    · rename_i t e
      rw[e,rep_bool]at r1
      exact wpIn_cond_split r1 (fun ht=>X8 hm hg x _ Q sl ob ρ a w h2 (Ypq hn) (h.1 ht) m) (fun ht=>X8 hm hg y _ Q sl ob ρ a w h3 (Ypr hn) (h.2 ht) m)
    · exact h.elim
  | .block n x,s,Q,sl,ob,ρ,a,w,hc,hn,h,m=>by
    cases s<;>simp[S.chk]at hc
    obtain⟨rfl,h1⟩:=hc
    simp only[cwp]at h
    refine wpIn_block (wpIn_mono (X8 hm hg x _ _ sl ob ρ a w h1 hn h m) ?_)
    rintro e a' w' ⟨ae,sl',ob',ρ',hq,he,m'⟩
    cases ae with
    | normal=>
      cases e<;>simp only[exM]at he
      exact⟨.normal,sl',ob',ρ',hq,trivial,m'⟩
    | exit k=>
      cases e<;>simp only[exM]at he
      subst he
      simp only[Yl]at hq
      simp only[Exit.inBlock]
      split
      · rename_i e; rw[if_pos e]at hq; exact⟨.normal,sl',ob',ρ',hq,trivial,m'⟩
      · rename_i e; rw[if_neg e]at hq; exact⟨.exit _,sl',ob',ρ',hq,rfl,m'⟩
    | ret=>
      cases e<;>simp only[exM]at he
      exact⟨.ret,sl',ob',ρ',hq,trivial,m'⟩
    | panic v=>
      cases e<;>simp only[exM]at he
      exact⟨.panic v,sl',ob',ρ',hq,he,m'⟩
  | .loop x,s,Q,sl,ob,ρ,a,w,hc,hn,h,m=>by
    cases s<;>simp[S.chk]at hc
    simp only[cwp]at h
    obtain⟨ι,St,Ot,I,μ,i0,hi0,he0,he1,hstep⟩:=h.run
    let G:Act->World->Nat->Prop:=fun a w n=>∃i ρ,I i/\μ i=n/\Mod c xo ρ (St i) (Ot i) a w
    let M:Act->World->Nat:=fun a w=>open Classical in if h:∃n,G a w n then Classical.choose (Xat (p:=G a w) (Classical.choose h) (Classical.choose_spec h)) else 0
    have hM:∀a w n,G a w n->G a w (M a w)/\M a w<=n:=by
      intro a w n hn
      have hex:∃n,G a w n:=⟨n,hn⟩
      have:=Classical.choose_spec (Xat (p:=G a w) (Classical.choose hex) (Classical.choose_spec hex))
      simp only[M,hex,dif_pos]
      exact⟨this.1,this.2 n hn⟩
    refine wpIn_loop (I:=fun a w=>∃n,G a w n) (μ:=M) ⟨μ i0,i0,ρ,hi0,rfl,by rw[<-he0,<-he1]; exact⟨m.base,m.om,m.sm.keep _,m.size,m.df,m.xo,m.gl⟩⟩ ?_
    rintro a1 w1 ⟨n,hgn⟩
    obtain⟨⟨i,ρ1,hi,hmu,m1⟩,_⟩:=hM a1 w1 n hgn
    refine wpIn_mono (X8 hm hg x _ _ _ _ ρ1 a1 w1 hc hn (hstep i hi) m1) ?_
    rintro e a' w' ⟨ae,sl',ob',ρ',hq,he,m'⟩
    cases ae with
    | normal=>
      cases e<;>simp only[exM]at he
      simp only[Wm]at hq
      obtain⟨drp,q1,q2,j,hj,hlt,hSj,hOj⟩:=hq
      have hold1:∀id o,ρ1.m id=some o->Xd (Xb (Ot i)) drp id=false:=fun id o h0=>by
        obtain⟨x,hx⟩:=m1.om.dom id o h0
        have hlt:¬Xb (Ot i)<=id:=fun hle=>by rw[Xy _ _ hle]at hx; cases hx
        simp[Xd,hlt]
      have hold:∀id o,c.m0 id=some o->Xd (Xb (Ot i)) drp id=false:=fun id o h0=>by
        obtain⟨o',h1,_⟩:=m1.base.same id o h0
        exact hold1 id o' h1
      have hev:∀p∈c.ev,V.men (Xd (Xb (Ot i)) drp) p.1=false:=fun p hp=>V.men_temp hold1 (m1.base.ext p hp)
      have hg:G a' w' (μ j):=⟨j,_,hj,rfl,by rw[<-hSj,<-hOj]; exact m'.sub hold hev q1 q2⟩
      have:=hM a' w' _ hg
      exact⟨⟨_,hg⟩,by omega⟩
    | exit k=>
      cases e<;>simp only[exM]at he
      exact⟨.exit k,sl',ob',ρ',hq,he,m'⟩
    | ret=>
      cases e<;>simp only[exM]at he
      exact⟨.ret,sl',ob',ρ',hq,trivial,m'⟩
    | panic v=>
      cases e<;>simp only[exM]at he
      exact⟨.panic v,sl',ob',ρ',hq,he,m'⟩
  | .exit n,s,Q,sl,ob,ρ,a,w,hc,hn,h,m=>by
    cases s<;>simp[S.chk]at hc
    subst hc
    exact wpIn_exit ⟨.exit n,sl,ob,ρ,h,rfl,m⟩
  | .ret,s,Q,sl,ob,ρ,a,w,hc,hn,h,m=>by
    cases s<;>simp[S.chk]at hc
    exact wpIn_ret ⟨.ret,sl,ob,ρ,h,trivial,m⟩
  | .rangeFunc f qs ca cb,s,Q,sl,ob,ρ,a,w,hc,hn,h,m=>by
    cases s<;>simp only[S.chk,Bool.false_eq_true]at hc
    rename_i tag ps g x y keep
    obtain⟨hmk,rfl⟩:c.mrk=true/\rd=none:=hn.resolve_left (by simp[S.noR])
    exact Xyw hg hmk hc h m
  | .scope _,s,Q,sl,ob,ρ,a,w,hc,hn,h,m=>by cases s<;>simp[S.chk]at hc
  | .label _,s,Q,sl,ob,ρ,a,w,hc,hn,h,m=>by cases s<;>simp[S.chk]at hc
  | .goto _,s,Q,sl,ob,ρ,a,w,hc,hn,h,m=>by cases s<;>simp[S.chk]at hc
  | .refuse _,s,Q,sl,ob,ρ,a,w,hc,hn,h,m=>by cases s<;>simp[S.chk]at hc
end Go.Ab
namespace Go.Ab
open Go

structure Same (w w2:World):Prop where
 size:w2.heap.size=w.heap.size
 heap:∀b:Nat,w2.heap[b]? = w.heap[b]?\/∃x y,w.heap[b]? = some (Obj.deferred x)/\w2.heap[b]? = some (Obj.deferred y)
 tape:w2.tape=w.tape
 os:w2.os=w.os
 out:w2.output=w.output
 drawn:w2.drawn=w.drawn
theorem Same.refl (w:World):Same w w:=⟨rfl,fun _=>.inl rfl,rfl,rfl,rfl,rfl⟩
theorem Same.trans {w w2 w3:World}(h:Same w w2)(h':Same w2 w3):Same w w3:=by
 refine⟨h'.size.trans h.size,fun b=>?_,h'.tape.trans h.tape,h'.os.trans h.os,h'.out.trans h.out,h'.drawn.trans h.drawn⟩
 rcases h.heap b with h1 | ⟨x,y,h1,h2⟩
 ·rcases h'.heap b with h3 | ⟨u,v,h3,h4⟩
  ·exact .inl (h3.trans h1)
  ·exact .inr ⟨u,v,h1.symm.trans h3,h4⟩
 ·rcases h'.heap b with h3 | ⟨u,v,h3,h4⟩
  ·exact .inr ⟨x,y,h1,h3.trans h2⟩
  ·exact .inr ⟨x,v,h1,h4⟩
section
variable {w w2:World} (s:Same w w2)
include s
theorem Same.keep {b:Nat}{o:Obj}(h:w.heap[b]? = some o)(ho:∀x,o ≠ .deferred x):w2.heap[b]? = some o:=by
 rcases s.heap b with h1 | ⟨x,y,h1,_⟩
 ·exact h1.trans h
 ·rw[h]at h1; cases h1; exact absurd rfl (ho x)
theorem Same.cell {b o:Nat}{v:Value}(h:w.cell? ⟨b,o,none⟩=some v):w2.cell? ⟨b,o,none⟩=some v:=by
 rcases s.heap b with h1 | ⟨x,y,h1,_⟩
 ·rw[cell?_congr h1]; exact h
 ·simp[World.cell?,h1]at h
theorem Same.cells {ow:Nat->Prop}{a:Addr}{vs:List Value}(h:Cells w ow a vs):Cells w2 ow a vs:=
 ⟨fun hne=>⟨(h.1 hne).1,(h.1 hne).2.1,by rw[s.size]; exact (h.1 hne).2.2⟩,fun i hi=>s.cell (h.2 i hi)⟩
mutual
theorem D.rep_same {ow:Nat->Prop}:∀(d:D) (cs:List Value),d.rep w ow cs->d.rep w2 ow cs
 | .int k n,cs,h=>by simpa[D.rep]using h
 | .bool b,cs,h=>by simpa[D.rep]using h
 | .str s,cs,h=>by simpa[D.rep]using h
 | .nils,cs,h=>by simpa[D.rep]using h
 | .nili,cs,h=>by simpa[D.rep]using h
 | .nilp,cs,h=>by simpa[D.rep]using h
 | .nilf,cs,h=>by simpa[D.rep]using h
 | .nilm,cs,h=>by simpa[D.rep]using h
 | .ref x,cs,h=>by
  simp only[D.rep]at h⊢
  obtain⟨a,vs,e,h0,h1,h2⟩:=h
  exact⟨a,vs,e,h0,s.cells h1,D.rep_same x vs h2⟩
 | .iface t x,cs,h=>by
  simp only[D.rep]at h⊢
  obtain⟨u,e,h1⟩:=h
  refine⟨u,e,?_⟩
  rcases h1 with⟨p,ds,q,r⟩ | ⟨p,r⟩
  ·exact .inl ⟨p,ds,q,D.rep_same x ds r⟩
  ·exact .inr ⟨p,D.rep_same x _ r⟩
 | .fn f fi ca,cs,h=>by
  simp only[D.rep]at h⊢
  obtain⟨fs,gs,e,h1,h2⟩:=h
  exact⟨fs,gs,e,D.repT_same fi fs h1,D.repT_same ca gs h2⟩
 | .agg xs,cs,h=>by
  simp only[D.rep]at h⊢
  exact D.repL_same xs cs h
 | .list sz xs,cs,h=>by
  simp only[D.rep]at h⊢
  rcases h with h | ⟨a,cap,vs,h1,h2,h3,h4,h5⟩
  ·exact .inl h
  ·exact .inr ⟨a,cap,vs,h1,h2,s.cells h3,D.repL_same xs vs h4,h5⟩
theorem D.repT_same {ow:Nat->Prop}:∀(xs:List D) (vs:List Value),D.repT w ow xs vs->D.repT w2 ow xs vs
 | [],vs,h=>by simpa only[D.repT]using h
 | x::r,vs,h=>by
  simp only[D.repT]at h⊢
  obtain⟨u,us,e,h1,h2⟩:=h
  refine⟨u,us,e,?_,D.repT_same r us h2⟩
  rcases h1 with⟨p,ds,q,r⟩ | ⟨p,r⟩
  ·exact .inl ⟨p,ds,q,D.rep_same x ds r⟩
  ·exact .inr ⟨p,D.rep_same x _ r⟩
theorem D.repL_same {ow:Nat->Prop}:∀(xs:List D) (cs:List Value),D.repL w ow xs cs->D.repL w2 ow xs cs
 | [],vs,h=>by simpa only[D.repL]using h
 | x::r,vs,h=>by
  simp only[D.repL]at h⊢
  obtain⟨c1,c2,e,h1,h2⟩:=h
  exact⟨c1,c2,e,D.rep_same x c1 h1,D.repL_same r c2 h2⟩
end
mutual
theorem V.repC_same {ρ:Env}:∀(x:V) (cs:List Value),x.repC w ρ cs->x.repC w2 ρ cs
 | .d x,cs,h=>by simp only[V.repC]at h⊢; exact D.rep_same s x cs h
 | .ptr _ _,cs,h=>by simpa only[V.repC]using h
 | .sl _ _,cs,h=>by simpa only[V.repC]using h
 | .sd _ _,cs,h=>by simpa only[V.repC]using h
 | .mp _,cs,h=>by simpa only[V.repC]using h
 | .hd _ _,cs,h=>by simpa only[V.repC]using h
 | .ep _ _ _ _ _ _,cs,h=>by simpa only[V.repC]using h
 | .bs _ _ _ _,cs,h=>by simpa only[V.repC]using h
 | .fn f fi ca,cs,h=>by
  simp only[V.repC]at h⊢
  obtain⟨fs,gs,e,h1,h2⟩:=h
  exact⟨fs,gs,e,V.reps_same fi fs h1,V.reps_same ca gs h2⟩
 | .agg xs,cs,h=>by simp only[V.repC]at h⊢; exact V.repCs_same xs cs h
 | .iface ty x,cs,h=>by
  simp only[V.repC]at h⊢
  obtain⟨u,e,h1⟩:=h
  refine⟨u,e,?_⟩
  rcases h1 with h1 | ⟨p,ds,q,r⟩ | ⟨p,r⟩
  ·exact .inl h1
  ·exact .inr (.inl ⟨p,ds,q,V.repC_same x ds r⟩)
  ·exact .inr (.inr ⟨p,V.repC_same x _ r⟩)
 | .tup xs,cs,h=>by
  simp only[V.repC]at h⊢
  obtain⟨vs,e,h1⟩:=h
  exact⟨vs,e,V.reps_same xs vs h1⟩
 | .undef,cs,h=>by simpa only[V.repC]using h
 | .any,cs,h=>by simpa only[V.repC]using h
theorem V.repCs_same {ρ:Env}:∀(xs:List V) (cs:List Value),V.repCs w ρ xs cs->V.repCs w2 ρ xs cs
 | [],cs,h=>by simpa only[V.repCs]using h
 | x::r,cs,h=>by
  simp only[V.repCs]at h⊢
  obtain⟨c1,c2,e,h1,h2⟩:=h
  exact⟨c1,c2,e,V.repC_same x c1 h1,V.repCs_same r c2 h2⟩
theorem V.reps_same {ρ:Env}:∀(xs:List V) (vs:List Value),V.reps w ρ xs vs->V.reps w2 ρ xs vs
 | [],vs,h=>by simpa only[V.reps]using h
 | x::r,vs,h=>by
  simp only[V.reps]at h⊢
  obtain⟨u,us,e,h1,h2⟩:=h
  refine⟨u,us,e,?_,V.reps_same r us h2⟩
  rcases h1 with h1 | ⟨p,ds,q,r⟩ | ⟨p,r⟩
  ·exact .inl h1
  ·exact .inr (.inl ⟨p,ds,q,V.repC_same x ds r⟩)
  ·exact .inr (.inr ⟨p,V.repC_same x _ r⟩)
end
theorem V.rep_same {ρ:Env}{x:V}{u:Value}(h:x.rep w ρ u):x.rep w2 ρ u:=by
 rcases h with h1 | ⟨p,ds,q,r⟩ | ⟨p,r⟩
 ·exact .inl h1
 ·exact .inr (.inl ⟨p,ds,q,V.repC_same s x ds r⟩)
 ·exact .inr (.inr ⟨p,V.repC_same s x _ r⟩)
theorem X3.same {ρ:Env}:∀(l:List (D×V)) (es:List MapEntry),X3 w ρ l es->X3 w2 ρ l es
 | [],es,h=>h
 | (k,v)::r,es,h=>by
  obtain⟨e,es',h1,h2,h3,h4⟩:=h
  exact⟨e,es',h1,h2,V.rep_same s h3,X3.same r es' h4⟩
theorem V0.same {ρ:Env}{id:Nat}{x:Ob}(h:V0 w ρ id x):V0 w2 ρ id x:=by
 cases x with
 | box E t=>
  obtain⟨b,cs,h2,h3,h4⟩:=h
  exact⟨b,cs,h2,s.keep h3 (by simp),V.repC_same s _ _ h4⟩
 | arr E sz xs=>
  rcases h with h1 | ⟨b,cap,cs,sp,h2,h3,h4,h5⟩
  ·exact .inl h1
  ·exact .inr ⟨b,cap,cs,sp,h2,s.keep h3 (by simp),D.repL_same s _ _ h4,h5⟩
 | vec E sz xs=>
  rcases h with h1 | ⟨b,cap,cs,sp,h2,h3,h4,h5⟩
  ·exact .inl h1
  ·exact .inr ⟨b,cap,cs,sp,h2,s.keep h3 (by simp),V.repCs_same s _ _ h4,h5⟩
 | map es=>
  obtain⟨b,l,clk,h2,h3,h4,h5⟩:=h
  exact⟨b,l,clk,h2,s.keep h3 (by simp),X3.same s _ _ h4,h5⟩
 | lp tag st sl=>
  obtain⟨b,fn,tm,dd,ps,ca,cb,h2,h3,h4,h5⟩:=h
  exact⟨b,fn,tm,dd,ps,ca,cb,h2,s.keep h3 (by simp),h4,fun p hp=>V.rep_same s (h5 p hp)⟩
 | it m n seen=>
  cases m with
  | none=>obtain⟨b,h2,h3⟩:=h; exact⟨b,h2,s.keep h3 (by simp)⟩
  | some j=>obtain⟨b,mb,h2,h4,h3⟩:=h; exact⟨b,mb,h2,h4,s.keep h3 (by simp)⟩
 | gone=>exact h
theorem OM.same {ρ:Env}{ob:Xa}(h:OM w ρ ob)(hg:∀b o,ρ.gl b=some o->w2.heap[b]? = w.heap[b]?):OM w2 ρ ob:=
 ⟨fun id x hx=>V0.same s (h.one id x hx),h.dom,h.inj,fun b hb=>by rw[s.size]; exact h.xlt b hb,fun b o hb=>⟨(hg b o hb).trans (h.glb b o hb).1,(h.glb b o hb).2⟩,h.xdis,h.once⟩
theorem SM.same {ρ:Env}{sl:Xf}{a:Act}(h:SM w ρ sl a):SM w2 ρ sl a:=fun k=>V.rep_same s (h k)
end

theorem X45 {P:Program}{w:World}{r:Nat}(h:w.heap[r]? = some (.deferred (some []))) :
  (Instr.takeDeferred r).run P w=.ok [] (Jy w r (.deferred none))/\Same w (Jy w r (.deferred none))/\∀b,b ≠ r->(Jy w r (.deferred none)).heap[b]? = w.heap[b]?:=by
 have hget:(getObj r).run P w=.ok (.deferred (some [])) w:=by simp[getObj,Sem.run,h]
 have hset:=Ut (P:=P) (o:=.deferred none) w h rfl
 refine⟨by simp only[Instr.takeDeferred,Sem.run_bind,hget,Result.andThen_ok,hset,Sem.run_pure],⟨Ww ..,fun b=>?_,rfl,rfl,rfl,rfl⟩,fun b hb=>Zb w _ (Ne.symm hb)⟩
 by_cases e:b=r
 ·subst e; exact .inr ⟨_,_,h,Ju w _ (Xj h)⟩
 ·exact .inl (Zb w _ (Ne.symm e))

theorem W3 {F:Fence}{n:Nat}{P:Program}{fn:Func}{tmps:Array Value}{R:Ending->World->Prop}:∀(ms:List Nat) (w:World),ms.Nodup->(∀r∈ms,w.heap[r]? = some (.deferred (some [])))->
  (∀w2,Same w w2->(∀b,b∉ms->w2.heap[b]? = w.heap[b]?)->∃v,(results fn tmps).run P w2=.ok v w2/\R (.returned v) w2)->LeavesInM F n P fn tmps R (ms.map mkD) .returning w
 | [],w,_,_,h=>by
  simp only[List.map_nil,LeavesInM,LeavesIn]
  exact h w (Same.refl w) (fun _ _=>rfl)
 | r::ms,w,hn,hm,h=>by
  obtain⟨h1,h2,h3⟩:=X45 (P:=P) (hm r (by simp))
  obtain⟨hr,hn'⟩:=List.nodup_cons.1 hn
  simp only[List.map_cons,LeavesInM]
  refine⟨by simp,.inl ⟨r,_,rfl,h1,W3 ms _ hn' (fun j hj=>?_) (fun w2 s hs=>?_)⟩⟩
  ·rw[h3 j (fun e=>hr (e▸hj))]; exact hm j (by simp[hj])
  ·exact h w2 (h2.trans s) (fun b hb=>(hs b (fun e=>hb (by simp[e]))).trans (h3 b (fun e=>hb (by simp[e]))))
end Go.Ab
