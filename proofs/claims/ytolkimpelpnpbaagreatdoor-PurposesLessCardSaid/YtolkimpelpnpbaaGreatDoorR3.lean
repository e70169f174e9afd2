/- Texts of this claim joined by a program, part 3 of 16; the last is: Regions that draw their order: which operations may be taken first. Over any program; no condition. -/
import Derived.Test.YtolkimpelpnpbaaGreatDoorR2
set_option linter.unusedSimpArgs false
set_option linter.unusedVariables false
set_option linter.unusedSectionVars false
set_option linter.defProp false
namespace Go.Ab
open Go
section
variable {P:Program} {a:Act} {w:World} {ρ:Env} {sl:Xf} {ob:Xb} {K Pn:V->Xb->Prop}

theorem Yf {id:Nat}{o:RO}:(ρ.ins id o).m id=some o:=by simp[Env.ins]

theorem Xhy (n:Nat):∀(r c:Nat),c<=2*n+192->Builtin.growBy n r c<=2*n+192
 | 0,c,h=>by simpa[Builtin.growBy]using h
 | r+1,c,h=>by
  simp only[Builtin.growBy]
  split
  ·exact h
  ·exact Xhy n r _ (by omega)

theorem Xp7 {need cap:Nat}(h:cap<need):Builtin.nextslicecap need cap<=2*need+192:=by
 unfold Builtin.nextslicecap
 split
 ·omega
 ·split
  ·omega
  ·exact Xhy need 4 cap (by omega)

theorem Xxo {sz:Nat}{v:V}{x:Value}{K:List D->Prop}(hv:v.rep w ρ x)(h:Xxn sz K v) :
  ∃ys vs,K ys/\D.repL w (own ρ) ys vs/\(∀y∈ys,y.sz=sz)/\(∀w',(Builtin.lenOf x).run P w'=.ok ys.length w')/\∀w',w'.heap=w.heap->(Builtin.firstCells sz ys.length x).run P w'=.ok vs.toArray w':=by
 unfold Xxn at h
 split at h
 ·rename_i z ys
  obtain⟨rfl,h⟩:=h
  rw[Yj]at hv
  rcases hv with⟨rfl,rfl⟩ | ⟨ad,cap,vs,rfl,hcap,hce,hre,hu⟩
  ·exact⟨[],[],h,by simp[D.repL],by simp,fun w'=>by simp[Builtin.lenOf],fun w' _=>by simp[Builtin.firstCells]⟩
  ·refine⟨ys,vs,h,hre,hu,fun w'=>by simp[Builtin.lenOf],fun w' hw=>?_⟩
   have hl:vs.length=ys.length*z:=by rw[D.repL_len _ _ hre,D.szs_uniform _ hu]
   simp only[Builtin.firstCells,<-hl]
   exact run_loadCells_list w' ad vs (fun j u hj=>by
    obtain⟨hj',e⟩:=List.getElem?_eq_some_iff.1 hj
    have hne:vs ≠ []:=by intro h; simp[h]at hj'
    rw[Addr.add_eq (hce.1 hne).1,cell?_congr (w:=w) (w':=w') (by rw[hw]),<-e]
    exact hce.2 j hj')
 ·rw[Z4]at hv
  subst hv
  exact⟨[],[],h,by simp[D.repL],by simp,fun w'=>by simp[Builtin.lenOf],fun w' _=>by simp[Builtin.firstCells]⟩
 ·exact h.elim

structure AppT (P:Program)(t t2 E sz B:Nat):Prop where
 u1:P.underlying t=some (.slice E)
 u2:(∃e,P.underlying t2=some (.slice e))\/P.underlying t2=some .string
 info:∃i z,P.info? E=some i/\i.size=sz/\i.bytes=B/\i.zero=some z/\z.cells.size=sz
 b0:B ≠ 0
 s0:sz ≠ 0

theorem Xmt {t t2 ty E sz B:Nat}(T:AppT P t t2 E sz B){base:Option Addr}{sLen sCap n:Nat}{x:Value}{cs vs:List Value}
  (hx:∀w',(Builtin.lenOf x).run P w'=.ok n w') (hf:∀w',w'.heap=w.heap->(Builtin.firstCells sz n x).run P w'=.ok vs.toArray w')
  (ho:∀w',w'.heap=w.heap->(Builtin.firstCells sz sLen (.slice base sLen sCap)).run P w'=.ok cs.toArray w') (hneed:sCap<sLen+n) (hB:(2*(sLen+n)+192)*B<=281474976710656) :
  ∃newCap rest,sLen+n<=newCap/\rest.length=(newCap-(sLen+n))*sz/\
   (Builtin.append_ #[t,t2] ty #[.slice base sLen sCap,x]).run P w=.ok (.slice (some ⟨w.heap.size,0,none⟩) (sLen+n) newCap) (Qk { w with drawn:=w.drawn+1 } (.cells ((cs++vs)++rest).toArray E)):=by
 obtain⟨i,z,hi,h1,h2,h3,h4⟩:=T.info
 have hsz:X7 P E=some sz:=by simp[X7,hi,h1]
 have hti:∀w',(typeInfo E).run P w'=.ok i w':=fun w'=>by simp[typeInfo,hi]
 have hzv:∀w',(zeroValue E).run P w'=.ok z w':=fun w'=>by simp[zeroValue,typeInfo,hi,h3]
 have hcap:=Xp7 hneed
 have hle:Builtin.nextslicecap (sLen+n) sCap*B<=281474976710656:=Nat.le_trans (Nat.mul_le_mul_right B hcap) hB
 have hq:(Question.appendCap (sLen+n) sCap E).forced=false:=rfl
 refine⟨(Question.appendCap (sLen+n) sCap E).cut (w.tape w.drawn (.appendCap (sLen+n) sCap E)),(Builtin.zeroCells z.cells ((Question.appendCap (sLen+n) sCap E).cut (w.tape w.drawn (.appendCap (sLen+n) sCap E))-(sLen+n))).toList,?_,?_,?_⟩
 ·simp[Question.cut]
 ·simp[Builtin.zeroCells,h4]
 ·generalize hc:(Question.appendCap (sLen+n) sCap E).cut (w.tape w.drawn (.appendCap (sLen+n) sCap E))=newCap
  unfold Builtin.append_
  have e0:(#[t,t2]:Array TypeId)[0]? = some t:=rfl
  have e1:(#[t,t2]:Array TypeId)[1]? = some t2:=rfl
  rcases T.u2 with⟨e2,u2⟩ | u2
  all_goals
   simp only[e0,e1,List.getElem?_toArray,List.getElem?_cons_zero,List.getElem?_cons_succ,Sem.run_bind,Xc T.u1,Xc u2,Result.andThen_ok,Xs hsz,Sem.run_pure,hx,Bool.false_eq_true,if_false,Bool.not_false,if_true]
   rw[if_neg (by omega)]
   have hb:¬(Builtin.nextslicecap (sLen+n) sCap*B > 2 ^ 48):=by omega
   simp only[hb,T.b0,or_self,and_false,if_false,Sem.run_bind,run_choose,hq,Bool.false_eq_true,hc,Result.andThen_ok,run_askRoom,hti,h2,ho { w with drawn:=w.drawn+1 } rfl,hf { w with drawn:=w.drawn+1 } rfl,hzv,newRow,run_newObj,Sem.run_pure]
   have e3:(cs.toArray++vs.toArray)++Builtin.zeroCells z.cells (newCap-(sLen+n))=((cs++vs)++(Builtin.zeroCells z.cells (newCap-(sLen+n))).toList).toArray:=by apply Array.ext'; simp
   rw[e3]
   rfl

theorem Xmv {t t2 ty E sz B:Nat}(T:AppT P t t2 E sz B){b sLen sCap n:Nat}{x:Value}{cs sp vs:List Value}
  (hx:∀w',(Builtin.lenOf x).run P w'=.ok n w') (hf:∀w',w'.heap=w.heap->(Builtin.firstCells sz n x).run P w'=.ok vs.toArray w')
  (hb:w.heap[b]? = some (.cells (List.toArray (cs++sp)) E (0,0))) (hcs:cs.length=sLen*sz) (hvs:vs.length=n*sz) (hlen:(cs++sp).length=sCap*sz) (hone:∀v∈vs,v.oneCell'=true) (hneed:sLen+n<=sCap) :
  (Builtin.append_ #[t,t2] ty #[.slice (some ⟨b,0,none⟩) sLen sCap,x]).run P w=.ok (.slice (some ⟨b,0,none⟩) (sLen+n) sCap) (w.setRow b ((cs++vs)++sp.drop vs.length).toArray):=by
 obtain⟨i,z,hi,h1,h2,h3,h4⟩:=T.info
 have hsz:X7 P E=some sz:=by simp[X7,hi,h1]
 unfold Builtin.append_
 have e0:(#[t,t2]:Array TypeId)[0]? = some t:=rfl
 have e1:(#[t,t2]:Array TypeId)[1]? = some t2:=rfl
 have hsum:sLen*sz+n*sz<=sCap*sz:=by rw[<-Nat.add_mul]; exact Nat.mul_le_mul_right sz hneed
 have hrun:=run_storeCells_at (P:=P) b (sLen*sz) E vs 0 (cs++sp).toArray w hb (by rw[hvs,List.size_toArray,hlen]; omega) hone
 have hadd:(⟨b,0,none⟩:Addr).add (sLen*sz)=⟨b,sLen*sz,none⟩:=by rw[Addr.add_eq rfl]; simp
 rcases T.u2 with⟨e2,u2⟩ | u2
 all_goals
  simp only[e0,e1,List.getElem?_toArray,List.getElem?_cons_zero,List.getElem?_cons_succ,Sem.run_bind,Xc T.u1,Xc u2,Result.andThen_ok,Xs hsz,Sem.run_pure,hx,Bool.false_eq_true,if_false,Bool.not_false,if_true]
  rw[if_pos hneed]
  simp only[Sem.run_bind,hf w rfl,Result.andThen_ok,hadd,hrun,Sem.run_pure]
  congr 3
  rw[Nat.add_zero,<-hcs]
  simp[List.drop_append]

theorem Xmu {t t2 ty E sz B:Nat}(T:AppT P t t2 E sz B){x:Value}
  (hx:∀w',(Builtin.lenOf x).run P w'=.ok 0 w') (hf:∀w',w'.heap=w.heap->(Builtin.firstCells sz 0 x).run P w'=.ok #[] w') :
  (Builtin.append_ #[t,t2] ty #[.slice none 0 0,x]).run P w=.ok (.slice none 0 0) w:=by
 obtain⟨i,z,hi,h1,h2,h3,h4⟩:=T.info
 have hsz:X7 P E=some sz:=by simp[X7,hi,h1]
 unfold Builtin.append_
 rcases T.u2 with⟨e2,u2⟩ | u2<;>simp[Xc T.u1,Xc u2,Xs hsz,hx,hf w rfl]

theorem Xms {t t2 ty E sz B:Nat}(T:AppT P t t2 E sz B)(hO:OM w ρ ob){id:Nat}{xs ys:List D}{s x:Value}{vs:List Value}(hl:Xe ob id=some (.arr E sz xs))
  (hs:(V.sl id xs.length).rep w ρ s) (hre:D.repL w (own ρ) ys vs) (hu:∀y∈ys,y.sz=sz)
  (hx:∀w',(Builtin.lenOf x).run P w'=.ok ys.length w') (hf:∀w',w'.heap=w.heap->(Builtin.firstCells sz ys.length x).run P w'=.ok vs.toArray w')
  (hB:(2*(xs.length+ys.length)+192)*B<=281474976710656) :
  ∃v w' ρ',(Builtin.append_ #[t,t2] ty #[s,x]).run P w=.ok v w'/\Tr w ρ w' ρ'/\OM w' ρ' (setO ob id (.arr E sz (xs++ys)))/\(V.sl id (xs.length+ys.length)).rep w' ρ' v:=by
 rw[Yg]at hs
 obtain⟨o,hρ,hs⟩:=hs
 have h1:=hO.one id _ hl
 have hvl:vs.length=ys.length*sz:=by rw[D.repL_len _ _ hre,D.szs_uniform _ hu]
 -- a new row,from whatever was there
 have grow:∀(base:Option Addr) (sCap:Nat) (cs:List Value),s=.slice base xs.length sCap->D.repL w (own ρ) xs cs->(∀y∈xs,y.sz=sz)->
   (∀w',w'.heap=w.heap->(Builtin.firstCells sz xs.length (.slice base xs.length sCap)).run P w'=.ok cs.toArray w')->sCap<xs.length+ys.length->
   (o=.virt/\xs.length=0\/∃b c,o=.arr b xs.length c)->xs.length<=sCap->
   ∃v w' ρ',(Builtin.append_ #[t,t2] ty #[s,x]).run P w=.ok v w'/\Tr w ρ w' ρ'/\OM w' ρ' (setO ob id (.arr E sz (xs++ys)))/\(V.sl id (xs.length+ys.length)).rep w' ρ' v:=by
  intro base sCap cs es hxs hux hold hneed ho hlc
  subst es
  obtain⟨newCap,rest,g1,g2,g3⟩:=Xmt (ty:=ty) T hx hf hold hneed hB
  have he:Ext w (Qk { w with drawn:=w.drawn+1 } (.cells ((cs++vs)++rest).toArray E)):=(Ext.drew w _).trans (Y3 _ _)
  have t1:Tr w ρ (Qk { w with drawn:=w.drawn+1 } (.cells ((cs++vs)++rest).toArray E)) (ρ.ins id (.arr w.heap.size (xs.length+ys.length) newCap)):=by
   refine⟨he.size,fun b _ h=>he.keep b h,fun b h=>?_,rfl,rfl,fun j p hp=>?_,he.tape,he.os,he.out,he.drawn⟩
   ·obtain⟨j,p,q1,q2⟩:=h
    simp only[Env.ins]at q1
    split at q1
    ·simp at q1; subst q1; simp[RO.blk?]at q2; exact .inr (by omega)
    ·exact .inl ⟨j,p,q1,q2⟩
   ·by_cases ej:j=id
    ·subst ej
     refine⟨_,Yf,.grow (n:=xs.length) (by omega) ?_⟩
     rw[hρ]at hp; simp at hp; subst hp
     exact ho
    ·exact⟨p,by simp[Env.ins,ej,hp],.refl p⟩
  refine⟨_,_,_,g3,t1,Qu hO hl t1 (.inr ⟨w.heap.size,newCap,cs++vs,rest,by simp[Env.ins],Y9 _ _,D.repL_append (D.repL_mono t1.mono _ _ hxs) (D.repL_mono t1.mono _ _ hre),?_,?_⟩) (fun b hb=>?_) (fun j p b hj h2 h3=>he.keep b (Wc hO h2 h3)),?_⟩
  ·intro y hy
   rcases List.mem_append.1 hy with hy | hy
   ·exact hux y hy
   ·exact hu y hy
  ·have hcl:cs.length=xs.length*sz:=by rw[D.repL_len _ _ hxs,D.szs_uniform _ hux]
   rw[List.length_append,List.length_append,g2,hcl,hvl,<-Nat.add_mul,<-Nat.add_mul]
   congr 1; omega
  ·simp[RO.blk?]at hb; exact .inl (by omega)
  ·rw[Yg]
   refine⟨_,Yf,?_⟩
   exact⟨Nat.le_refl _,⟨_,_,_,rfl⟩,fun _=>rfl⟩
 rcases h1 with⟨h1,rfl⟩ | ⟨b,cap,cs,sp,h1,h2,h3,h4,h5⟩
 ·-- nothing yet
  rw[hρ]at h1; simp at h1; subst h1
  simp only[RO.slice]at hs
  obtain⟨_,rfl⟩:=hs
  by_cases hy:ys=[]
  ·subst hy
   have hv0:vs=[]:=by simpa using hvl
   subst hv0
   refine⟨_,w,ρ,Xmu T hx (fun w' hw=>hf w' hw),Tr.refl _ _,?_,?_⟩
   ·refine⟨fun j y hy=>?_,fun j p hp=>?_,hO.inj,hO.xlt,hO.glb,hO.xdis,hO.once.set⟩
    ·rw[Xr ob id j ⟨_,hl⟩]at hy
     split at hy
     ·rename_i e; subst e; simp at hy; subst hy; exact .inl ⟨hρ,rfl⟩
     ·exact hO.one j y hy
    ·rw[Xr ob id j ⟨_,hl⟩]
     split
     ·exact⟨_,rfl⟩
     ·exact hO.dom j p hp
   ·rw[Yg]; exact⟨_,hρ,rfl,rfl⟩
  ·refine grow none 0 [] rfl (by simp[D.repL]) (by simp) (fun w' _=>by simp[Builtin.firstCells]) ?_ (.inl ⟨rfl,rfl⟩) (Nat.le_refl _)
   cases ys with
   | nil=>exact absurd rfl hy
   | cons y r=>simp
 ·rw[hρ]at h1; simp at h1; subst h1
  obtain⟨_,_,hs⟩:=hs
  have hs:=hs rfl
  have hcl:cs.length=xs.length*sz:=by rw[D.repL_len _ _ h3,D.szs_uniform _ h4]
  have hlc:xs.length<=cap:=by
   have:xs.length*sz<=cap*sz:=by rw[<-h5,<-hcl]; simp
   exact Nat.le_of_mul_le_mul_right this (Nat.pos_of_ne_zero T.s0)
  by_cases hroom:xs.length+ys.length<=cap
  ·subst hs
   have hrun:=Xmv (ty:=ty) T hx hf h2 hcl hvl h5 (D.ones ys vs hre) hroom
   have t1:Tr w ρ (w.setRow b ((cs++vs)++sp.drop vs.length).toArray) (ρ.ins id (.arr b (xs.length+ys.length) cap)):=by
    refine⟨by simp,fun j hj _=>setRow_other w b j _ (fun e=>hj ?_),fun j h=>?_,rfl,rfl,fun j p hp=>?_,rfl,rfl,rfl,Nat.le_refl _⟩
    ·subst e; exact⟨id,_,hρ,rfl⟩
    ·obtain⟨k,p,q1,q2⟩:=h
     simp only[Env.ins]at q1
     split at q1
     ·simp at q1; subst q1; simp[RO.blk?]at q2; subst q2; exact .inl ⟨id,_,hρ,rfl⟩
     ·exact .inl ⟨k,p,q1,q2⟩
    ·by_cases ej:j=id
     ·subst ej
      rw[hρ]at hp; simp at hp; subst hp
      refine⟨_,Yf,?_⟩
      cases ys with
      | nil=>exact .refl _
      | cons y r=>exact .grow (n:=xs.length) (by simp) (.inr ⟨_,_,rfl⟩)
     ·exact⟨p,by simp[Env.ins,ej,hp],.refl p⟩
   refine⟨_,_,_,hrun,t1,Qu hO hl t1 (.inr ⟨b,cap,cs++vs,sp.drop vs.length,by simp[Env.ins],setRow_heap w b _ _ E _ h2,D.repL_append (D.repL_mono t1.mono _ _ h3) (D.repL_mono t1.mono _ _ hre),?_,?_⟩) (fun b' hb=>?_) (fun j p b' hj q1 q2=>setRow_other w b b' _ (fun e=>hj ?_)),?_⟩
   ·intro y hy
    rcases List.mem_append.1 hy with hy | hy
    ·exact h4 y hy
    ·exact hu y hy
   ·have hsum:xs.length*sz+ys.length*sz<=cap*sz:=by rw[<-Nat.add_mul]; exact Nat.mul_le_mul_right sz hroom
    simp only[List.length_append,List.length_drop]at h5⊢
    omega
   ·simp[RO.blk?]at hb; subst hb; exact .inr ⟨_,hρ,rfl⟩
   ·subst e; exact hO.inj j id _ _ _ q1 hρ q2 rfl
   ·rw[Yg]
    refine⟨_,Yf,?_⟩
    exact⟨Nat.le_refl _,⟨_,_,_,rfl⟩,fun _=>rfl⟩
  ·refine grow (some ⟨b,0,none⟩) cap cs hs h3 h4 (fun w' hw=>?_) (by omega) (.inr ⟨_,_,rfl⟩) hlc
   simp only[Builtin.firstCells,<-hcl]
   exact run_loadCells_list w' _ cs (fun j u hj=>by
    obtain⟨hj',e⟩:=List.getElem?_eq_some_iff.1 hj
    rw[Addr.add_eq rfl,cell?_congr (w:=w) (w':=w') (by rw[hw])]
    simp[World.cell?,h2,List.getElem?_append,hj',e])

theorem Xbk {t t2 ty E sz B:Nat}(T:AppT P t t2 E sz B)(hO:OM w ρ ob){id:Nat}{xs ys:List V}{s x:Value}{vs:List Value}(hl:Xe ob id=some (.vec E sz xs))
  (hs:(V.sl id xs.length).rep w ρ s) (hst:V.stos ys=true) (hre:V.repCs w ρ ys vs) (hu:∀y∈ys,y.size=sz)
  (hx:∀w',(Builtin.lenOf x).run P w'=.ok ys.length w') (hf:∀w',w'.heap=w.heap->(Builtin.firstCells sz ys.length x).run P w'=.ok vs.toArray w')
  (hB:(2*(xs.length+ys.length)+192)*B<=281474976710656) :
  ∃v w' ρ',(Builtin.append_ #[t,t2] ty #[s,x]).run P w=.ok v w'/\Tr w ρ w' ρ'/\OM w' ρ' (setO ob id (.vec E sz (xs++ys)))/\(V.sl id (xs.length+ys.length)).rep w' ρ' v:=by
 rw[Yg]at hs
 obtain⟨o,hρ,hs⟩:=hs
 have h1:=hO.one id _ hl
 have hvl:vs.length=ys.length*sz:=by rw[V.repCs_len _ _ hre,V.shapes_eq,X8 _ hu]
 -- a new row,from whatever was there
 have grow:∀(base:Option Addr) (sCap:Nat) (cs:List Value),s=.slice base xs.length sCap->V.repCs w ρ xs cs->(∀y∈xs,y.size=sz)->
   (∀w',w'.heap=w.heap->(Builtin.firstCells sz xs.length (.slice base xs.length sCap)).run P w'=.ok cs.toArray w')->sCap<xs.length+ys.length->
   (o=.virt/\xs.length=0\/∃b c,o=.arr b xs.length c)->xs.length<=sCap->
   ∃v w' ρ',(Builtin.append_ #[t,t2] ty #[s,x]).run P w=.ok v w'/\Tr w ρ w' ρ'/\OM w' ρ' (setO ob id (.vec E sz (xs++ys)))/\(V.sl id (xs.length+ys.length)).rep w' ρ' v:=by
  intro base sCap cs es hxs hux hold hneed ho hlc
  subst es
  obtain⟨newCap,rest,g1,g2,g3⟩:=Xmt (ty:=ty) T hx hf hold hneed hB
  have he:Ext w (Qk { w with drawn:=w.drawn+1 } (.cells ((cs++vs)++rest).toArray E)):=(Ext.drew w _).trans (Y3 _ _)
  have t1:Tr w ρ (Qk { w with drawn:=w.drawn+1 } (.cells ((cs++vs)++rest).toArray E)) (ρ.ins id (.arr w.heap.size (xs.length+ys.length) newCap)):=by
   refine⟨he.size,fun b _ h=>he.keep b h,fun b h=>?_,rfl,rfl,fun j p hp=>?_,he.tape,he.os,he.out,he.drawn⟩
   ·obtain⟨j,p,q1,q2⟩:=h
    simp only[Env.ins]at q1
    split at q1
    ·simp at q1; subst q1; simp[RO.blk?]at q2; exact .inr (by omega)
    ·exact .inl ⟨j,p,q1,q2⟩
   ·by_cases ej:j=id
    ·subst ej
     refine⟨_,Yf,.grow (n:=xs.length) (by omega) ?_⟩
     rw[hρ]at hp; simp at hp; subst hp
     exact ho
    ·exact⟨p,by simp[Env.ins,ej,hp],.refl p⟩
  refine⟨_,_,_,g3,t1,Qu hO hl t1 (.inr ⟨w.heap.size,newCap,cs++vs,rest,by simp[Env.ins],Y9 _ _,V.repCs_append (V.repCs_tr t1 _ _ hxs) (V.repCs_tr t1 _ _ hre),?_,?_⟩) (fun b hb=>?_) (fun j p b hj h2 h3=>he.keep b (Wc hO h2 h3)),?_⟩
  ·intro y hy
   rcases List.mem_append.1 hy with hy | hy
   ·exact hux y hy
   ·exact hu y hy
  ·have hcl:cs.length=xs.length*sz:=by rw[V.repCs_len _ _ hxs,V.shapes_eq,X8 _ hux]
   rw[List.length_append,List.length_append,g2,hcl,hvl,<-Nat.add_mul,<-Nat.add_mul]
   congr 1; omega
  ·simp[RO.blk?]at hb; exact .inl (by omega)
  ·rw[Yg]
   refine⟨_,Yf,?_⟩
   exact⟨Nat.le_refl _,⟨_,_,_,rfl⟩,fun _=>rfl⟩
 rcases h1 with⟨h1,rfl⟩ | ⟨b,cap,cs,sp,h1,h2,h3,h4,h5⟩
 ·-- nothing yet
  rw[hρ]at h1; simp at h1; subst h1
  simp only[RO.slice]at hs
  obtain⟨_,rfl⟩:=hs
  by_cases hy:ys=[]
  ·subst hy
   have hv0:vs=[]:=by simpa using hvl
   subst hv0
   refine⟨_,w,ρ,Xmu T hx (fun w' hw=>hf w' hw),Tr.refl _ _,?_,?_⟩
   ·refine⟨fun j y hy=>?_,fun j p hp=>?_,hO.inj,hO.xlt,hO.glb,hO.xdis,hO.once.set⟩
    ·rw[Xr ob id j ⟨_,hl⟩]at hy
     split at hy
     ·rename_i e; subst e; simp at hy; subst hy; exact .inl ⟨hρ,rfl⟩
     ·exact hO.one j y hy
    ·rw[Xr ob id j ⟨_,hl⟩]
     split
     ·exact⟨_,rfl⟩
     ·exact hO.dom j p hp
   ·rw[Yg]; exact⟨_,hρ,rfl,rfl⟩
  ·refine grow none 0 [] rfl (by simp[V.repCs]) (by simp) (fun w' _=>by simp[Builtin.firstCells]) ?_ (.inl ⟨rfl,rfl⟩) (Nat.le_refl _)
   cases ys with
   | nil=>exact absurd rfl hy
   | cons y r=>simp
 ·rw[hρ]at h1; simp at h1; subst h1
  obtain⟨_,_,hs⟩:=hs
  have hs:=hs rfl
  have hcl:cs.length=xs.length*sz:=by rw[V.repCs_len _ _ h3,V.shapes_eq,X8 _ h4]
  have hlc:xs.length<=cap:=by
   have:xs.length*sz<=cap*sz:=by rw[<-h5,<-hcl]; simp
   exact Nat.le_of_mul_le_mul_right this (Nat.pos_of_ne_zero T.s0)
  by_cases hroom:xs.length+ys.length<=cap
  ·subst hs
   have hrun:=Xmv (ty:=ty) T hx hf h2 hcl hvl h5 (V.onesV ys vs hst hre) hroom
   have t1:Tr w ρ (w.setRow b ((cs++vs)++sp.drop vs.length).toArray) (ρ.ins id (.arr b (xs.length+ys.length) cap)):=by
    refine⟨by simp,fun j hj _=>setRow_other w b j _ (fun e=>hj ?_),fun j h=>?_,rfl,rfl,fun j p hp=>?_,rfl,rfl,rfl,Nat.le_refl _⟩
    ·subst e; exact⟨id,_,hρ,rfl⟩
    ·obtain⟨k,p,q1,q2⟩:=h
     simp only[Env.ins]at q1
     split at q1
     ·simp at q1; subst q1; simp[RO.blk?]at q2; subst q2; exact .inl ⟨id,_,hρ,rfl⟩
     ·exact .inl ⟨k,p,q1,q2⟩
    ·by_cases ej:j=id
     ·subst ej
      rw[hρ]at hp; simp at hp; subst hp
      refine⟨_,Yf,?_⟩
      cases ys with
      | nil=>exact .refl _
      | cons y r=>exact .grow (n:=xs.length) (by simp) (.inr ⟨_,_,rfl⟩)
     ·exact⟨p,by simp[Env.ins,ej,hp],.refl p⟩
   refine⟨_,_,_,hrun,t1,Qu hO hl t1 (.inr ⟨b,cap,cs++vs,sp.drop vs.length,by simp[Env.ins],setRow_heap w b _ _ E _ h2,V.repCs_append (V.repCs_tr t1 _ _ h3) (V.repCs_tr t1 _ _ hre),?_,?_⟩) (fun b' hb=>?_) (fun j p b' hj q1 q2=>setRow_other w b b' _ (fun e=>hj ?_)),?_⟩
   ·intro y hy
    rcases List.mem_append.1 hy with hy | hy
    ·exact h4 y hy
    ·exact hu y hy
   ·have hsum:xs.length*sz+ys.length*sz<=cap*sz:=by rw[<-Nat.add_mul]; exact Nat.mul_le_mul_right sz hroom
    simp only[List.length_append,List.length_drop]at h5⊢
    omega
   ·simp[RO.blk?]at hb; subst hb; exact .inr ⟨_,hρ,rfl⟩
   ·subst e; exact hO.inj j id _ _ _ q1 hρ q2 rfl
   ·rw[Yg]
    refine⟨_,Yf,?_⟩
    exact⟨Nat.le_refl _,⟨_,_,_,rfl⟩,fun _=>rfl⟩
  ·refine grow (some ⟨b,0,none⟩) cap cs hs h3 h4 (fun w' hw=>?_) (by omega) (.inr ⟨_,_,rfl⟩) hlc
   simp only[Builtin.firstCells,<-hcl]
   exact run_loadCells_list w' _ cs (fun j u hj=>by
    obtain⟨hj',e⟩:=List.getElem?_eq_some_iff.1 hj
    rw[Addr.add_eq rfl,cell?_congr (w:=w) (w':=w') (by rw[hw])]
    simp[World.cell?,h2,List.getElem?_append,hj',e])

theorem Xsa {u v:Operand}{t t2 E sz B:Nat}{vx:V}{ys:List D}{vs:List Value}(T:AppT P t t2 E sz B)(r1:vx.rep w ρ (a.eval u))(hO:OM w ρ ob)(hK:Xc5 E sz B ob ys K vx)
  (hre:D.repL w (own ρ) ys vs) (hu:∀y∈ys,y.sz=sz) (hx:∀w',(Builtin.lenOf (a.eval v)).run P w'=.ok ys.length w')
  (hf:∀w',w'.heap=w.heap->(Builtin.firstCells sz ys.length (a.eval v)).run P w'=.ok vs.toArray w'):Vh P a w ρ (.call { callee:=.builtin .append,args:=#[u,v],argTypes:=#[t,t2] }) K Pn:=by
 have hrun:∀(w':World) (val:Value) (o:Oper),o.op=.call { callee:=.builtin .append,args:=#[u,v],argTypes:=#[t,t2] }->(Builtin.append_ #[t,t2] o.type #[a.eval u,a.eval v]).run P w=.ok val w'->(execOp a.eval o).run P w=.ok (.value val) w':=by
  intro w' val o ho hr
  simp only[execOp,ho,resolve,invoke,builtin,Sem.run_bind,Sem.run_pure,Result.andThen_ok,List.map_toArray,List.map_cons,List.map_nil,hr]
 unfold Xc5 at hK
 split at hK
 ·rename_i id n
  unfold Xc6 at hK
  split at hK
  ·rename_i E' sz' xs hl
   obtain⟨rfl,rfl,rfl,hB,hK⟩:=hK
   intro o ho next Q hn _
   obtain⟨val,w',ρ',g1,g2,g3,g4⟩:=Xms (ty:=o.type) T hO hl r1 hre hu hx hf hB
   unfold wpA
   rw[hrun w' val o ho g1]
   exact hn val _ _ w' ρ' hK g4 g3 g2
  ·exact hK.elim
 ·obtain⟨hB,hK⟩:=hK
  have hl:=X0 ob
  rw[Z4]at r1
  have hbl:∀b,RO.virt.blk? = some b->w.heap.size<=b:=fun b hb=>by simp[RO.blk?]at hb
  have t1:=Wu w (Ext.refl w) (o:=.virt) (hO.free hl) hbl
  have o1:OM w (ρ.ins (Xa ob) .virt) ((Xa ob,.arr E sz [])::ob):=hO.ins (Ext.refl w) hl hbl (.inl ⟨Yf,rfl⟩)
  have q1:(V.sl (Xa ob) ([]:List D).length).rep w (ρ.ins (Xa ob) .virt) (a.eval u):=by
   rw[Yg]; exact⟨_,Yf,rfl,r1⟩
  intro o ho next Q hn _
  obtain⟨val,w',ρ',g1,g2,g3,g4⟩:=Xms (ty:=o.type) (ys:=ys) T o1 (by simp[Xe]) q1 (D.repL_mono t1.mono _ _ hre) hu hx hf (by simpa using hB)
  unfold wpA
  rw[hrun w' val o ho g1]
  simp only[setO,if_true,List.nil_append,List.length_nil,Nat.zero_add]at g3 g4
  exact hn val _ _ w' ρ' hK g4 g3 (t1.trans g2)
 ·exact hK.elim

theorem Xzd (hs:SM w ρ sl a)(hO:OM w ρ ob){op:Op}{E sz B:Nat}{x y:A}(hc:I.chk P op (.app E sz B x y)=true)
  (h:Xxn sz (fun ys=>Xc5 E sz B ob ys K (x.ev sl)) (y.ev sl)):Vh P a w ρ op K Pn:=by
 cases op<;>simp only[I.chk,Bool.false_eq_true]at hc
 rename_i c
 obtain⟨ca,args,ts⟩:=c
 cases ca<;>(try simp only[Bool.false_eq_true]at hc)
 rename_i b
 cases b<;>(try simp only[Bool.false_eq_true]at hc)
 split at hc
 ·rename_i u v t t2 e1 e2
  simp only[Bool.and_eq_true]at hc
  obtain⟨⟨⟨⟨h0,h1⟩,h2⟩,h3⟩,h4⟩:=hc
  have ea:args=#[u,v]:=by simpa using congrArg List.toArray e1
  have et:ts=#[t,t2]:=by simpa using congrArg List.toArray e2
  subst ea et
  have T:AppT P t t2 E sz B:=by
   cases hi:P.info? E with
   | none=>simp[hi]at h1
   | some i=>
    simp only[hi,Bool.and_eq_true,beq_iff_eq,bne_iff_ne,ne_eq]at h1
    obtain⟨⟨⟨⟨⟨g1,g2⟩,g3⟩,g4⟩,g5⟩,g6⟩:=h1
    obtain⟨z,hz⟩:=Option.isSome_iff_exists.1 g5
    rw[hz]at g6
    simp at g6
    refine⟨?_,?_,⟨i,z,hi,g1,g2,hz,g6⟩,by rw[<-g2]; exact g3,by rw[<-g1]; exact g4⟩
    ·revert h0; split<;>simp_all
    ·left; revert h2; split<;>simp_all
  have r1:=A.sound hs h3
  have r2:=A.sound hs h4
  obtain⟨ys,vs,hK,hre,hu,hx,hf⟩:=Xxo (P:=P) r2 h
  exact Xsa T r1 hO hK hre hu hx hf
 ·simp at hc

theorem Xsb {id E sz:Nat}{xs:List D}(h:Vu w ρ id (.arr E sz xs)):Vu w ρ id (.vec E sz (xs.map .d)):=by
 rcases h with⟨h1,rfl⟩ | ⟨b,cap,cs,sp,h1,h2,h3,h4,h5⟩
 ·exact .inl ⟨h1,rfl⟩
 ·refine .inr ⟨b,cap,cs,sp,by simpa using h1,h2,(V.repCs_d _ _).2 h3,fun x hx=>?_,h5⟩
  obtain⟨y,hy,rfl⟩:=List.mem_map.1 hx
  simp[V.size,V.shape,D.size_shape,h4 y hy]
theorem X2o {sz:Nat}{v:V}{x:Value}{K:List V->Prop}(hO:OM w ρ ob)(hv:v.rep w ρ x)(h:Yci sz K ob v) :
  ∃ys vs,K ys/\V.repCs w ρ ys vs/\V.stos ys=true/\(∀y∈ys,y.size=sz)/\(∀w',(Builtin.lenOf x).run P w'=.ok ys.length w')/\∀w',w'.heap=w.heap->(Builtin.firstCells sz ys.length x).run P w'=.ok vs.toArray w':=by
 have dat:∀{ys:List D} {vs:List Value},D.repL w (own ρ) ys vs->(∀y∈ys,y.sz=sz)->V.repCs w ρ (ys.map .d) vs/\V.stos (ys.map .d)=true/\∀y∈ys.map V.d,y.size=sz:=by
  intro ys vs h1 h2
  refine⟨(V.repCs_d _ _).2 h1,?_,fun y hy=>?_⟩
  ·clear h1 h2; induction ys with
   | nil=>rfl
   | cons y r ih=>simp[V.stos,V.sto,ih]
  ·obtain⟨z,hz,rfl⟩:=List.mem_map.1 hy
   simp[V.size,V.shape,D.size_shape,h2 z hz]
 have own:∀{id:Nat} {E:Nat} {ys:List V},Vu w ρ id (.vec E sz ys)->(V.sl id ys.length).rep w ρ x->V.stos ys=true->K ys->
   ∃ys vs,K ys/\V.repCs w ρ ys vs/\V.stos ys=true/\(∀y∈ys,y.size=sz)/\(∀w',(Builtin.lenOf x).run P w'=.ok ys.length w')/\∀w',w'.heap=w.heap->(Builtin.firstCells sz ys.length x).run P w'=.ok vs.toArray w':=by
  intro id E ys hm hv hst hK
  rw[Yg]at hv
  obtain⟨o,hρ,hv⟩:=hv
  rcases hm with⟨h1,rfl⟩ | ⟨b,cap,cs,sp,h1,h2,h3,h4,h5⟩
  ·rw[hρ]at h1; simp at h1; subst h1
   obtain⟨_,rfl⟩:=hv
   exact⟨[],[],hK,by simp[V.repCs],rfl,by simp,fun w'=>by simp[Builtin.lenOf],fun w' _=>by simp[Builtin.firstCells]⟩
  ·rw[hρ]at h1; simp at h1; subst h1
   have hx:=hv.2.2 rfl
   subst hx
   refine⟨ys,cs,hK,h3,hst,h4,fun w'=>by simp[Builtin.lenOf],fun w' hw=>?_⟩
   have hcl:cs.length=ys.length*sz:=by rw[V.repCs_len _ _ h3,V.shapes_eq,X8 _ h4]
   simp only[Builtin.firstCells,<-hcl]
   exact run_loadCells_list w' _ cs (fun j u hj=>by
    obtain⟨hj',e⟩:=List.getElem?_eq_some_iff.1 hj
    rw[Addr.add_eq rfl,cell?_congr (w:=w) (w':=w') (by rw[hw])]
    simp[World.cell?,h2,List.getElem?_append,hj',e])
 unfold Yci at h
 split at h
 ·rename_i z ys
  obtain⟨ys',vs,hK,hre,hu,hl,hf⟩:=Xxo (P:=P) (K:=fun ys=>K (ys.map .d)) hv (by simpa only[Xxn]using h)
  obtain⟨d1,d2,d3⟩:=dat hre hu
  exact⟨_,vs,hK,d1,d2,d3,fun w'=>by simpa using hl w',fun w' hw=>by simpa using hf w' hw⟩
 ·rw[Z4]at hv
  subst hv
  exact⟨[],[],h,by simp[V.repCs],rfl,by simp,fun w'=>by simp[Builtin.lenOf],fun w' _=>by simp[Builtin.firstCells]⟩
 ·rename_i id n
  rcases h with⟨E,ys,hl,rfl,hst,hK⟩ | ⟨E,ys,hl,rfl,hK⟩
  ·exact own (hO.one id _ hl) hv hst hK
  ·have hm:Vu w ρ id (.vec E sz (ys.map .d)):=Xsb (hO.one id _ hl)
   refine own hm (by simpa using hv) ?_ hK
   clear hm hl hv hK
   induction ys with
   | nil=>rfl
   | cons y r ih=>simp[V.stos,V.sto,ih]
 ·exact h.elim
theorem X5c {u v:Operand}{t t2 E sz B:Nat}{vx:V}{ys:List V}{vs:List Value}(T:AppT P t t2 E sz B)(r1:vx.rep w ρ (a.eval u))(hO:OM w ρ ob)(hK:Xq0 E sz B ob ys K vx)
  (hst:V.stos ys=true) (hre:V.repCs w ρ ys vs) (hu:∀y∈ys,y.size=sz) (hx:∀w',(Builtin.lenOf (a.eval v)).run P w'=.ok ys.length w')
  (hf:∀w',w'.heap=w.heap->(Builtin.firstCells sz ys.length (a.eval v)).run P w'=.ok vs.toArray w'):Vh P a w ρ (.call { callee:=.builtin .append,args:=#[u,v],argTypes:=#[t,t2] }) K Pn:=by
 have hrun:∀(w':World) (val:Value) (o:Oper),o.op=.call { callee:=.builtin .append,args:=#[u,v],argTypes:=#[t,t2] }->(Builtin.append_ #[t,t2] o.type #[a.eval u,a.eval v]).run P w=.ok val w'->(execOp a.eval o).run P w=.ok (.value val) w':=by
  intro w' val o ho hr
  simp only[execOp,ho,resolve,invoke,builtin,Sem.run_bind,Sem.run_pure,Result.andThen_ok,List.map_toArray,List.map_cons,List.map_nil,hr]
 unfold Xq0 at hK
 split at hK
 ·rename_i id n
  unfold Xpd at hK
  split at hK
  ·rename_i E' sz' xs hl
   obtain⟨rfl,rfl,rfl,hB,hK⟩:=hK
   intro o ho next Q hn _
   obtain⟨val,w',ρ',g1,g2,g3,g4⟩:=Xbk (ty:=o.type) T hO hl r1 hst hre hu hx hf hB
   unfold wpA
   rw[hrun w' val o ho g1]
   exact hn val _ _ w' ρ' hK g4 g3 g2
  ·rename_i E' sz' xs hl
   obtain⟨rfl,rfl,rfl,hB,hK⟩:=hK
   have o2:=hO.swap hl (Xsb (hO.one id _ hl))
   have hl2:Xe (setO ob id (.vec E' sz' (xs.map .d))) id=some (.vec E' sz' (xs.map .d)):=by rw[Xr ob id id ⟨_,hl⟩]; simp
   intro o ho next Q hn _
   obtain⟨val,w',ρ',g1,g2,g3,g4⟩:=Xbk (ty:=o.type) T o2 hl2 (by simpa using r1) hst hre hu hx hf (by simpa using hB)
   rw[Xcp]at g3
   rw[List.length_map]at g4
   unfold wpA
   rw[hrun w' val o ho g1]
   exact hn val _ _ w' ρ' hK g4 g3 g2
  ·exact hK.elim
 ·obtain⟨hB,hK⟩:=hK
  have hl:=X0 ob
  rw[Z4]at r1
  have hbl:∀b,RO.virt.blk? = some b->w.heap.size<=b:=fun b hb=>by simp[RO.blk?]at hb
  have t1:=Wu w (Ext.refl w) (o:=.virt) (hO.free hl) hbl
  have o1:OM w (ρ.ins (Xa ob) .virt) ((Xa ob,.vec E sz [])::ob):=hO.ins (Ext.refl w) hl hbl (.inl ⟨Yf,rfl⟩)
  have q1:(V.sl (Xa ob) ([]:List V).length).rep w (ρ.ins (Xa ob) .virt) (a.eval u):=by
   rw[Yg]; exact⟨_,Yf,rfl,r1⟩
  intro o ho next Q hn _
  obtain⟨val,w',ρ',g1,g2,g3,g4⟩:=Xbk (ty:=o.type) (ys:=ys) T o1 (by simp[Xe]) q1 hst (V.repCs_tr t1 _ _ hre) hu hx hf (by simpa using hB)
  unfold wpA
  rw[hrun w' val o ho g1]
  simp only[setO,if_true,List.nil_append,List.length_nil,Nat.zero_add]at g3 g4
  exact hn val _ _ w' ρ' hK g4 g3 (t1.trans g2)
 ·exact hK.elim

theorem Xze (hs:SM w ρ sl a)(hO:OM w ρ ob){op:Op}{E sz B:Nat}{x y:A}(hc:I.chk P op (.apv E sz B x y)=true)
  (h:Yci sz (fun ys=>Xq0 E sz B ob ys K (x.ev sl)) ob (y.ev sl)):Vh P a w ρ op K Pn:=by
 cases op<;>simp only[I.chk,Bool.false_eq_true]at hc
 rename_i c
 obtain⟨ca,args,ts⟩:=c
 cases ca<;>(try simp only[Bool.false_eq_true]at hc)
 rename_i b
 cases b<;>(try simp only[Bool.false_eq_true]at hc)
 split at hc
 ·rename_i u v t t2 e1 e2
  simp only[Bool.and_eq_true]at hc
  obtain⟨⟨⟨⟨h0,h1⟩,h2⟩,h3⟩,h4⟩:=hc
  have ea:args=#[u,v]:=by simpa using congrArg List.toArray e1
  have et:ts=#[t,t2]:=by simpa using congrArg List.toArray e2
  subst ea et
  have T:AppT P t t2 E sz B:=by
   cases hi:P.info? E with
   | none=>simp[hi]at h1
   | some i=>
    simp only[hi,Bool.and_eq_true,beq_iff_eq,bne_iff_ne,ne_eq]at h1
    obtain⟨⟨⟨⟨⟨g1,g2⟩,g3⟩,g4⟩,g5⟩,g6⟩:=h1
    obtain⟨z,hz⟩:=Option.isSome_iff_exists.1 g5
    rw[hz]at g6
    simp at g6
    refine⟨?_,?_,⟨i,z,hi,g1,g2,hz,g6⟩,by rw[<-g2]; exact g3,by rw[<-g1]; exact g4⟩
    ·revert h0; split<;>simp_all
    ·left; revert h2; split<;>simp_all
  have r1:=A.sound hs h3
  have r2:=A.sound hs h4
  obtain⟨ys,vs,hK,hre,hst,hu,hx,hf⟩:=X2o (P:=P) hO r2 h
  exact X5c T r1 hO hK hst hre hu hx hf
 ·simp at hc

theorem Xg1 (s:List UInt8):∀x∈Yh s,x.sz=1:=by
 induction s with
 | nil=>simp[Yh]
 | cons b r ih=>simp only[Yh,List.mem_cons]; rintro x (rfl | h); exact rfl; exact ih x h
theorem Y0 (s:List UInt8):(Yh s).length=s.length:=by
 induction s with
 | nil=>rfl
 | cons b r ih=>simp[Yh,ih]
theorem W8 {ow:Nat->Prop}:∀(s:List UInt8) (cs:List Value),D.repL w ow (Yh s) cs↔cs=s.map fun b=>.int .u8 b.toNat
 | [],cs=>by simp[Yh,D.repL]
 | b::r,cs=>by
  simp only[Yh,D.repL,D.rep,List.map_cons,W8 r]
  constructor
  ·rintro⟨c1,c2,rfl,rfl,rfl⟩; rfl
  ·rintro rfl; exact⟨_,_,rfl,rfl,rfl⟩

theorem Xs1 (hs:SM w ρ sl a)(hO:OM w ρ ob){op:Op}{E B:Nat}{x y:A}(hc:I.chk P op (.appS E B x y)=true)
  (h:Xqs (fun ys=>Xc5 E 1 B ob ys K (x.ev sl)) (y.ev sl)):Vh P a w ρ op K Pn:=by
 cases op<;>simp only[I.chk,Bool.false_eq_true]at hc
 rename_i c
 obtain⟨ca,args,ts⟩:=c
 cases ca<;>(try simp only[Bool.false_eq_true]at hc)
 rename_i b
 cases b<;>(try simp only[Bool.false_eq_true]at hc)
 split at hc
 ·rename_i u v t t2 e1 e2
  simp only[Bool.and_eq_true]at hc
  obtain⟨⟨⟨⟨h0,h1⟩,h2⟩,h3⟩,h4⟩:=hc
  have ea:args=#[u,v]:=by simpa using congrArg List.toArray e1
  have et:ts=#[t,t2]:=by simpa using congrArg List.toArray e2
  subst ea et
  have T:AppT P t t2 E 1 B:=by
   cases hi:P.info? E with
   | none=>simp[hi]at h1
   | some i=>
    simp only[hi,Bool.and_eq_true,beq_iff_eq,bne_iff_ne,ne_eq]at h1
    obtain⟨⟨⟨⟨g1,g2⟩,g3⟩,g5⟩,g6⟩:=h1
    obtain⟨z,hz⟩:=Option.isSome_iff_exists.1 g5
    rw[hz]at g6
    simp at g6
    refine⟨?_,?_,⟨i,z,hi,g1,g2,hz,g6⟩,by rw[<-g2]; exact g3,by omega⟩
    ·revert h0; split<;>simp_all
    ·right; revert h2; split<;>simp_all
  have r1:=A.sound hs h3
  have r2:=A.sound hs h4
  unfold Xqs at h
  split at h
  ·rename_i s e3
   rw[e3,Yq]at r2
   have hlen:(Yh s).length=s.length:=Y0 s
   refine Xsa T r1 hO h ((W8 s _).2 rfl) (Xg1 s) (fun w'=>?_) (fun w' _=>?_)
   ·rw[r2,hlen]; simp[Builtin.lenOf,Xa0]
   ·rw[r2,hlen]
    simp only[Builtin.firstCells,Sem.run_pure]
    congr 1
    apply Array.ext'
    simp[ByteArray.data_extract]
  ·exact h.elim
 ·simp at hc

theorem Xzi (hs:SM w ρ sl a)(hO:OM w ρ ob){op:Op}{x:A}(hc:I.chk P op (.cvb x)=true)(h:Xsz ob K (x.ev sl)):Vh P a w ρ op K Pn:=by
 cases op<;>simp only[I.chk,Bool.false_eq_true]at hc
 rename_i s t y
 simp only[Bool.and_eq_true,beq_iff_eq]at hc
 obtain⟨⟨rfl,h0⟩,h2⟩:=hc
 have r1:=A.sound hs h2
 obtain⟨e,hs1,he⟩:∃e,P.underlying s=some (.slice e)/\P.underlying e=some (.int .u8):=by
  cases hu:P.underlying s with
  | none=>simp[hu]at h0
  | some d=>
   cases d<;>simp[hu]at h0
   rename_i e
   refine⟨e,rfl,?_⟩
   revert h0; split<;>simp_all
 unfold Xsz at h
 split at h
 ·rename_i id n e1
  unfold Xe0 at h
  split at h
  ·rename_i E sz xs hl
   obtain⟨hsz,rfl,hne,hK⟩:=h
   rw[e1]at r1
   have r3:=Qs hO hl hsz r1
   rw[Yg]at r1
   obtain⟨o,hρ,hv⟩:=r1
   rcases hO.one id _ hl with⟨h1,rfl⟩ | ⟨b,cap,cs,sp,h1,h2,h3,h4,h5⟩
   ·exact absurd rfl hne
   ·rw[hρ]at h1; simp at h1; subst h1
    have hu:=hv.2.2 rfl
    have hw:∃w2,w2.heap.size=w.heap.size/\(∀j,j ≠ b->w2.heap[j]? = w.heap[j]?)/\w2.heap[b]? = some (.cells (List.toArray (cs++sp)) E ((cs++sp).length,(cs++sp).length+1))/\w2.tape=w.tape/\w2.os=w.os/\w2.output=w.output/\w2.drawn=w.drawn/\(markStringish ⟨b,0,none⟩).run P w=.ok () w2:=by
     have hsh:w.shape? b=some (E,(cs++sp).length):=by simp[World.shape?,h2]
     refine⟨w.freeze ⟨b,(cs++sp).length,none⟩ 1,by simp[World.freeze],fun j hj=>?_,?_,rfl,rfl,rfl,rfl,?_⟩
     ·simp only[World.freeze]
      simp[Array.getElem?_modify,Ne.symm hj]
     ·simp only[World.freeze]
      simp[Array.getElem?_modify,h2]
     ·simp only[markStringish,Sem.run_bind,run_shape,hsh,Result.andThen_ok,run_freeze]
    obtain⟨w2,q1,q2,q3,q4,q5,q6,q8,q7⟩:=hw
    obtain⟨t1,o1,hno⟩:=Xa4 hO (w2:=w2) ⟨_,hl⟩ q1 (fun j hj=>q2 j (fun e=>hj _ hρ (by rw[e]; rfl))) q4 q5 q6 (by rw[q8]; exact Nat.le_refl _)
    refine Xl (v:=.slice (some ⟨b,0,none⟩) xs.length cap) (fun o ho=>?_) hK ?_ o1 t1
    ·simp only[execOp,ho,hu,convert,Sem.run_bind,Xc hs1,Result.andThen_ok,beq_self_eq_true,Xc he,q7,Sem.run_pure]
    ·rw[Yj]
     refine .inr ⟨_,cap,cs,rfl,?_,⟨fun _=>⟨rfl,hno b _ hρ rfl,Xh q3⟩,fun i hi=>?_⟩,D.repL_mono t1.mono _ _ h3,h4⟩
     ·have hcl:cs.length=xs.length*sz:=by rw[D.repL_len _ _ h3,D.szs_uniform _ h4]
      have:xs.length*sz<=cap*sz:=by rw[<-h5,<-hcl]; simp
      exact Nat.le_of_mul_le_mul_right this (Nat.pos_of_ne_zero hsz)
     ·simp[World.cell?,q3,List.getElem?_append,hi]
  ·exact h.elim
 ·exact h.elim

theorem Xs5 (hs:SM w ρ sl a)(hO:OM w ρ ob){op:Op}{E:Nat}{x y:A}(hc:I.chk P op (.ustr E x y)=true)(h:Xji E ob K (x.ev sl) (y.ev sl)):Vh P a w ρ op K Pn:=by
 cases op<;>simp only[I.chk,Bool.false_eq_true]at hc
 rename_i c
 obtain⟨ca,args,ts⟩:=c
 cases ca<;>(try simp only[Bool.false_eq_true]at hc)
 rename_i b
 cases b<;>(try simp only[Bool.false_eq_true]at hc)
 split at hc
 ·rename_i u v t t2 e1 e2
  have ea:args=#[u,v]:=by simpa using congrArg List.toArray e1
  have et:ts=#[t,t2]:=by simpa using congrArg List.toArray e2
  subst ea et
  simp only[Bool.and_eq_true]at hc
  obtain⟨⟨h0,h1⟩,h2⟩:=hc
  have r1:=A.sound hs h1
  have r2:=A.sound hs h2
  obtain⟨hp,hce⟩:P.underlying t=some (.pointer E)/\P.cellsOf E=1:=by
   split at h0
   ·rename_i e he; simp only[Bool.and_eq_true,beq_iff_eq]at h0; obtain⟨rfl,h0⟩:=h0; exact⟨he,h0⟩
   ·simp at h0
  have hrun:∀(w':World) (val:Value) (o:Oper),o.op=.call { callee:=.builtin .unsafeString,args:=#[u,v],argTypes:=#[t,t2] }->(Builtin.unsafeString_ #[t,t2] o.type #[a.eval u,a.eval v]).run P w=.ok val w'->(execOp a.eval o).run P w=.ok (.value val) w':=by
   intro w' val o ho hr
   simp only[execOp,ho,resolve,invoke,builtin,Sem.run_bind,Sem.run_pure,Result.andThen_ok,List.map_toArray,List.map_cons,List.map_nil,hr]
  unfold Xji at h
  split at h
  ·rename_i id n m e3 e4
   unfold Xei at h
   split at h
   ·rename_i E' sz xs hl
    obtain⟨rfl,rfl,rfl,rfl,h63,hne,s,rfl,hK⟩:=h
    rw[e3,X4q]at r1
    rw[e4,X2]at r2
    obtain⟨o,hρ,hv⟩:=r1
    have hs0:s ≠ []:=by intro e; subst e; exact hne rfl
    rcases hO.one id _ hl with⟨h1,hx⟩ | ⟨b,cap,cs,sp,h1,h2,h3,h4,h5⟩
    ·exact absurd hx hne
    ·rw[hρ]at h1; simp at h1; subst h1
     have hu:=hv.2.2 rfl (by simpa using hne)
     rw[W8]at h3
     subst h3
     have hll:(Yh s).length=s.length:=Y0 s
     obtain⟨t1,o1,hno⟩:=Xa4 hO (w2:=w.freeze ⟨b,0,none⟩ s.length) ⟨_,hl⟩ (by unfold World.freeze; split<;>simp) (fun j hj=>by
      have:b ≠ j:=fun e=>hj _ hρ (by rw[e]; rfl)
      unfold World.freeze; split
      ·rfl
      ·simp[Array.getElem?_modify,this]) (by unfold World.freeze; split<;>rfl) (by unfold World.freeze; split<;>rfl) (by unfold World.freeze; split<;>rfl) (by unfold World.freeze; split<;>exact Nat.le_refl _)
     refine Xl (v:=.string ⟨s.toArray⟩) (fun o ho=>hrun _ _ o ho ?_) hK (Yq.2 rfl) o1 t1
     rw[hu,r2,hll]
     exact Lib.run_unsafeString_row (P:=P) (w:=w) t t2 _ E' hp hce b ((s.map fun b=>Value.int .u8 b.toNat)++sp).length (by simp[World.shape?,h2]) s hs0 (by simp) (by omega) (fun j x hj=>by
      obtain⟨hj',e⟩:=List.getElem?_eq_some_iff.1 hj
      rw[Addr.add_eq rfl]
      simp[World.cell?,h2,List.getElem?_append,hj',e])
   ·exact h.elim
  ·rename_i m e3 e4
   obtain⟨rfl,hK⟩:=h
   rw[e3,Xbb]at r1
   rw[e4,X2]at r2
   refine Xl (v:=.string .empty) (fun o ho=>hrun _ _ o ho ?_) hK (Yq.2 rfl) hO (Tr.refl _ _)
   rw[r1,r2]
   exact Lib.run_unsafeString_none _ _ _ _ _
  ·exact h.elim
 ·simp at hc

theorem Xi5:∀(s:List UInt8) (l:List UInt8),(s.map fun b:UInt8=>((b.toNat:Nat):Int)).foldl (fun (r:ByteArray) (n:Int)=>r.push (UInt8.ofNat n.toNat)) ⟨l.toArray⟩=⟨(l++s).toArray⟩
 | [],l=>by simp
 | b::r,l=>by
  simp only[List.map_cons,List.foldl_cons]
  have:(ByteArray.mk l.toArray).push (UInt8.ofNat ((b.toNat:Nat):Int).toNat)=⟨(l++[b]).toArray⟩:=by
   apply ByteArray.ext; simp[ByteArray.push]
  rw[this,Xi5 r (l++[b])]
  simp

theorem Xzf (hs:SM w ρ sl a)(hO:OM w ρ ob){op:Op}{x:A}(hc:I.chk P op (.b2s x)=true)(h:Yb3 (fun v=>K v ob) (x.ev sl)):Vh P a w ρ op K Pn:=by
 cases op<;>simp[I.chk]at hc
 rename_i s t y
 obtain⟨⟨h0,h1⟩,h2⟩:=hc
 have r1:=A.sound hs h2
 obtain⟨e,hs1,he,hsz⟩:∃e,P.underlying s=some (.slice e)/\P.underlying e=some (.int .u8)/\X7 P e=some 1:=by
  cases hu:P.underlying s with
  | none=>simp[hu]at h0
  | some d=>
   cases d<;>simp[hu]at h0
   rename_i e
   refine⟨e,rfl,?_,h0.2⟩
   have:=h0.1
   revert this; split<;>simp_all
 have ht:P.underlying t=some .string:=by revert h1; split<;>simp_all
 have hcv:∀(ad:Option Addr) (l c:Nat) (o:Oper),o.op=.convert s t y->a.eval y=.slice ad l c->(execOp a.eval o).run P w=((Conv.bytesToString (.slice ad l c)).run P w).andThen fun v w'=>.ok (.value v) w':=by
  intro ad l c o ho hy
  simp only[execOp,ho,hy,convert,Sem.run_bind,Xc hs1,Xc ht,Result.andThen_ok,Xc he]
  simp
 unfold Yb3 at h
 split at h
 ·rename_i sz xs e1
  obtain⟨rfl,bs,rfl,hK⟩:=h
  rw[e1,Yj]at r1
  rcases r1 with⟨hx,r1⟩ | ⟨ad,cap,vs,r1,hcap,hce,hre,hu⟩
  ·have:bs=[]:=by have:=congrArg List.length hx; rw[Y0]at this; exact List.eq_nil_of_length_eq_zero this
   subst this
   refine Xl (fun o ho=>?_) hK (Yq.2 rfl) hO (Tr.refl _ _)
   rw[hcv _ _ _ o ho r1]
   simp[Conv.bytesToString]
   rfl
  ·rw[W8]at hre
   refine Xl (fun o ho=>?_) hK (Yq.2 rfl) hO (Tr.refl _ _)
   rw[hcv _ _ _ o ho r1,run_bytesToString w ad _ cap (bs.map fun b=>((b.toNat:Nat):Int)) ?_]
   ·have:=Xi5 bs []
    simp only[List.nil_append]at this
    simp only[Result.andThen_ok]
    rw[<-this]
    rfl
   ·have:=run_loadCells_list (P:=P) w ad vs (fun j u hj=>by
     obtain⟨hj',e⟩:=List.getElem?_eq_some_iff.1 hj
     have hne:vs ≠ []:=by intro h; simp[h]at hj'
     rw[Addr.add_eq (hce.1 hne).1,<-e]; exact hce.2 j hj')
    rw[Y0]
    rw[show vs.length=bs.length by rw[hre]; simp]at this
    rw[this,hre]
    simp
 ·rename_i e1
  rw[e1,Z4]at r1
  refine Xl (fun o ho=>?_) h (Yq.2 rfl) hO (Tr.refl _ _)
  rw[hcv _ _ _ o ho r1]
  simp[Conv.bytesToString]
  rfl
 ·exact h.elim

theorem Xmq (hs:SM w ρ sl a)(hO:OM w ρ ob){op:Op}{x:A}(hc:I.chk P op (.s2b x)=true)(h:Ycg (fun v=>K v ob) (x.ev sl)):Xl4 P a w ρ op ob K:=by
 cases op<;>simp[I.chk]at hc
 rename_i s t y
 obtain⟨⟨h0,h1⟩,h2⟩:=hc
 have r1:=A.sound hs h2
 have hs1:P.underlying s=some .string:=by revert h0; split<;>simp_all
 obtain⟨e,ht,he⟩:∃e,P.underlying t=some (.slice e)/\P.underlying e=some (.int .u8):=by
  cases hu:P.underlying t with
  | none=>simp[hu]at h1
  | some d=>
   cases d<;>simp[hu]at h1
   rename_i e
   refine⟨e,rfl,?_⟩
   revert h1; split<;>simp_all
 unfold Ycg at h
 split at h
 ·rename_i bs e1
  rw[e1,Yq]at r1
  have hq:(Question.appendCap bs.length 0 e).forced=false:=rfl
  generalize hcap:(Question.appendCap bs.length 0 e).cut (w.tape w.drawn (.appendCap bs.length 0 e))=cap
  have hge:bs.length<=cap:=by rw[<-hcap]; simp[Question.cut]
  let cs:List Value:=(bs.map fun b=>Value.int .u8 b.toNat)++List.replicate (cap-bs.length) (.int .u8 0)
  let w1:World:=Qk { w with drawn:=w.drawn+1 } (.cells cs.toArray e)
  have hlen:cs.length=cap:=by simp[cs]; omega
  have he1:Ext w w1:=(Ext.drew w _).trans (Y3 _ _)
  have hn:w1.heap[w.heap.size]? = some (.cells cs.toArray e (0,0)):=Y9 _ _
  let w2:World:=w1.freeze ⟨w.heap.size,cap,none⟩ 1
  have hn2:w2.heap[w.heap.size]? = some (.cells cs.toArray e (cap,cap+1)):=by
   simp only[w2,World.freeze]
   simp[Array.getElem?_modify,hn]
  have hsz2:w2.heap.size=w1.heap.size:=by simp[w2,World.freeze]
  have he2:Ext w w2:=by
   refine⟨by rw[hsz2]; exact he1.size,fun b hb=>?_,he1.tape,he1.os,he1.out,he1.drawn⟩
   rw[<-he1.keep b hb]
   simp only[w2,World.freeze]
   simp[Array.getElem?_modify,Nat.ne_of_gt hb]
  refine⟨.slice (some ⟨w.heap.size,0,none⟩) bs.length cap,_,w2,h,Yj.2 (.inr ⟨⟨w.heap.size,0,none⟩,cap,bs.map fun b=>Value.int .u8 b.toNat,by rw[Y0],by rw[Y0]; exact hge,⟨fun _=>⟨rfl,?_,Xh hn2⟩,fun i hi=>?_⟩,(W8 bs _).2 rfl,Xg1 bs⟩),he2,fun o ho=>?_⟩
  rotate_left 2
  ·simp only[execOp,ho,r1,convert,Sem.run_bind,Xc hs1,Xc ht,Result.andThen_ok,Xc he,Conv.stringToBytes,Xa0,run_choose,hq,Bool.false_eq_true,if_false,hcap,newRow,run_newObj,Sem.run_pure]
   have e3:Array.map (fun b:UInt8=>Value.int IntKind.u8 b.toNat) (ByteArray.mk bs.toArray).data++Array.replicate (cap-bs.length) (Value.int IntKind.u8 0)=cs.toArray:=by
    apply Array.ext'; simp[cs]
   rw[e3]
   have hsh:w1.shape? w.heap.size=some (e,cap):=by simp[World.shape?,hn,hlen]
   have hm:(markStringish ⟨w.heap.size,0,none⟩).run P w1=.ok () w2:=by
    simp only[markStringish,Sem.run_bind,run_shape,hsh,Result.andThen_ok,run_freeze]
    rfl
   show ((Sem.run P (markStringish ⟨w.heap.size,0,none⟩) w1).andThen _).andThen _=_
   rw[hm]
   simp
  ·rintro (⟨j,p,q1,q2⟩ | q)
   ·have:=Wc hO q1 q2; simp at this
   ·have:=hO.xlt _ q; simp at this
  ·have hi':i<bs.length:=by simpa using hi
   simp[World.cell?,hn2,cs,List.getElem?_append,hi']
 ·exact h.elim

theorem Xs4 (hs:SM w ρ sl a)(hO:OM w ρ ob){op:Op}{E sz:Nat}{x:A}(hc:I.chk P op (.nilo E sz x)=true)(h:Xf4 E sz ob K (x.ev sl)):Vh P a w ρ op K Pn:=by
 unfold Xf4 at h
 split at h
 ·rename_i e1
  have hf:=X0 ob
  have hbl:∀b,RO.virt.blk? = some b->w.heap.size<=b:=fun b hb=>by simp[RO.blk?]at hb
  have t1:=Wu w (Ext.refl w) (o:=.virt) (hO.free hf) hbl
  have o1:OM w (ρ.ins (Xa ob) .virt) ((Xa ob,.arr E sz [])::ob):=hO.ins (Ext.refl w) hf hbl (.inl ⟨Yf,rfl⟩)
  cases op<;>simp[I.chk]at hc
  all_goals
   have r1:=A.sound hs hc
   rw[e1,Z4]at r1
   exact Xl (fun o ho=>by simp[execOp,ho]) h (Yg.2 ⟨.virt,Yf,⟨rfl,r1⟩⟩) o1 t1
 ·exact h.elim

theorem Xzo (hs:SM w ρ sl a)(hO:OM w ρ ob){op:Op}{r:Option A}(hc:I.chk P op (.mkm r)=true)(h:Xx5 sl r/\K (.mp (Xa ob)) ((Xa ob,.map [])::ob)):Vh P a w ρ op K Pn:=by
 cases op<;>simp only[I.chk,Bool.false_eq_true]at hc
 rename_i t hint
 simp only[Bool.and_eq_true]at hc
 obtain⟨hm,hK⟩:=h
 obtain⟨kt,et,ht⟩:∃kt et,P.underlying t=some (.map kt et):=by
  have:=hc.1
  revert this; split<;>simp_all
 obtain⟨t1,o1,p1⟩:=X8i hO (X0 ob)
 refine Xl (fun o ho=>?_) hK p1 o1 t1
 cases hint with
 | none=>
  simp only[execOp,ho,Option.map_none,Instr.makeMap,Sem.run_bind,run_newObj,Result.andThen_ok,Sem.run_pure]
  rfl
 | some x=>
  cases r with
  | none=>simp[Xdk]at hc
  | some y=>
   simp only[Xdk]at hc
   have r1:=A.sound hs hc.2
   simp only[Xx5]at hm
   unfold Xh4 at hm
   split at hm
   ·rename_i k n e1
    rw[e1,X2]at r1
    simp only[execOp,ho,Option.map_some,Instr.makeMap,Sem.run_bind,Xc ht,run_newObj,Result.andThen_ok,Sem.run_pure,r1,asInt]
    rfl
   ·exact hm.elim

theorem Xpc {x y:D}(h:D.alike0 x y=true):∃u v,x.key0=some u/\y.key0=some v:=by
 unfold D.alike0 at h
 split at h<;>first | exact⟨_,_,rfl,rfl⟩ | cases h
theorem Xdg:∀{xs ys:List D},Zq xs ys=true->∃us vs,Wr xs=some us/\Wr ys=some vs
 | [],[],_=>⟨[],[],rfl,rfl⟩
 | x::r,y::s,h=>by
  simp only[Zq,Bool.and_eq_true]at h
  obtain⟨u,v,h1,h2⟩:=Xpc h.1
  obtain⟨us,vs,h3,h4⟩:=Xdg h.2
  exact⟨u::us,v::vs,by simp only[Wr,h1,h3],by simp only[Wr,h2,h4]⟩
 | [],_::_,h=>by cases h
 | _::_,[],h=>by cases h
theorem Xbj {k j:D}(h:D.alike k j=true):∃u v,k.key=some u/\j.key=some v:=by
 unfold D.alike at h
 split at h<;>first | exact⟨_,_,rfl,rfl⟩ | (cases h; done) | skip
 obtain⟨us,vs,h1,h2⟩:=Xdg h
 exact⟨.agg us.toArray,.agg vs.toArray,by simp only[D.key,h1,Yn3],by simp only[D.key,h2,Yn3]⟩
def D.flat0:D->Bool
 | .agg _=>false
 | _=>true
theorem Xki {td:TypeDesc}{k:D}(h:Ua td k=true):k.flat0=true:=by
 unfold Ua at h; split at h<;>first | rfl | cases h
theorem Xd3 {td:TypeDesc}{kd k:D}(h:Ua td kd=true)(h2:D.alike kd k=true):Ua td k=true:=by
 unfold Ua at h
 split at h
 ·cases k<;>simp[D.alike]at h2<;>rfl
 ·cases k<;>simp[D.alike]at h2<;>rfl
 ·cases k<;>simp[D.alike]at h2<;>rfl
 ·cases h
theorem Xqd {td:TypeDesc}{k j:D}{u v:Value}(hk:Ua td k=true)(ha:D.alike k j=true)(hu:k.key=some u)(hv:j.key=some v):Instr.sameNow td u v=some (D.sameKey k j):=by
 have hfl:=Xki hk
 cases k<;>simp only[D.flat0,Bool.false_eq_true]at hfl<;>cases j<;>simp only[D.alike,Bool.false_eq_true,decide_eq_true_eq]at ha<;>simp only[D.key,Option.some.injEq]at hu hv<;>subst hu<;>subst hv<;>cases td<;>simp only[Ua,Bool.false_eq_true]at hk
 ·subst ha; simp[Instr.sameNow,D.sameKey]
 ·simp[Instr.sameNow,D.sameKey]
 ·rename_i s t
  simp only[Instr.sameNow,D.sameKey,Option.some.injEq]
  rw[beq_toListBytes,Xjg,Xjg]
theorem Xw1:∀{xs ys:List D} {us vs:List Value},Zq xs ys=true->D.eqbs xs ys=true->Wr xs=some us->Wr ys=some vs->vs=us:=by
 intro xs ys us vs _ h2 h3 h4
 rw[D.eqbs_eq _ _ h2]at h3
 rw[h3]at h4; exact (Option.some.inj h4).symm
theorem Xge {k j:D}{u v:Value}(ha:D.alike k j=true)(hs:D.sameKey k j=true)(hu:k.key=some u)(hv:j.key=some v):v=u:=by
 cases k<;>cases j<;>simp only[D.alike,Bool.false_eq_true,decide_eq_true_eq]at ha<;>simp only[D.sameKey,beq_iff_eq]at hs<;>simp only[D.key,Option.some.injEq]at hu hv
 ·rw[<-hu,<-hv]; simp_all
 ·rw[<-hu,<-hv]; simp_all
 ·rw[<-hu,<-hv]; simp_all
 ·obtain⟨us,h1,rfl⟩:=Y4 hu
  obtain⟨vs,h2,rfl⟩:=Y4 hv
  rw[Xw1 ha hs h1 h2]
theorem X1n {x y:D}{u:Value}(h1:x.key0=some u)(h2:y.key0=some u)(ha:D.alike0 x y=true):D.eqb x y=true:=by
 cases x<;>cases y<;>simp only[D.alike0,Bool.false_eq_true,decide_eq_true_eq]at ha<;>simp only[D.key0,Option.some.injEq]at h1 h2<;>rw[<-h1]at h2
 ·simp only[Value.int.injEq]at h2; simp[D.eqb,h2.1,h2.2]
 ·simp only[Value.bool.injEq]at h2; simp[D.eqb,h2]
 ·simp only[Value.string.injEq,ByteArray.mk.injEq]at h2
  have h2:=congrArg Array.toList h2
  simp only[List.toList_toArray]at h2
  simp[D.eqb,h2]
theorem Xh9:∀{xs ys:List D} {us:List Value},Wr xs=some us->Wr ys=some us->Zq xs ys=true->D.eqbs xs ys=true
 | [],[],_,_,_,_=>rfl
 | x::r,y::s,us,h1,h2,ha=>by
  simp only[Zq,Bool.and_eq_true]at ha
  simp only[Wr]at h1 h2
  split at h1
  ·rename_i u1 us1 a1 a2
   split at h2
   ·rename_i u2 us2 b1 b2
    cases h1; cases h2
    simp only[D.eqbs,Bool.and_eq_true]
    exact⟨X1n a1 b1 ha.1,Xh9 a2 b2 ha.2⟩
   ·cases h2
  ·cases h1
 | [],_::_,_,_,_,h=>by cases h
 | _::_,[],_,_,_,h=>by cases h
theorem Xkh {k j:D}{u:Value}(hu:k.key=some u)(hj:j.key=some u)(ha:D.alike k j=true):D.sameKey k j=true:=by
 cases k<;>cases j<;>simp only[D.alike,Bool.false_eq_true,decide_eq_true_eq]at ha<;>simp only[D.key,Option.some.injEq]at hu hj
 ·rw[<-hu]at hj; simp only[Value.int.injEq]at hj; simp[D.sameKey,hj.2]
 ·rw[<-hu]at hj; simp only[Value.bool.injEq]at hj; simp[D.sameKey,hj]
 ·rw[<-hu]at hj; simp only[Value.string.injEq,ByteArray.mk.injEq]at hj
  have hj:=congrArg Array.toList hj
  simp only[List.toList_toArray]at hj
  simp[D.sameKey,hj]
 ·obtain⟨us,h1,rfl⟩:=Y4 hu
  obtain⟨vs,h2,h3⟩:=Y4 hj
  have h3:us=vs:=by simpa using h3
  subst h3
  exact Xh9 h1 h2 ha
theorem Xnv {e:MapEntry}{l:List MapEntry}{u:Value}{j:Nat}(h:∀i,i<j->∀e',l[i]? = some e'->e'.key ≠ u)(h0:e.key ≠ u):∀i,i<j+1->∀e',(e::l)[i]? = some e'->e'.key ≠ u
 | 0,_,e',he=>by simp at he; subst he; exact h0
 | i+1,hi,e',he=>h i (by omega) e' (by simpa using he)
theorem Xuj {td:TypeDesc}{k:D}{u:Value}(hk:Ua td k=true)(hu:k.key=some u):∀(es:List (D×V)) (l:List MapEntry) (i:Nat),X9 w ρ es l->(∀e∈es,D.alike k e.1=true)->
  (Wj k es=none/\Instr.findNow td u l i=some none)\/∃v j e,Wj k es=some v/\Instr.findNow td u l i=some (some (i+j,e.val))/\l[j]? = some e/\v.rep w ρ e.val/\e.key=u/\∀i,i<j->∀e',l[i]? = some e'->e'.key ≠ u
 | [],l,i,h,_=>by
  simp only[X9]at h; subst h
  exact .inl ⟨rfl,rfl⟩
 | (j,v)::r,l,i,h,ha=>by
  obtain⟨e,l',rfl,h1,h2,h3⟩:=h
  have haj:=ha (j,v) (by simp)
  have hs:=Xqd hk haj hu h1
  simp only[Instr.findNow,Wj,hs]
  cases hsk:D.sameKey k j with
  | true=>
   exact .inr ⟨v,0,e,by simp,by simp,by simp,h2,Xge haj hsk hu h1,fun _ h=>(by omega)⟩
  | false=>
   rcases Xuj hk hu r l' (i+1) h3 (fun x hx=>ha x (by simp[hx])) with⟨f1,f2⟩ | ⟨v',j',e',f1,f2,f3,f4,f5,f6⟩
   ·exact .inl ⟨by simpa using f1,by simpa using f2⟩
   ·exact .inr ⟨v',j'+1,e',by simpa using f1,by simp only[f2]; congr 3; omega,by simpa using f3,f4,f5,Xnv f6 fun hk=>by rw[Xkh hu (by rw[h1,hk]) haj]at hsk; cases hsk⟩
theorem Xb0 {kt:TypeId}{td:TypeDesc}(ht:P.underlying kt=some td){u:Value}{l:List MapEntry}{r:Option (Nat×Value)}(h:Instr.findNow td u l 0=some r)(w':World):(Instr.findKey kt u l).run P w'=.ok r w':=by
 simp[Instr.findKey,Xc ht,h]
theorem Xg9 {kt:TypeId}{td:TypeDesc}(ht:P.underlying kt=some td){k:D}(hk:Ua td k=true)(u:Value)(b:Bool)(w':World):(Instr.checkKey b 10000 kt u).run P w'=.ok () w':=by
 unfold Instr.checkKey
 simp only[Sem.run_bind,Xc ht,Result.andThen_ok]
 unfold Ua at hk
 split at hk<;>first | (cases hk; done) | simp
theorem Xe8:∀{kd xs:List D},Zq kd xs=true->KT.fitss (kd.map Xp2) xs=true
 | [],[],_=>rfl
 | x::r,y::s,h=>by
  simp only[Zq,Bool.and_eq_true]at h
  simp only[List.map_cons,KT.fitss,Bool.and_eq_true]
  refine⟨?_,Xe8 h.2⟩
  have h1:=h.1
  unfold D.alike0 at h1; split at h1
  ·simpa[Xp2,KT.fits]using h1
  ·rfl
  ·rfl
  ·cases h1
 | [],_::_,h=>by cases h
 | _::_,[],h=>by cases h
theorem Xm0:∀{kd:List D},KT.depths (kd.map Xp2)<=1
 | []=>by simp[KT.depths]
 | x::r=>by
  simp only[List.map_cons,KT.depths]
  have:=Xm0 (kd:=r)
  have h1:(Xp2 x).depth<=1:=by cases x<;>simp[Xp2,KT.depth]
  omega
theorem X54 {t:TypeId}{x:D}(hc:(Xp2 x).chk P t=true)(b:Bool)(u:Value)(n:Nat)(w':World):(Instr.checkKey b (n+1) t u).run P w'=.ok () w':=by
 unfold Instr.checkKey
 cases x<;>simp only[Xp2,KT.chk]at hc<;>(split at hc<;>first | (cases hc; done) | (rename_i hu; simp only[Sem.run_bind,Xc hu,Result.andThen_ok]; simp))
theorem Xhb (b:Bool)(n:Nat):∀(kd:List D) (fds:List Field) (o:Nat) (xs:List D) (px cx:List Value),KT.chks P (kd.map Xp2) fds o=true->KT.fitss (kd.map Xp2) xs=true->D.repL w (own ρ) xs cx->px.length=o->∀w',
  (forIn fds PUnit.unit (fun f (_:PUnit)=>(if f.name ≠ "_" then (do Instr.checkKey b (n+1) f.type (<-part f.type (px++cx).toArray f.offset); pure (ForInStep.yield PUnit.unit)) else pure (ForInStep.yield PUnit.unit):Sem (ForInStep PUnit)))).run P w'=.ok PUnit.unit w'
 | [],fds,o,xs,px,cx,hc,hx,rx,lx,w'=>by
  cases fds<;>simp[KT.chks]at hc
  simp
 | t::r,fds,o,xs,px,cx,hc,hx,rx,lx,w'=>by
  cases fds<;>simp only[List.map_cons,KT.chks,Bool.false_eq_true,Bool.and_eq_true,bne_iff_ne,ne_eq,beq_iff_eq]at hc
  rename_i f fs
  cases xs<;>simp only[List.map_cons,KT.fitss,Bool.false_eq_true,Bool.and_eq_true]at hx
  rename_i x xs
  simp only[D.repL]at rx
  obtain⟨a1,a2,rfl,ra,rx⟩:=rx
  obtain⟨⟨⟨⟨hn,ho⟩,hsz⟩,hct⟩,hcr⟩:=hc
  have e1:f.offset=px.length:=by omega
  have p1:=Q8 (c1:=px) (c3:=a2) hct hsz hx.1 ra w'
  rw[<-e1]at p1
  have la:=D.rep_len _ _ ra
  rw[KT.size_eq _ x hx.1]at la
  have ih:=Xhb b n r fs (o+(Xp2 t).cells) xs (px++a1) a2 hcr hx.2 rx (by simp; omega) w'
  simp only[List.append_assoc]at ih
  simp only[List.forIn_cons,Sem.run_bind,hn,ne_eq,not_false_eq_true,if_true,p1,X54 hct,Result.andThen_ok,Sem.run_pure]
  exact ih
theorem U1 {kt:TypeId}{kd k:D}{u:Value}(hk:Wz P kt kd=true)(ha:D.alike kd k=true)(hu:k.key=some u)(b:Bool)(w':World):(Instr.checkKey b 10000 kt u).run P w'=.ok () w':=by
 unfold Wz at hk
 split at hk
 ·rename_i xs
  cases k<;>simp only[D.alike,Bool.false_eq_true]at ha
  rename_i ys
  simp only[D.key]at hu
  obtain⟨us,h1,rfl⟩:=Y4 hu
  simp only[KT.chk]at hk
  split at hk
  ·rename_i fds hst
   simp only[Bool.and_eq_true]at hk
   unfold Instr.checkKey
   simp only[Sem.run_bind,Xc hst,Result.andThen_ok]
   rw[<-Array.forIn_toList]
   have:=Xhb (P:=P) (w:=w') (ρ:=⟨fun _=>none,fun _=>False,⟨fun _=>none,fun _ _ _ _ _=>False⟩⟩) b 9998 xs fds.toList 0 ys [] us hk.2 (Xe8 ha) (V9 h1) rfl w'
   simp only[List.nil_append]at this
   simp only[this,Result.andThen_ok,Sem.run_pure]
  ·cases hk
 ·split at hk
  ·rename_i td htd
   exact Xg9 htd (Xd3 hk ha) u b w'
  ·cases hk
theorem Xuf {kt:TypeId}{xs ys zs:List D}{us vs:List Value}(hk:(KT.st (xs.map Xp2)).chk P kt=true)(ha:Zq xs ys=true)(hb:Zq ys zs=true)(hc:Zq xs zs=true)(h1:Wr ys=some us)(h2:Wr zs=some vs)(w':World) :
  (Op.equal kt (.agg us.toArray) (.agg vs.toArray)).run P w'=.ok (D.sameKey (.agg ys) (.agg zs)) w':=by
 have:=KT.equal (P:=P) (w:=w') (ow:=fun _=>False) (KT.st (xs.map Xp2)) kt (.agg ys) (.agg zs) us vs 10000 hk (by simp only[KT.fits]; exact Xe8 ha) (by simp only[KT.fits]; exact Xe8 hc) (by simp only[D.rep]; exact V9 h1) (by simp only[D.rep]; exact V9 h2) (by simp only[KT.depth]; have:=Xm0 (kd:=xs); omega) w'
 simp only[Xc1,D.isAgg,if_true,D.eqb]at this
 exact this
theorem J6:∀{a b c:List D},Zq a b=true->Zq b c=true->Zq a c=true
 | [],[],[],_,_=>rfl
 | x::r,y::s,z::t,h,h2=>by
  simp only[Zq,Bool.and_eq_true]at h h2⊢
  refine⟨?_,J6 h.2 h2.2⟩
  have h1:=h.1; have h3:=h2.1
  cases x<;>cases y<;>simp[D.alike0]at h1<;>cases z<;>simp[D.alike0]at h3<;>simp_all[D.alike0]
 | [],[],_::_,_,h=>by cases h
 | [],_::_,_,h,_=>by cases h
 | _::_,[],_,h,_=>by cases h
 | _::_,_::_,[],_,h=>by cases h
theorem X2z {kt:TypeId}{k:D}{u:Value}(hu:k.key=some u)(hs:∀j v,D.alike k j=true->j.key=some v->∀w',(Op.equal kt u v).run P w'=.ok (D.sameKey k j) w'):∀(es:List (D×V)) (l:List MapEntry) (i:Nat),X9 w ρ es l->(∀e∈es,D.alike k e.1=true)->
  (Wj k es=none/\∀w',(Instr.findAsking kt u l i).run P w'=.ok none w')\/∃v j e,Wj k es=some v/\(∀w',(Instr.findAsking kt u l i).run P w'=.ok (some (i+j,e.val)) w')/\l[j]? = some e/\v.rep w ρ e.val/\e.key=u/\∀i,i<j->∀e',l[i]? = some e'->e'.key ≠ u
 | [],l,i,h,_=>by
  simp only[X9]at h; subst h
  exact .inl ⟨rfl,fun w'=>by simp[Instr.findAsking]⟩
 | (j,v)::r,l,i,h,ha=>by
  obtain⟨e,l',rfl,h1,h2,h3⟩:=h
  have haj:=ha (j,v) (by simp)
  have hq:=hs j _ haj h1
  simp only[Wj]
  cases hsk:D.sameKey k j with
  | true=>
   rw[hsk]at hq
   exact .inr ⟨v,0,e,by simp,fun w'=>by simp[Instr.findAsking,hq],by simp,h2,Xge haj hsk hu h1,fun _ h=>(by omega)⟩
  | false=>
   rw[hsk]at hq
   rcases X2z hu hs r l' (i+1) h3 (fun x hx=>ha x (by simp[hx])) with⟨f1,f2⟩ | ⟨v',j',e',f1,f2,f3,f4,f5,f6⟩
   ·exact .inl ⟨by simpa using f1,fun w'=>by simp[Instr.findAsking,hq,f2]⟩
   ·exact .inr ⟨v',j'+1,e',by simpa using f1,fun w'=>by simp only[Instr.findAsking,Sem.run_bind,hq,Result.andThen_ok,Bool.false_eq_true,if_false,f2]; congr 3; omega,by simpa using f3,f4,f5,Xnv f6 fun hk=>by rw[Xkh hu (by rw[h1,hk]) haj]at hsk; cases hsk⟩
theorem Xbz {kt:TypeId}{fds:Array Field}(hst:P.underlying kt=some (.struct fds)){u:Value}{l:List MapEntry}(w':World):(Instr.findKey kt u l).run P w'=(Instr.findAsking kt u l).run P w':=by
 cases l with
 | nil=>simp[Instr.findKey,Xc hst,Instr.findNow,Instr.findAsking]
 | cons e r=>
  have:Instr.findNow (.struct fds) u (e::r) 0=none:=by simp[Instr.findNow,Instr.sameNow]
  simp[Instr.findKey,Xc hst,this]
theorem Ju {kt:TypeId}{kd k:D}{u:Value}(hk:Wz P kt kd=true)(hkd:D.alike kd k=true)(hu:k.key=some u){es:List (D×V)}{l:List MapEntry}(h:X9 w ρ es l)(ha:∀e∈es,D.alike k e.1=true) :
  (Wj k es=none/\∀w',(Instr.findKey kt u l).run P w'=.ok none w')\/∃v j e,Wj k es=some v/\(∀w',(Instr.findKey kt u l).run P w'=.ok (some (j,e.val)) w')/\l[j]? = some e/\v.rep w ρ e.val/\e.key=u/\∀i,i<j->∀e',l[i]? = some e'->e'.key ≠ u:=by
 have hk0:=hk
 unfold Wz at hk
 split at hk
 ·rename_i xs
  cases k<;>simp only[D.alike,Bool.false_eq_true]at hkd
  rename_i ys
  have hu0:=hu
  simp only[D.key]at hu
  obtain⟨us,h1,rfl⟩:=Y4 hu
  have hst:∃fds,P.underlying kt=some (.struct fds):=by
   simp only[KT.chk]at hk
   split at hk
   ·exact⟨_,by assumption⟩
   ·cases hk
  obtain⟨fds,hst⟩:=hst
  have hs:∀j v,D.alike (.agg ys) j=true->j.key=some v->∀w',(Op.equal kt (.agg us.toArray) v).run P w'=.ok (D.sameKey (.agg ys) j) w':=by
   intro j v haj hv w'
   cases j<;>simp only[D.alike,Bool.false_eq_true]at haj
   simp only[D.key]at hv
   obtain⟨vs,h2,rfl⟩:=Y4 hv
   exact Xuf hk hkd haj (J6 hkd haj) h1 h2 w'
  rcases X2z (w:=w) (ρ:=ρ) hu0 hs es l 0 h ha with⟨f1,f2⟩ | ⟨v,j,e,f1,f2,f3⟩
  ·exact .inl ⟨f1,fun w'=>(Xbz hst w').trans (f2 w')⟩
  ·exact .inr ⟨v,j,e,f1,fun w'=>(Xbz hst w').trans (by simpa using f2 w'),f3⟩
 ·split at hk
  ·rename_i td htd
   rcases Xuj (Xd3 hk hkd) hu es l 0 h ha with⟨f1,f2⟩ | ⟨v,j,e,f1,f2,f3⟩
   ·exact .inl ⟨f1,fun w'=>Xb0 htd f2 w'⟩
   ·exact .inr ⟨v,j,e,f1,fun w'=>Xb0 htd (by simpa using f2) w',f3⟩
  ·cases hk
theorem Xu3 {w:World}{ow:Nat->Prop}:∀{xs:List D} {us cs:List Value},Wr xs=some us->D.repL w ow xs cs->cs=us
 | [],us,cs,h,h2=>by simp only[Wr,Option.some.injEq]at h; simp only[D.repL]at h2; rw[h2,h]
 | x::r,us,cs,h,h2=>by
  simp only[Wr]at h
  split at h
  ·rename_i u us' h1 h3
   cases h
   simp only[D.repL]at h2
   obtain⟨c1,c2,rfl,r1,r2⟩:=h2
   rw[Xu3 h3 r2]
   cases x<;>simp only[D.key0,Option.some.injEq,reduceCtorEq]at h1<;>subst h1<;>simp only[D.rep]at r1<;>rw[r1]<;>rfl
  ·cases h
theorem Xu2 {d:D}{u v:Value}(h1:d.key=some u)(h2:(V.d d).rep w ρ v):v=u:=by
 cases d<;>simp only[D.key,Option.some.injEq,reduceCtorEq]at h1
 ·rw[X2]at h2; rw[h2,<-h1]
 ·rw[rep_bool]at h2; rw[h2,<-h1]
 ·rw[Yq]at h2; rw[h2,<-h1]
 ·obtain⟨us,h3,rfl⟩:=Y4 h1
  rw[Uu]at h2
  rcases h2 with⟨_,ds,rfl,h2⟩ | ⟨h2,_⟩
  ·simp only[D.rep]at h2
   rw[Xu3 h3 h2]
  ·cases h2
theorem X2w {et:TypeId}{z:D}(h:(match Vs P et with | some cs=>D.isC z cs&&(((P.info? et).bind (·.zero)).map fun v=>match v with | .agg _=>true | _=>false)==some (V.d z).isAgg | none=>false)=true) :
  ∃zv,(V.d z).rep w ρ zv/\∀w',(zeroValue et).run P w'=.ok zv w':=by
 cases hzt:Vs P et with
 | none=>simp[hzt]at h
 | some cs=>
  simp only[hzt,Bool.and_eq_true,beq_iff_eq]at h
  obtain⟨hz1,hz2⟩:=h
  obtain⟨zv,e1,e2,hzr⟩:=Vt hzt
  refine⟨zv,?_,hzr⟩
  have hr:(V.d z).repC w ρ cs:=by simp only[V.repC]; exact D.isC_rep z cs hz1
  rw[e2]at hz2
  simp only[Option.map_some,Option.some.injEq]at hz2
  cases zv with
  | agg cs'=>
   simp only at hz2
   refine .inr (.inl ⟨hz2.symm,cs,?_,hr⟩)
   simp only[Value.cells]at e1
   rw[<-e1]
  | _=>
   simp only at hz2
   refine .inr (.inr ⟨hz2.symm,?_⟩)
   simp only[Value.cells]at e1
   rw[<-e1]at hr
   simpa using hr
theorem Xzn (hs:SM w ρ sl a)(hO:OM w ρ ob){op:Op}{kd z:D}{ok:Bool}{m k:A}(hc:I.chk P op (.lkp kd z ok m k)=true)(h:Xve ob kd z ok (fun v=>K v ob) (m.ev sl) (k.ev sl)):Vh P a w ρ op K Pn:=by
 cases op<;>simp only[I.chk,Bool.false_eq_true]at hc
 rename_i t x i o
 simp only[Bool.and_eq_true,beq_iff_eq]at hc
 obtain⟨⟨⟨rfl,hty⟩,hx⟩,hi⟩:=hc
 obtain⟨kt,et,ht,hkk,hz⟩:∃kt et,P.underlying t=some (.map kt et)/\Wz P kt kd=true/\(match Vs P et with | some cs=>D.isC z cs&&(((P.info? et).bind (·.zero)).map fun v=>match v with | .agg _=>true | _=>false)==some (V.d z).isAgg | none=>false)=true:=by
  revert hty; split
  ·rename_i kt et h; intro h1; simp only[Bool.and_eq_true]at h1; exact⟨kt,et,h,h1.1,h1.2⟩
  ·intro h; cases h
 obtain⟨zv,hzv,hzr⟩:=X2w (w:=w) (ρ:=ρ) hz
 have r1:=A.sound hs hx
 have r2:=A.sound hs hi
 have tup:∀{v:V} {u:Value} (b:Bool),v.rep w ρ u->(V.tup [v,.d (.bool b)]).rep w ρ (.tuple #[u,.bool b]):=fun b hv=>by
  rw[Zd]
  refine⟨[_,.bool b],rfl,?_⟩
  simp only[V.reps]
  exact⟨_,_,rfl,hv,_,_,rfl,rep_bool.2 rfl,rfl⟩
 unfold Xve at h
 split at h
 ·rename_i id kk e1 e2
  rw[e1]at r1
  rw[e2]at r2
  unfold Xfb at h
  split at h
  ·rename_i es hl
   obtain⟨⟨ha0,hall⟩,hK⟩:=h
   obtain⟨b,l,clk,g1,g2,g3,_⟩:=hO.one id _ hl
   rw[Xea]at r1
   rcases r1 with⟨b',g4,r1⟩ | ⟨g4,_⟩
   ·rw[g1]at g4; cases g4
    obtain⟨_,ku,_,hku⟩:=Xbj ha0
    have r2':=Xu2 hku r2
    have hck:=fun b w'=>U1 hkk ha0 hku b w'
    have hget:(getObj b).run P w=.ok (.map l.toArray clk) w:=by simp[getObj,Sem.run,g2]
    rcases Ju hkk ha0 hku g3 hall with⟨f1,f2⟩ | ⟨v,j,e,f1,f2,f3,f4,f5,_⟩
    ·rw[f1]at hK
     cases o
     ·exact Xl (fun o ho=>by simp[execOp,ho,Instr.lookup,r1,r2',Xc ht,hget,hck,f2,hzr]) hK hzv hO (Tr.refl _ _)
     ·exact Xl (fun o ho=>by simp[execOp,ho,Instr.lookup,r1,r2',Xc ht,hget,hck,f2,hzr]) hK (tup false hzv) hO (Tr.refl _ _)
    ·rw[f1]at hK
     cases o
     ·exact Xl (fun o ho=>by simp[execOp,ho,Instr.lookup,r1,r2',Xc ht,hget,hck,f2]) hK f4 hO (Tr.refl _ _)
     ·exact Xl (fun o ho=>by simp[execOp,ho,Instr.lookup,r1,r2',Xc ht,hget,hck,f2]) hK (tup true f4) hO (Tr.refl _ _)
   ·rw[g1]at g4; cases g4
  ·exact h.elim
 ·rename_i kk e1 e2
  rw[e1,Jd]at r1
  rw[e2]at r2
  obtain⟨ha0,hK⟩:=h
  obtain⟨_,ku,_,hku⟩:=Xbj ha0
  have r2':=Xu2 hku r2
  have hck:=fun b w'=>U1 hkk ha0 hku b w'
  have f2:∀w',(Instr.findKey kt ku ([]:List MapEntry)).run P w'=.ok none w':=fun w'=>by
   rcases Ju (w:=w) (ρ:=ρ) (es:=[]) (l:=[]) hkk ha0 hku rfl (by simp) with⟨_,f⟩ | ⟨_,_,_,f,_⟩
   ·exact f w'
   ·cases f
  cases o
  ·exact Xl (fun o ho=>by simp[execOp,ho,Instr.lookup,r1,r2',Xc ht,hck,f2,hzr]) hK hzv hO (Tr.refl _ _)
  ·exact Xl (fun o ho=>by simp[execOp,ho,Instr.lookup,r1,r2',Xc ht,hck,f2,hzr]) hK (tup false hzv) hO (Tr.refl _ _)
 ·exact h.elim

theorem X4v {k:D}{u:Value}{x:V}{xv:Value}(hu:k.key=some u)(hx:x.rep w ρ xv)(clk:Nat):∀(es:List (D×V)) (l:List MapEntry),X9 w ρ es l->Wj k es=none->X9 w ρ (Xjh k x es) (l++[{ key:=u,val:=xv,born:=clk }])
 | [],l,h,_=>by simp only[X9]at h; subst h; exact⟨_,[],rfl,hu,hx,rfl⟩
 | (j,v)::r,l,h,hf=>by
  obtain⟨e,l',rfl,h1,h2,h3⟩:=h
  simp only[Wj]at hf
  split at hf
  ·cases hf
  ·rename_i hs
   simp only[Xjh,hs]
   exact⟨e,_,rfl,h1,h2,X4v hu hx clk r l' h3 hf⟩
theorem Xxv {k:D}{u:Value}{x:V}{xv:Value}(hu:k.key=some u)(hx:x.rep w ρ xv):∀(es:List (D×V)) (l:List MapEntry) (v:V) (j:Nat) (e:MapEntry),X9 w ρ es l->(∀e∈es,D.alike k e.1=true)->(∀i,i<j->∀e',l[i]? = some e'->e'.key ≠ u)->l[j]? = some e->e.key=u->
  X9 w ρ (Xjh k x es) (l.modify j fun e=>{ e with key:=u,val:=xv })
 | [],l,v,j,e,h,_,_,hl,_=>by simp only[X9]at h; subst h; simp at hl
 | (q,y)::r,l,v,0,e,h,ha,_,hl,hk=>by
  obtain⟨e',l',rfl,h1,h2,h3⟩:=h
  simp only[List.getElem?_cons_zero,Option.some.injEq]at hl
  subst hl
  have hs:=Xkh hu (by rw[h1,hk]) (ha (q,y) (by simp))
  simp only[Xjh,hs,if_true]
  exact⟨_,l',rfl,hu,hx,h3⟩
 | (q,y)::r,l,v,j+1,e,h,ha,hb,hl,hk=>by
  obtain⟨e',l',rfl,h1,h2,h3⟩:=h
  have hne:=hb 0 (by omega) e' (by simp)
  have hs:D.sameKey k q=false:=by
   cases hs:D.sameKey k q with
   | false=>rfl
   | true=>exact absurd (Xge (ha (q,y) (by simp)) hs hu h1) hne
  simp only[Xjh,hs,Bool.false_eq_true,if_false]
  exact⟨e',_,rfl,h1,h2,Xxv hu hx r l' v j e h3 (fun x hx=>ha x (by simp[hx])) (fun i hi e2 he=>hb (i+1) (by omega) e2 (by simpa using he)) (by simpa using hl) hk⟩
theorem Jf {n:Nat}:∀{xs:List D} {us:List Value},Wr xs=some us->(us.zip us).all (fun (x,y)=>Instr.sameBits n x y)=true
 | [],us,h=>by simp only[Wr,Option.some.injEq]at h; subst h; rfl
 | x::r,us,h=>by
  simp only[Wr]at h
  split at h
  ·rename_i u us' h1 h2
   cases h
   simp only[List.zip_cons_cons,List.all_cons,Bool.and_eq_true]
   refine⟨?_,Jf h2⟩
   cases x<;>simp only[D.key0,Option.some.injEq,reduceCtorEq]at h1<;>subst h1<;>cases n<;>simp[Instr.sameBits,beq_toListBytes]
  ·cases h
theorem Xjb {k:D}{u:Value}(h:k.key=some u):Instr.sameBits 10000 u u=true:=by
 cases k<;>simp only[D.key,Option.some.injEq,reduceCtorEq]at h
 ·subst h; show (_==_&&_==_)=true; simp
 ·subst h; show (_==_)=true; simp
 ·subst h; show (_==_)=true; rw[beq_toListBytes]; simp
 ·obtain⟨us,h1,rfl⟩:=Y4 h
  have:=Jf (n:=9999) h1
  show (_==_&&_)=true
  simpa using this
theorem Jk.snoc:∀{l:List MapEntry} {n:Nat} {e:MapEntry},Jk n l->e.born=n+l.length->Jk n (l++[e])
 | [],n,e,_,h=>⟨by simpa using h,trivial⟩
 | x::r,n,e,h,h2=>⟨h.1,Jk.snoc h.2 (by simp at h2; omega)⟩
theorem Jk.mdf:∀{l:List MapEntry} {n:Nat},Jk n l->∀(j:Nat) (u v:Value),Jk n (l.modify j fun e=>{ e with key:=u,val:=v })
 | [],n,h,j,u,v=>by simpa using h
 | x::r,n,h,0,u,v=>⟨h.1,h.2⟩
 | x::r,n,h,j+1,u,v=>⟨h.1,Jk.mdf h.2 j u v⟩
theorem Xs3 (hs:SM w ρ sl a)(hO:OM w ρ ob){op:Op}{kd:D}{m k v:A}(hc:I.chk P op (.mset kd m k v)=true)(h:Xca ob kd (v.ev sl) K (m.ev sl) (k.ev sl)):Vh P a w ρ op K Pn:=by
 obtain⟨t,x,i,y,hop,hty,hx,hi,hy⟩:∃t x i y,(op=.mapUpdate t x i y\/op=.insert t x i y)/\(match P.underlying t with | some (.map kt _)=>Wz P kt kd | _=>false)=true/\A.chk x m=true/\A.chk i k=true/\A.chk y v=true:=by
  cases op<;>simp only[I.chk,Bool.false_eq_true,Bool.and_eq_true]at hc
  ·rename_i t x i y; exact⟨t,x,i,y,.inr rfl,hc.1.1.1,hc.1.1.2,hc.1.2,hc.2⟩
  ·rename_i t x i y; exact⟨t,x,i,y,.inl rfl,hc.1.1.1,hc.1.1.2,hc.1.2,hc.2⟩
 obtain⟨kt,et,ht,hkk⟩:∃kt et,P.underlying t=some (.map kt et)/\Wz P kt kd=true:=by
  revert hty; split
  ·rename_i kt et h; intro h1; exact⟨kt,et,h,h1⟩
  ·intro h; cases h
 have r1:=A.sound hs hx
 have r2:=A.sound hs hi
 have r3:=A.sound hs hy
 unfold Xca at h
 split at h
 ·rename_i id kk e1 e2
  rw[e1]at r1
  rw[e2]at r2
  unfold Q3 at h
  split at h
  ·rename_i es hl
   obtain⟨⟨ha0,hall⟩,hst,hK⟩:=h
   obtain⟨b,l,clk,g1,g2,g3,g5,g6⟩:=hO.one id _ hl
   rw[Xea]at r1
   rcases r1 with⟨b',g4,r1⟩ | ⟨g4,_⟩
   ·rw[g1]at g4; cases g4
    obtain⟨_,ku,_,hku⟩:=Xbj ha0
    have r2':=Xu2 hku r2
    have hck:=fun b w'=>U1 hkk ha0 hku b w'
    have hget:(getObj b).run P w=.ok (.map l.toArray clk) w:=by simp[getObj,Sem.run,g2]
    rcases Ju hkk ha0 hku g3 hall with⟨f0,f1⟩ | ⟨v',j,e,f0,f1,f2,_,f3,f6⟩
    ·have f2:=X4v hku r3 clk es l g3 f0
     obtain⟨t1,o1⟩:=Xjl (clk':=clk+1) hO hl g1 g2 f2 ⟨by simp[g5],Jk.snoc g6 (by simp[g5])⟩
     refine Qn (fun o ho=>?_) hK o1 t1
     have hset:(setObj b (.map ((l++[(⟨ku,a.eval y,clk⟩:MapEntry)]).toArray) (clk+1))).run P w=.ok () (Jj w b (.map ((l++[(⟨ku,a.eval y,clk⟩:MapEntry)]).toArray) (clk+1))):=by simp[setObj,Sem.run,g2,Jj]
     rcases hop with rfl | rfl<;>simp[execOp,ho,Instr.mapUpdate,r1,r2',Xc ht,hget,hck,f1]<;>(rw[hset]; simp)
    ·have f4:=Xxv hku r3 es l v' j e g3 hall f6 f2 f3
     obtain⟨t1,o1⟩:=Xjl (clk':=clk) hO hl g1 g2 f4 ⟨by simp[g5],Jk.mdf g6 j _ _⟩
     refine Qn (fun o ho=>?_) hK o1 t1
     have hks:(Instr.keyThatStays e.key ku).run P w=.ok ku w:=by simp[Instr.keyThatStays,f3,Xjb hku]
     have hm:(l.toArray.modify j fun e=>{ e with key:=ku,val:=a.eval y })=(l.modify j fun e=>{ e with key:=ku,val:=a.eval y }).toArray:=by simp
     have hset:(setObj b (.map (l.modify j fun e=>{ e with key:=ku,val:=a.eval y }).toArray clk)).run P w=.ok () (Jj w b (.map (l.modify j fun e=>{ e with key:=ku,val:=a.eval y }).toArray clk)):=by simp[setObj,Sem.run,g2,Jj]
     rcases hop with rfl | rfl<;>simp[execOp,ho,Instr.mapUpdate,r1,r2',Xc ht,hget,hck,f1,f2,hks]<;>(rw[hset]; simp)
   ·rw[g1]at g4; cases g4
  ·exact h.elim
 ·exact h.elim

theorem Xzj {P:Prg}(hg:ρ.gl=P.g)(hO:OM w ρ ob){op:Op}{g n:Nat}{ag:Bool}{x:D}(hc:I.chk P.p op (.gld g n ag x)=true)(h:GlobIs P g x/\x.sz=n/\(V.d x).isAgg=ag/\K (.d x) ob):Vh P.p a w ρ op K Pn:=by
 obtain⟨t,hop,h1,h2,h3⟩:∃t,op=.load t (.global g)/\X7 P.p t=some n/\(P.p.underlying t).isSome=true/\agT P.p t=ag:=by
  simp only[I.chk]at hc
  split at hc
  ·rename_i t hh
   simp only[Bool.and_eq_true,beq_iff_eq]at hc
   obtain⟨⟨⟨rfl,h1⟩,h2⟩,h3⟩:=hc
   exact⟨t,rfl,h1,h2,h3⟩
  ·cases hc
 obtain⟨⟨cs,T,f,hgl,hx⟩,hsz,hag,hK⟩:=h
 obtain⟨hh,hno⟩:=hO.glb g _ (by rw[hg]; exact hgl)
 have hrep:x.rep w (own ρ) cs:=D.isC_rep x cs hx
 have hr:(V.d (.ref x)).rep w ρ (.pointer (some ⟨g,0,none⟩)):=Vw.2 ⟨⟨g,0,none⟩,cs,rfl,rfl,⟨fun _=>⟨rfl,hno,Xh hh⟩,fun i hi=>by simp[World.cell?,hh,hi]⟩,hrep⟩
 let a2:Act:=⟨#[.pointer (some ⟨g,0,none⟩)],[]⟩
 have hs2:SM w ρ [(0,.d (.ref x))] a2:=by
  intro k
  simp only[look]
  split
  ·rename_i e; subst e; exact hr
  ·exact Uc
 obtain⟨v,y,hK2,hr2,hrun⟩:=Uq (P:=P.p) (K:=fun v=>v=V.d x) (a:=a2) (n:=n) (ag:=ag) (x:=.t 0) (op:=.load t (.tmp 0)) hs2 hO (by simp[C.chk,h1,h2,h3,A.chk]) (by simp[A.ev,look,ldK,hsz,hag])
 subst hK2
 refine Xl (fun o ho=>?_) hK hr2 hO (Tr.refl _ _)
 have:=hrun ⟨none,.load t (.tmp 0),0, "", #[],none⟩ rfl w (fun _=>Ext.refl w)
 simp only[execOp,Act.eval,a2]at this
 simp only[execOp,ho,hop,Act.eval]
 simpa using this

theorem Xzv (hs:SM w ρ sl a)(hO:OM w ρ ob){op:Op}{n z:Nat}{x:A}(hc:I.chk P op (.slg n z x)=true)(h:X4r ob n z K (x.ev sl)):Vh P a w ρ op K Pn:=by
 obtain⟨t,x1,e,hop,ht,he,hx⟩:∃t x1 e,op=.slice t x1 none none none/\P.underlying t=some (.array n e)/\X7 P e=some z/\A.chk x1 x=true:=by
  simp only[I.chk]at hc
  split at hc
  ·rename_i t x1
   simp only[Bool.and_eq_true]at hc
   obtain⟨h0,h1⟩:=hc
   split at h0
   ·rename_i m e hu
    simp only[Bool.and_eq_true,beq_iff_eq]at h0
    obtain⟨rfl,h0⟩:=h0
    exact⟨t,x1,e,rfl,hu,h0,h1⟩
   ·cases h0
  ·cases hc
 have r1:=A.sound hs hx
 unfold X4r at h
 split at h
 ·rename_i id p e1
  rw[e1]at r1
  unfold Xqg at h
  split at h
  ·rename_i xs hat
   obtain⟨hl,hz,hK⟩:=h
   obtain⟨t0,b',cs,E,g1,g2,g3,g4,g5⟩:=Qm hO hat
   obtain⟨b,sh,hρ,r1⟩:=Yi hO g1 r1
   rw[hρ]at g3
   simp only[Option.some.injEq,RO.box.injEq]at g3
   obtain⟨rfl,rfl⟩:=g3
   obtain⟨t1,o1,hno⟩:=Xb2 hO (id:=id) ⟨_,g1⟩
   obtain⟨c1,c2,c3,q1,q2,q3⟩:=V.repC_at p t0 _ cs g5 g2
   simp only[V.repC,D.rep]at q3
   refine Xl (v:=.slice (some ⟨b,t0.shape.off p,none⟩) n n) (fun o ho=>?_) hK ?_ o1 t1
   ·simp only[execOp,ho,hop,r1,Option.map_none,Instr.sliceAt,Sem.run_bind,Xc ht,Result.andThen_ok,Instr.sureAddr,Sem.run_pure,Instr.sliceBounds,Xs he]
    simp only[Nat.zero_mul,Nat.sub_zero]
    rw[Addr.add_eq rfl]
    simp
   ·rw[Yj]
    refine .inr ⟨⟨b,t0.shape.off p,none⟩,n,c2,by rw[hl],by omega,⟨fun _=>⟨rfl,hno b _ hρ rfl,Xh g4⟩,fun i hi=>?_⟩,D.repL_mono t1.mono _ _ q3,hz⟩
    rw[<-q2]
    simp[World.cell?,g4,q1,List.getElem?_append,hi]
  ·exact h.elim
 ·exact h.elim

theorem Xzu (hs:SM w ρ sl a)(hO:OM w ρ ob){op:Op}{n z:Nat}{x:A}{lo hi:Option A}(hc:I.chk P op (.slb n z x lo hi)=true)(h:Ych ob n z (lo.map (A.ev sl)) (hi.map (A.ev sl)) K (x.ev sl)):Vh P a w ρ op K Pn:=by
 cases op<;>simp only[I.chk,Bool.false_eq_true]at hc
 rename_i t x1 l1 h1 m1
 cases m1<;>simp only[Bool.false_eq_true]at hc
 simp only[Bool.and_eq_true]at hc
 obtain⟨⟨⟨h0,hx⟩,hlo⟩,hhi⟩:=hc
 obtain⟨e,ht,he⟩:∃e,P.underlying t=some (.array n e)/\X7 P e=some z:=by
  revert h0; split
  ·rename_i m e hu
   simp only[Bool.and_eq_true,beq_iff_eq]
   rintro⟨rfl,h0⟩
   exact⟨e,hu,h0⟩
  ·simp
 have r1:=A.sound hs hx
 unfold Ych at h
 split at h
 ·rename_i id p e1
  rw[e1]at r1
  cases hat:atO ob id p with
  | none=>simp[hat,Zc,Xqe]at h
  | some v=>
   cases hk:v.kids with
   | none=>simp[hat,Zc,hk,Xqe]at h
   | some ks=>
    simp only[hat,Zc,hk,Xqe]at h
    obtain⟨hlen,hz,h⟩:=h
    obtain⟨t0,b',cs,E,g1,g2,g3,g4,g5⟩:=Qm hO hat
    obtain⟨b,sh,hρ,r1⟩:=Yi hO g1 r1
    rw[hρ]at g3
    simp only[Option.some.injEq,RO.box.injEq]at g3
    obtain⟨rfl,rfl⟩:=g3
    obtain⟨l,h',hK,q1,q2,hr⟩:=Ug (P:=P) (cap:=n) (isS:=false) hs (Nat.le_refl _) hlo hhi h
    refine Xl (v:=.slice (some (if n=l then⟨b,t0.shape.off p,none⟩ else (⟨b,t0.shape.off p,none⟩:Addr).add (l*z))) (h'-l) (n-l)) (fun o ho=>?_) hK ?_ hO (Tr.refl _ _)
    ·simp only[execOp,ho,r1,Instr.sliceAt,Sem.run_bind,Xc ht,Result.andThen_ok,Instr.sureAddr,Sem.run_pure,Option.map_none,hr,Xs he]
    ·rw[Xi8]
     refine .inl ⟨b,t0.shape,n-l,if n=l then t0.shape.off p else t0.shape.off p+l*z,hρ,⟨by omega,fun hne=>?_⟩,?_⟩
     ·rw[if_neg (by omega),Sh.off_append _ p t0 v l rfl g2,Xcd hk,X8 (z:=z) _ (fun x hx=>hz x (List.mem_of_mem_take hx)),List.length_take,Nat.min_eq_left (by omega)]
     ·split
      ·rfl
      ·rw[Addr.add_eq rfl]
 ·exact h.elim
theorem Xsf (hO:OM w ρ ob){id lo n z:Nat}{p:List Nat}{ys:List D}{vs:List Value}{r:V}{u:Value}(hu:(V.bs id p lo n).rep w ρ u)(hy:D.repL w (own ρ) ys vs)(hz:∀y∈ys,y.sz=z)(hn:ys.length<=n)
  (h:Xxz ob id p lo n z ys r K (Xe ob id)):∃b f cap w' ob',u=.slice (some ⟨b,f,none⟩) n cap/\(storeCells ⟨b,f,none⟩ vs).run P w=.ok () w'/\Tr w ρ w' ρ/\OM w' ρ ob'/\K r ob':=by
 unfold Xxz at h
 split at h
 ·rename_i E t hl
  unfold Yn9 at h
  split at h
  ·rename_i xs hat
   obtain⟨hle,hxz,hsh,t',hset,hK⟩:=h
   obtain⟨b,cs,g1,g2,g3⟩:=hO.one id _ hl
   rw[Xi8]at hu
   rcases hu with⟨b',sh,cap,f,q1,⟨q2,q3⟩,q4⟩ | ⟨q1,_⟩
   case inr=>rw[q1]at g1; cases g1
   rw[g1]at q1
   simp only[Option.some.injEq,RO.box.injEq]at q1
   obtain⟨rfl,rfl⟩:=q1
   obtain⟨c1,c2,c3,e2,e3,h4⟩:=V.repC_at p t _ cs g3 hat
   simp only[V.repC,D.rep]at h4
   have hvl:vs.length=ys.length*z:=by rw[D.repL_len _ _ hy,D.szs_uniform _ hz]
   have hc2:c2.length=xs.length*z:=by rw[D.repL_len _ _ h4,D.szs_uniform _ hxz]
   have tk:∀i,i<=xs.length->D.szs (xs.take i)=i*z:=fun i hi=>by
    rw[D.szs_uniform (sz:=z) _ (fun y hy=>hxz y (List.mem_of_mem_take hy)),List.length_take,Nat.min_eq_left hi]
   have s1:=(D.repL_split xs lo c2 h4).1
   have s2:=(D.repL_split xs (lo+ys.length) c2 h4).2
   rw[tk lo (by omega)]at s1
   rw[tk (lo+ys.length) (by omega)]at s2
   have hnew:D.repL w (own ρ) (Xga lo xs ys) (c2.take (lo*z)++(vs++c2.drop ((lo+ys.length)*z))):=D.repL_append s1 (D.repL_append hy s2)
   have hlz:(lo+ys.length)*z<=c2.length:=by rw[hc2]; exact Nat.mul_le_mul_right z (by omega)
   have hlz2:lo*z+vs.length=(lo+ys.length)*z:=by rw[hvl,Nat.add_mul]
   obtain⟨t'',e4,e5,h6⟩:=V.repC_set p t _ (.d (.agg (Xga lo xs ys))) cs _ g3 hat (by simp only[V.repC,D.rep]; exact hnew) (by simpa only[V.shape]using hsh)
   rw[hset]at e4
   simp only[Option.some.injEq]at e4
   subst e4
   have e7:cs.take (t.shape.off p)++(c2.take (lo*z)++(vs++c2.drop ((lo+ys.length)*z))++cs.drop (t.shape.off p+(c2.take (lo*z)++(vs++c2.drop ((lo+ys.length)*z))).length))=c1++((c2.take (lo*z)++(vs++c2.drop ((lo+ys.length)*z)))++c3):=by
    have hl2:(c2.take (lo*z)++(vs++c2.drop ((lo+ys.length)*z))).length=c2.length:=by
     simp only[List.length_append,List.length_take,List.length_drop]; omega
    rw[hl2,<-e3,e2,List.take_left,<-List.append_assoc c1 c2 c3,<-List.length_append,List.drop_left]
   rw[e7]at h6
   by_cases hn0:n=0
   ·have hy0:ys=[]:=List.eq_nil_of_length_eq_zero (by omega)
    subst hy0
    have hv0:vs=[]:=List.eq_nil_of_length_eq_zero (by simpa using hvl)
    subst hv0
    have e8:c1++((c2.take (lo*z)++([]++c2.drop ((lo+([]:List D).length)*z)))++c3)=cs:=by rw[e2]; simp
    rw[e8]at h6
    exact⟨b,f,cap,w,_,q4,by simp[storeCells],Tr.refl _ _,hO.swap hl (x':=.box E t') ⟨b,cs,by rw[e5]; exact g1,g2,h6⟩,hK⟩
   ·have hf:=q3 hn0
    have hks:(V.d (.agg xs)).kids=some (xs.map .d):=rfl
    have hoff:t.shape.off (p++[lo])=t.shape.off p+lo*z:=by
     rw[Sh.off_append _ p t _ lo rfl hat,Xcd hks,X8 (z:=z) _ (fun x hx=>?_),List.length_take,List.length_map,Nat.min_eq_left (by omega)]
     obtain⟨y,hy,rfl⟩:=List.mem_map.1 (List.mem_of_mem_take hx)
     simp[V.size,V.shape,D.size_shape,hxz y hy]
    obtain⟨t1,o1⟩:=Xcy hO hl g1 g2 e5 h6
    have hrun:=run_storeCells_at (P:=P) b (t.shape.off p+lo*z) E vs 0 cs.toArray w g2 (by rw[e2,<-e3]; simp; omega) (D.ones ys vs hy)
    refine⟨b,f,cap,_,_,q4,?_,t1,o1,hK⟩
    rw[hf,hoff,hrun]
    congr 2
    simp only[Nat.add_zero]
    rw[e2,<-e3,List.take_length_add_append,Nat.add_assoc,List.drop_length_add_append,hlz2,List.take_append_of_le_length (by omega),List.drop_append_of_le_length hlz]
    simp
  ·exact h.elim
 ·exact h.elim
theorem Xzh (hs:SM w ρ sl a)(hO:OM w ρ ob){op:Op}{z:Nat}{x y:A}(hc:I.chk P op (.cpy z x y)=true)(h:Yob z ob K (x.ev sl) (y.ev sl)):Vh P a w ρ op K Pn:=by
 cases op<;>simp only[I.chk,Bool.false_eq_true]at hc
 rename_i c
 obtain⟨ca,args,ts⟩:=c
 cases ca<;>(try simp only[Bool.false_eq_true]at hc)
 rename_i b
 cases b<;>(try simp only[Bool.false_eq_true]at hc)
 split at hc
 ·rename_i u v t t2 e1 e2
  simp only[Bool.and_eq_true]at hc
  obtain⟨⟨h0,h1⟩,h2⟩:=hc
  have ea:args=#[u,v]:=by simpa using congrArg List.toArray e1
  have et:ts=#[t,t2]:=by simpa using congrArg List.toArray e2
  subst ea et
  obtain⟨e,ht,he,hz0⟩:∃e,P.underlying t=some (.slice e)/\X7 P e=some z/\z ≠ 0:=by
   revert h0; split<;>simp_all
  have r1:=A.sound hs h1
  have r2:=A.sound hs h2
  unfold Yob at h
  split at h
  ·rename_i id p lo n z' ys e3 e4
   obtain⟨rfl,h⟩:=h
   rw[e3]at r1
   rw[e4,Yj]at r2
   have key:∃vs,D.repL w (own ρ) (ys.take n) vs/\(∀y∈ys.take n,y.sz=z')/\(Builtin.lenOf (a.eval v)).run P w=.ok ys.length w/\(Builtin.firstCells z' (Nat.min ys.length n) (a.eval v)).run P w=.ok vs.toArray w:=by
    rcases r2 with⟨rfl,r2⟩ | ⟨ad,cap,vs,r2,hcap,hce,hre,hu⟩
    ·exact⟨[],by simp[D.repL],by simp,by simp[r2,Builtin.lenOf],by simp[r2,Builtin.firstCells]⟩
    ·have s1:=(D.repL_split ys n vs hre).1
     have hvl:vs.length=ys.length*z':=by rw[D.repL_len _ _ hre,D.szs_uniform _ hu]
     have tk:D.szs (ys.take n)=Nat.min ys.length n*z':=by
      rw[D.szs_uniform (sz:=z') _ (fun y hy=>hu y (List.mem_of_mem_take hy)),List.length_take,Nat.min_comm]
     rw[tk]at s1
     refine⟨_,s1,fun y hy=>hu y (List.mem_of_mem_take hy),by simp[r2,Builtin.lenOf],?_⟩
     have hlen:(vs.take (Nat.min ys.length n*z')).length=Nat.min ys.length n*z':=by
      rw[List.length_take,hvl,Nat.min_eq_left (Nat.mul_le_mul_right z' (Nat.min_le_left _ _))]
     have hl:=run_loadCells_list (P:=P) (w:=w) ad (vs.take (Nat.min ys.length n*z')) (fun j c hj=>by
      obtain⟨hj',e⟩:=List.getElem?_eq_some_iff.1 hj
      have hj2:j<vs.length:=by rw[List.length_take]at hj'; omega
      have hne:vs ≠ []:=by intro h; simp[h]at hj2
      rw[Addr.add_eq (hce.1 hne).1,<-e,List.getElem_take]
      exact hce.2 j hj2)
     rw[hlen]at hl
     rw[r2]
     simpa only[Builtin.firstCells]using hl
   obtain⟨vs,hy,hz,hlen,hfc⟩:=key
   obtain⟨b,f,cap,w',ob',q1,q2,t1,o1,hK⟩:=Xsf (P:=P) hO r1 hy hz (by rw[List.length_take]; omega) h
   refine Xl (v:=.int .i64 (Nat.min ys.length n:Nat)) (fun o ho=>?_) hK (X2.2 rfl) o1 t1
   have hcopy:∀ty,(Builtin.copy_ #[t,t2] ty #[a.eval u,a.eval v]).run P w=.ok (goInt (Nat.min ys.length n)) w':=by
    intro ty
    unfold Builtin.copy_
    have e0:(#[t,t2]:Array TypeId)[0]? = some t:=rfl
    have ev0:(#[a.eval u,a.eval v]:Array Value)[0]? = some (a.eval u):=rfl
    have ev1:(#[a.eval u,a.eval v]:Array Value)[1]? = some (a.eval v):=rfl
    rw[e0,ev0,ev1,q1]
    simp only[Sem.run_bind,Xc ht,Result.andThen_ok,hlen,Xs he,hfc,q2,Sem.run_pure]
   simp only[execOp,ho,resolve,invoke,builtin,Sem.run_bind,Sem.run_pure,Result.andThen_ok,List.map_toArray,List.map_cons,List.map_nil,hcopy]
   rfl
  ·exact h.elim
 ·simp at hc
theorem Xzg (hs:SM w ρ sl a)(hO:OM w ρ ob){op:Op}{z0:D}{z:Nat}{x:A}(hc:I.chk P op (.clr z0 z x)=true)(h:Yoa z0 z ob K (x.ev sl)):Vh P a w ρ op K Pn:=by
 cases op<;>simp only[I.chk,Bool.false_eq_true]at hc
 rename_i c
 obtain⟨ca,args,ts⟩:=c
 cases ca<;>(try simp only[Bool.false_eq_true]at hc)
 rename_i b
 cases b<;>(try simp only[Bool.false_eq_true]at hc)
 split at hc
 ·rename_i u t e1 e2
  simp only[Bool.and_eq_true]at hc
  obtain⟨h0,h1⟩:=hc
  have ea:args=#[u]:=by simpa using congrArg List.toArray e1
  have et:ts=#[t]:=by simpa using congrArg List.toArray e2
  subst ea et
  obtain⟨e,ht,he,hz0,cs,hzt,hzc0⟩:∃e,P.underlying t=some (.slice e)/\X7 P e=some z/\z ≠ 0/\∃cs,Vs P e=some cs/\D.isC z0 cs=true:=by
   revert h0; split
   ·rename_i e hu
    simp only[Bool.and_eq_true,beq_iff_eq,bne_iff_ne,ne_eq]
    rintro⟨⟨h2,h3⟩,h4⟩
    refine⟨e,hu,h2,h3,?_⟩
    cases hz:Vs P e with
    | none=>simp[hz]at h4
    | some cs=>simp only[hz]at h4; exact⟨cs,rfl,h4⟩
   ·simp
  obtain⟨zv,ez,_,hzrun⟩:=Vt hzt
  have r1:=A.sound hs h1
  unfold Yoa at h
  split at h
  ·rename_i id p lo n e3
   rw[e3]at r1
   have e0:(#[t]:Array TypeId)[0]? = some t:=rfl
   have ev0:(#[a.eval u]:Array Value)[0]? = some (a.eval u):=rfl
   by_cases hn:n=0
   ·subst hn
    obtain⟨⟨E,t0,hl⟩,h⟩:=h.1 rfl
    refine Xl (v:=.tuple #[]) (fun o ho=>?_) h (Zd.2 ⟨[],rfl,rfl⟩) hO (Tr.refl _ _)
    have hclr:∀ty,(Builtin.clear_ #[t] ty #[a.eval u]).run P w=.ok (.tuple #[]) w:=by
     intro ty
     unfold Builtin.clear_
     rw[e0,ev0]
     rw[Xi8]at r1
     rcases r1 with⟨b,sh,cap,f,_,_,r1⟩ | ⟨hg,_⟩
     ·rw[r1]
      simp only[Sem.run_bind,Xc ht,Result.andThen_ok,Sem.run_pure]
     ·obtain⟨b,cs,h5,_⟩:=hO.one id _ hl
      rw[hg]at h5; cases h5
    simp only[execOp,ho,resolve,invoke,builtin,Sem.run_bind,Sem.run_pure,Result.andThen_ok,List.map_toArray,List.map_cons,List.map_nil,hclr]
   ·obtain⟨⟨hsz,hz1⟩,h⟩:=h.2 hn
    have hrows:∀m,D.repL w (own ρ) (List.replicate m z0) (List.replicate m cs).flatten:=by
     intro m
     induction m with
     | zero=>simp[D.repL]
     | succ m ih=>simp only[List.replicate_succ,List.flatten_cons,D.repL]; exact⟨cs,_,rfl,D.isC_rep z0 cs hzc0,ih⟩
    have hrow:=hrows n
    obtain⟨b,f,cap,w',ob',q1,q2,t1,o1,hK⟩:=Xsf (P:=P) hO r1 hrow (fun y hy=>by rw[List.eq_of_mem_replicate hy]; exact hsz) (by simp) h
    refine Xl (v:=.tuple #[]) (fun o ho=>?_) hK (Zd.2 ⟨[],rfl,rfl⟩) o1 t1
    have hclr:∀ty,(Builtin.clear_ #[t] ty #[a.eval u]).run P w=.ok (.tuple #[]) w':=by
     intro ty
     unfold Builtin.clear_
     rw[e0,ev0,q1]
     obtain⟨m,rfl⟩:∃m,n=m+1:=⟨n-1,by omega⟩
     have hzc:(Builtin.zeroCells zv.cells (m+1)).toList=(List.replicate (m+1) cs).flatten:=by
      have hl1:cs.length=1:=by rw[D.rep_len _ _ (D.isC_rep (w:=w) (ρ:=ρ) z0 cs hzc0),hsz,hz1]
      obtain⟨c,rfl⟩:=List.length_eq_one_iff.1 hl1
      have ez2:zv.cells=#[c]:=by apply Array.ext'; exact ez
      simp only[Builtin.zeroCells,ez2]
      apply List.ext_getElem
      ·simp
      ·intro i h1 h2
       simp[Nat.mod_one]
     simp only[Sem.run_bind,Xc ht,Result.andThen_ok,hzrun,hzc,q2,Sem.run_pure]
    simp only[execOp,ho,resolve,invoke,builtin,Sem.run_bind,Sem.run_pure,Result.andThen_ok,List.map_toArray,List.map_cons,List.map_nil,hclr]
  ·exact h.elim
 ·simp at hc
theorem Xmo {P:Prg}(hg:ρ.gl=P.g)(hs:SM w ρ sl a)(hO:OM w ρ ob){op:Op}{g n z:Nat}{x:D}{i:A}(hc:I.chk P.p op (.gix g n z x i)=true)(h:GlobIs P g x/\Yog n z (fun v=>K v ob) x (i.ev sl)):Xl4 P.p a w ρ op ob K:=by
 obtain⟨t,j,e,hop,ht,he,hj⟩:∃t j e,op=.indexAddr t (.global g) j/\P.p.underlying t=some (.array n e)/\X7 P.p e=some z/\A.chk j i=true:=by
  simp only[I.chk]at hc
  split at hc
  ·rename_i t hh j
   simp only[Bool.and_eq_true,beq_iff_eq]at hc
   obtain⟨⟨rfl,h0⟩,h1⟩:=hc
   split at h0
   ·rename_i m e hu
    simp only[Bool.and_eq_true,beq_iff_eq]at h0
    obtain⟨rfl,h0⟩:=h0
    exact⟨t,j,e,rfl,hu,h0,h1⟩
   ·cases h0
  ·cases hc
 obtain⟨⟨cs,T,f,hgl,hx⟩,h⟩:=h
 obtain⟨hh,hno⟩:=hO.glb g _ (by rw[hg]; exact hgl)
 have hrep:x.rep w (own ρ) cs:=D.isC_rep x cs hx
 have hr:(V.d (.ref x)).rep w ρ (.pointer (some ⟨g,0,none⟩)):=Vw.2 ⟨⟨g,0,none⟩,cs,rfl,rfl,⟨fun _=>⟨rfl,hno,Xh hh⟩,fun i hi=>by simp[World.cell?,hh,hi]⟩,hrep⟩
 have r2:=A.sound hs hj
 let a2:Act:=⟨#[.pointer (some ⟨g,0,none⟩),a.eval j],[]⟩
 have hs2:SM w ρ [(0,.d (.ref x)),(1,i.ev sl)] a2:=by
  intro k
  simp only[look]
  split
  ·rename_i e; subst e; exact hr
  ·split
   ·rename_i e; subst e; exact r2
   ·exact Uc
 unfold Yog at h
 split at h
 ·rename_i xs k m e1
  obtain⟨hm,hl,hz,hK⟩:=h
  obtain⟨v,y,hK2,hr2,hrun⟩:=Xeg (P:=P.p) (K:=fun v=>v=V.d (.ref (xs.getD m.toNat default))) (a:=a2) (n:=n) (z:=z) (x:=.t 0) (y:=.t 1) (op:=.indexAddr t (.tmp 0) (.tmp 1)) hs2 hO (by simp[C.chk,ht,he,A.chk]) (by
   have q0:A.ev [(0,V.d (.ref (.agg xs))),(1,i.ev sl)] (.t 0)=.d (.ref (.agg xs)):=rfl
   have q1:A.ev [(0,V.d (.ref (.agg xs))),(1,i.ev sl)] (.t 1)=.d (.int k m):=by rw[<-e1]; rfl
   rw[q0,q1]; exact⟨hm,hl,hz,rfl⟩)
  subst hK2
  refine⟨_,_,w,hK,hr2,Ext.refl w,fun o ho=>?_⟩
  have:=hrun ⟨none,.indexAddr t (.tmp 0) (.tmp 1),0, "", #[],none⟩ rfl w (fun _=>Ext.refl w)
  simp only[execOp,Act.eval,a2]at this
  simp only[execOp,ho,hop,Act.eval]
  simpa using this
 ·exact h.elim

theorem Xwy (zs:List Value)(hz:zs.length ≠ 0):∀n:Nat,((Array.range (n*zs.length)).map (fun i=>zs.toArray[i % zs.toArray.size]!))=((List.replicate n zs).flatten).toArray:=by
 intro n
 apply Array.ext'
 simp only[Array.toList_map,Array.toList_range,List.toList_toArray]
 induction n with
 | zero=>simp
 | succ n ih=>
  rw[List.replicate_succ,List.flatten_cons,<-ih,Nat.succ_mul,Nat.add_comm,List.range_add,List.map_append,List.map_map]
  congr 1
  ·apply List.ext_getElem
   ·simp
   ·intro i h1 h2
    simp only[List.length_map,List.length_range]at h1
    simp[Nat.mod_eq_of_lt h1,h1]
  ·apply List.map_congr_left
   intro i _
   simp

theorem Xzp (hs:SM w ρ sl a)(hO:OM w ρ ob){op:Op}{E sz B:Nat}{z:D}{l:A}(hc:I.chk P op (.mks E sz B z l)=true)(h:Yoi E sz B z ob K (l.ev sl)):Vh P a w ρ op K Pn:=by
 cases op<;>simp only[I.chk,Bool.false_eq_true]at hc
 rename_i t x y
 simp only[Bool.and_eq_true,bne_iff_ne,ne_eq,beq_iff_eq]at hc
 obtain⟨⟨⟨⟨⟨⟨⟨h1,h2⟩,h3⟩,h4⟩,h5⟩,h6⟩,h7⟩,h8⟩:=hc
 have ht:P.underlying t=some (.slice E):=by
  revert h3; split
  ·rename_i e he; intro h; simp at h; subst h; exact he
  ·intro h; cases h
 obtain⟨info,hi,hi1,hi2⟩:∃info,P.info? E=some info/\info.size=sz/\info.bytes=B:=by
  revert h4; split
  ·rename_i i hi; intro h; simp at h; exact⟨i,hi,h.1,h.2⟩
  ·intro h; cases h
 obtain⟨cs,hzt,hzc,hzl⟩:∃cs,Vs P E=some cs/\D.isC z cs=true/\cs.length=sz:=by
  revert h7; split
  ·rename_i cs hz; intro h; simp at h; exact⟨cs,hz,h.1,h.2⟩
  ·intro h; cases h
 have r1:=A.sound hs h1
 have r2:=A.sound hs h2
 unfold Yoi at h
 split at h
 ·rename_i m e1
  obtain⟨hm0,hmB,hK⟩:=h
  rw[e1,X2]at r1 r2
  have hmle:m<=281474976710656:=by
   have:m*1<=m*(B:Int):=Int.mul_le_mul_of_nonneg_left (by omega) hm0
   omega
  have hwr:IntKind.i64.wrap m=m:=by
   have e0:m % (2 ^ IntKind.i64.bits:Int)=m:=Int.emod_eq_of_lt hm0 (by show m<2 ^ 64; omega)
   have e2:¬m≥(2 ^ (IntKind.i64.bits-1):Int):=by show ¬m≥2 ^ 63; omega
   simp only[IntKind.wrap,e0,e2,decide_false,Bool.and_false,Bool.false_eq_true,if_false]
  obtain⟨zv,ez,_,hzrun⟩:=Vt hzt
  have hti:∀w',(typeInfo E).run P w'=.ok info w':=fun w'=>by simp[typeInfo,hi]
  have hsz:X7 P E=some sz:=by simp[X7,hi,hi1]
  have he2:=Y3 w (.cells ((List.replicate m.toNat cs).flatten).toArray E)
  have hbl:∀b,(RO.arr w.heap.size m.toNat m.toNat).blk? = some b->w.heap.size<=b:=fun b hb=>by simp[RO.blk?]at hb; omega
  have hfree:=X0 ob
  have t1:=Wu _ he2 (o:=.arr w.heap.size m.toNat m.toNat) (hO.free hfree) hbl
  have hrows:∀n,D.repL w (own ρ) (List.replicate n z) (List.replicate n cs).flatten:=by
   intro n
   induction n with
   | zero=>simp[D.repL]
   | succ n ih=>simp only[List.replicate_succ,List.flatten_cons,D.repL]; exact⟨cs,_,rfl,D.isC_rep z cs hzc,ih⟩
  refine Xl (v:=.slice (some ⟨w.heap.size,0,none⟩) m.toNat m.toNat) (fun o ho=>?_) hK (Yg.2 ⟨_,by simp[Env.ins]; rfl,?_⟩) (hO.ins he2 hfree hbl ?_) t1
  ·have hb1:¬((B:Int)*m > 2 ^ 48):=by rw[Int.mul_comm]; omega
   have hg:∀n,(Array.range n).map (fun i=>zv.cells[i % zv.cells.size]!)=(Array.range n).map (fun i=>cs.toArray[i % cs.toArray.size]!):=fun n=>by
    have:zv.cells=cs.toArray:=by rw[<-ez]
    rw[this]
   have hcond:(decide (m<0)||decide ((B:Int)*m > 2 ^ 48)||decide (m<0)||decide (m > m))=false:=by
    simp only[Bool.or_eq_false_iff,decide_eq_false_iff_not]; omega
   simp only[execOp,ho,Instr.makeSlice,Sem.run_bind,Xc ht,Result.andThen_ok,r1,r2,asInt,asIntOf,Sem.run_pure,hti,hi2,hwr,hcond,Bool.false_eq_true,if_false,run_askRoom,Xs hsz]
   by_cases h0:m.toNat=0
   ·have e0:(Array.map (fun x=>(#[]:Array Value)[x % (#[]:Array Value).size]!) (Array.range 0))=(List.replicate 0 cs).flatten.toArray:=by simp
    simp only[h0,Nat.zero_mul,if_true,Sem.run_pure,Result.andThen_ok,newRow,Sem.run_bind,run_newObj]
    rw[e0]; rfl
   ·have h00:m.toNat*sz ≠ 0:=Nat.mul_ne_zero h0 h5
    simp only[h00,if_false,Sem.run_bind,hzrun,Result.andThen_ok,Sem.run_pure,newRow,run_newObj,hg]
    have:=Xwy cs (by rw[hzl]; exact h5) m.toNat
    rw[hzl]at this
    rw[this]
    rfl
  ·simp[RO.slice]
  ·refine .inr ⟨w.heap.size,m.toNat,(List.replicate m.toNat cs).flatten,[],by simp[Env.ins],by simpa using Y9 w (.cells ((List.replicate m.toNat cs).flatten).toArray E),D.repL_mono t1.mono _ _ (hrows _),fun x hx=>by rw[List.eq_of_mem_replicate hx]; exact h8,?_⟩
   simp[hzl]
 ·exact h.elim

theorem X56 (h:OM w ρ ob){id E sz k b cap:Nat}{xs:List D}(hl:Xe ob id=some (.arr E sz xs))(hr:ρ.m id=some (.arr b xs.length cap))(hk:k<=xs.length)(hsz:sz ≠ 0) :
  Tr w ρ w ((ρ.ins id .gone).ins (Xa ob) (.arr b k cap))/\OM w ((ρ.ins id .gone).ins (Xa ob) (.arr b k cap)) ((Xa ob,.arr E sz (xs.take k))::setO ob id .gone):=by
 have hne:id ≠ Xa ob:=fun e=>by rw[e,X0]at hl; cases hl
 have hfm:ρ.m (Xa ob)=none:=h.free (X0 ob)
 let ρ1:=(ρ.ins id .gone).ins (Xa ob) (.arr b k cap)
 have hm1:ρ1.m (Xa ob)=some (.arr b k cap):=by simp[ρ1,Env.ins]
 have hm2:ρ1.m id=some .gone:=by simp[ρ1,Env.ins,hne]
 have hm3:∀j,j ≠ Xa ob->j ≠ id->ρ1.m j=ρ.m j:=fun j h1 h2=>by simp[ρ1,Env.ins,h1,h2]
 have t1:Tr w ρ w ρ1:=by
  refine⟨Nat.le_refl _,fun _ _ _=>rfl,fun c hc=>.inl ?_,rfl,rfl,fun j o hj=>?_,rfl,rfl,rfl,Nat.le_refl _⟩
  ·obtain⟨j,o,h1,h2⟩:=hc
   by_cases e1:j=Xa ob
   ·subst e1; rw[hm1]at h1; cases h1; simp[RO.blk?]at h2; subst h2; exact⟨id,_,hr,rfl⟩
   ·by_cases e2:j=id
    ·subst e2; rw[hm2]at h1; cases h1; simp[RO.blk?]at h2
    ·rw[hm3 j e1 e2]at h1; exact⟨j,o,h1,h2⟩
  ·by_cases e1:j=Xa ob
   ·subst e1; rw[hfm]at hj; cases hj
   ·by_cases e2:j=id
    ·subst e2; exact⟨_,hm2,.gone o⟩
    ·exact⟨o,by rw[hm3 j e1 e2]; exact hj,.refl o⟩
 refine⟨t1,⟨fun j y hy=>?_,fun j o hj=>?_,fun i j p q c h1 h2 h3 h4=>?_,h.xlt,Qt t1 h.glb,fun c hc=>?_,⟨?_,h.once.set⟩⟩⟩
 ·simp only[Xe]at hy
  split at hy
  ·rename_i e; subst e; simp only[Option.some.injEq]at hy; subst hy
   rcases h.one id _ hl with⟨q,_⟩ | ⟨b',cap',cs,sp,g1,g2,g3,g4,g5⟩
   ·rw[hr]at q; cases q
   ·rw[hr]at g1; simp only[Option.some.injEq,RO.arr.injEq]at g1
    obtain⟨rfl,_,rfl⟩:=g1
    have g3':=D.repL_mono t1.mono _ _ g3
    have q1:=(D.repL_split xs k cs g3').1
    generalize hcn:D.szs (xs.take k)=cn at q1
    refine .inr ⟨b,cap,cs.take cn,cs.drop cn++sp,by rw[hm1]; simp[Nat.min_eq_left hk],by rw[<-List.append_assoc,List.take_append_drop]; exact g2,q1,fun x hx=>g4 x (List.mem_of_mem_take hx),by rw[<-List.append_assoc,List.take_append_drop]; exact g5⟩
  ·rename_i e1
   rw[Xr ob id j ⟨_,hl⟩]at hy
   split at hy
   ·rename_i e; subst e; simp at hy; subst hy; exact hm2
   ·rename_i e2
    exact Vu.tr t1 (h.one j y hy) (hm3 j (fun e=>e1 e.symm) e2) (fun _ _ _ _=>rfl)
 ·simp only[Xe]
  split
  ·exact⟨_,rfl⟩
  ·rename_i e1
   rw[Xr ob id j ⟨_,hl⟩]
   split
   ·exact⟨_,rfl⟩
   ·rename_i e2; exact h.dom j o (by rw[<-hm3 j (fun e=>e1 e.symm) e2]; exact hj)
 ·have back:∀{j:Nat} {o:RO} {c:Nat},ρ1.m j=some o->o.blk? = some c->∃j' o',ρ.m j'=some o'/\o'.blk? = some c/\(j=if j'=id then Xa ob else j'):=by
   intro j o c h1 h2
   by_cases e1:j=Xa ob
   ·subst e1; rw[hm1]at h1; cases h1; simp[RO.blk?]at h2; subst h2; exact⟨id,_,hr,rfl,by simp⟩
   ·by_cases e2:j=id
    ·subst e2; rw[hm2]at h1; cases h1; simp[RO.blk?]at h2
    ·rw[hm3 j e1 e2]at h1; exact⟨j,o,h1,h2,by simp[e2]⟩
  obtain⟨i',p',a1,a2,a3⟩:=back h1 h3
  obtain⟨j',q',b1,b2,b3⟩:=back h2 h4
  have:=h.inj i' j' p' q' c a1 b1 a2 b2
  subst this; rw[a3,b3]
 ·rcases t1.owns c hc with hc | hc
  ·exact h.xdis c hc
  ·intro hx; have:=h.xlt c hx; omega
 ·exact Xcn ob _ (X0 ob)

theorem Xzw (hs:SM w ρ sl a)(hO:OM w ρ ob){op:Op}{z:Nat}{x hh:A}(hc:I.chk P op (.trn z x hh)=true)(h:Ycl z ob K (x.ev sl) (hh.ev sl)):Vh P a w ρ op K Pn:=by
 cases op<;>simp only[I.chk,Bool.false_eq_true]at hc
 rename_i t x1 lo hi mx
 cases lo<;>cases hi<;>cases mx<;>(try simp only[Bool.false_eq_true]at hc)
 ·rename_i h1
  simp only[Bool.and_eq_true]at hc
  obtain⟨⟨h0,hx⟩,hy⟩:=hc
  obtain⟨E,ht,he,hz⟩:∃E,P.underlying t=some (.slice E)/\X7 P E=some z/\z ≠ 0:=by
   revert h0; split
   ·rename_i e he; intro h; simp at h; exact⟨e,he,h.1,h.2⟩
   ·intro h; cases h
  have r1:=A.sound hs hx
  have r2:=A.sound hs hy
  unfold Ycl at h
  split at h
  ·rename_i id n m e1 e2
   rw[e1,Yg]at r1
   rw[e2,X2]at r2
   obtain⟨o,g1,g2⟩:=r1
   unfold Yxb at h
   split at h
   ·rename_i E' sz xs hl
    obtain⟨rfl,rfl,hne,⟨hm0,hmn⟩,hK⟩:=h
    rcases hO.one id _ hl with⟨_,q2⟩ | ⟨b,cap,cs,sp,q1,q2,q3,q4,q5⟩
    ·exact absurd q2 hne
    ·rw[g1]at q1; cases q1
     simp only[RO.slice]at g2
     have e3:a.eval x1=.slice (some ⟨b,0,none⟩) xs.length cap:=by simpa using g2.2.2
     have hcap:xs.length<=cap:=by
      have e4:cs.length=xs.length*sz:=by rw[D.repL_len _ _ q3,D.szs_uniform _ q4]
      have e5:xs.length*sz<=cap*sz:=by rw[<-q5,List.length_append]; omega
      exact Nat.le_of_mul_le_mul_right e5 (by omega)
     obtain⟨t1,o1⟩:=X56 hO (k:=m.toNat) hl g1 (by omega) hz
     refine Xl (v:=.slice (some ⟨b,0,none⟩) m.toNat cap) (fun o ho=>?_) hK (Yg.2 ⟨.arr b m.toNat cap,by simp[Env.ins],?_⟩) o1 t1
     ·have hsb:(Instr.sliceBound (.int .i64 m) cap .sliceAcap).run P w=.ok m.toNat w:=by
       simp only[Instr.sliceBound,asIntOf,Sem.run_bind,Sem.run_pure,Result.andThen_ok]
       rw[if_pos ⟨hm0,by omega⟩]; simp
      simp[execOp,ho,Instr.sliceAt,Instr.slice,e3,r2,Xc ht,Instr.sliceBounds,hsb,Xs he,Addr.add]
     ·simp[RO.slice]
   ·exact h.elim
  ·exact h.elim

theorem I.sound {P:Prg}(hg:ρ.gl=P.g)(hs:SM w ρ sl a)(hO:OM w ρ ob){op:Op}:∀{i:I},i.chk P.p op=true->i.wp P sl ob K Pn->Vh P.p a w ρ op K Pn
 | .c _,hc,h=>Ydf hs hO hc h
 | .box _ _,hc,h=>(Xhg hs hO hc h).does
 | .alloc _ _,hc,h=>(Xbt hO hc h).does
 | .bls _ _ _,hc,h=>(Xmm hs hO hc h).does hO
 | .blo _ _ _ _,hc,h=>(Xhe hs hO hc h).does
 | .st _ _ _,hc,h=>X6d hs hO hc h
 | .app _ _ _ _ _,hc,h=>Xzd hs hO hc h
 | .appS _ _ _ _,hc,h=>Xs1 hs hO hc h
 | .call _ _,hc,h=>Xs2 hg hs hO hc h
 | .pcall _ _,hc,h=>(Xbs hg hs hO hc h).does hO
 | .callv _ _,hc,h=>Xpj hg hs hO hc h
 | .panic _,hc,h=>Xpk hs hO hc h
 | .b2s _,hc,h=>Xzf hs hO hc h
 | .s2b _,hc,h=>(Xmq hs hO hc h).does hO
 | .nilo _ _ _,hc,h=>Xs4 hs hO hc h
 | .mvf _,hc,h=>Xzq hs hO hc h
 | .ldf _ _ _,hc,h=>Xzl hs hO hc h
 | .mvg _ _ _ _ _,hc,h=>Xzr hs hO hc h
 | .mvn _ _ _,hc,h=>Xzs hs hO hc h
 | .cvb _,hc,h=>Xzi hs hO hc h
 | .ustr _ _ _,hc,h=>Xs5 hs hO hc h
 | .mkm _,hc,h=>Xzo hs hO hc h
 | .lkp _ _ _ _ _,hc,h=>Xzn hs hO hc h
 | .mset _ _ _ _,hc,h=>Xs3 hs hO hc h
 | .gld _ _ _ _,hc,h=>Xzj hg hO hc h
 | .slg _ _ _,hc,h=>Xzv hs hO hc h
 | .blv _ _ _ _,hc,h=>(Xhf hs hO hc h).does
 | .apv _ _ _ _ _,hc,h=>Xze hs hO hc h
 | .gv _,hc,h=>X6c hs hO hc h
 | .ldg _ _ _,hc,h=>Xzm hs hO hc h
 | .slb _ _ _ _ _,hc,h=>Xzu hs hO hc h
 | .cpy _ _ _,hc,h=>Xzh hs hO hc h
 | .clr _ _ _,hc,h=>Xzg hs hO hc h
 | .gix _ _ _ _ _,hc,h=>(Xmo hg hs hO hc h).does hO
 | .rng _,hc,h=>(Xhh hs hO hc h).does
 | .nxt _,hc,h=>Xzt hs hO hc h
 | .ety _,hc,h=>(Xmn hs hO hc h).does hO
 | .lenM _,hc,h=>(Xgw hs hO hc h).does hO
 | .isn _ _ _,hc,h=>(Xmp hs hO hc h).does hO
 | .inv _ _ _ _ _ _,hc,h=>Xzk hg hs hO hc h
 | .mks _ _ _ _ _,hc,h=>Xzp hs hO hc h
 | .trn _ _ _,hc,h=>Xzw hs hO hc h
 | .xcall _ _,hc,h=>(Xbu hg hs hO hc h).does
 | .boxr _ _,hc,h=>(Xgv hs hO hc h).does hO

def I.kind:I->Nat
 | .c cc=>if cc.isLdd then 5 else if cc.isLd then 1 else 0
 | .boxr _ _ | .bls _ _ _ | .s2b _ | .pcall _ _ | .gix _ _ _ _ _ | .ety _ | .lenM _ | .isn _ _ _=>2
 | .box _ _ | .alloc _ _ | .blo _ _ _ _ | .blv _ _ _ _ | .rng _ | .xcall _ _=>4
 | _=>3

theorem I.soundE {P:Prg}(hg:ρ.gl=P.g)(hs:SM w ρ sl a)(hO:OM w ρ ob){op:Op}:∀{i:I},i.kind=2->i.chk P.p op=true->i.wp P sl ob K Pn->Xq6 P.p a w ρ op ob K
 | .bls _ _ _,_,hc,h=>(Xmm hs hO hc h).doesE
 | .gix _ _ _ _ _,_,hc,h=>(Xmo hg hs hO hc h).doesE
 | .s2b _,_,hc,h=>(Xmq hs hO hc h).doesE
 | .pcall _ _,_,hc,h=>Xbs hg hs hO hc h
 | .ety _,_,hc,h=>(Xmn hs hO hc h).doesE
 | .lenM _,_,hc,h=>(Xgw hs hO hc h).doesE
 | .isn _ _ _,_,hc,h=>(Xmp hs hO hc h).doesE
 | .boxr _ _,_,hc,h=>(Xgv hs hO hc h).doesE
 | .c cc,hk,_,_=>by exfalso; simp only[I.kind]at hk; revert hk; cases cc.isLdd<;>cases cc.isLd<;>simp
 | .xcall _ _,hk,_,_ | .rng _,hk,_,_ | .nxt _,hk,_,_ | .inv _ _ _ _ _ _,hk,_,_ | .mks _ _ _ _ _,hk,_,_ | .trn _ _ _,hk,_,_ | .box _ _,hk,_,_ | .alloc _ _,hk,_,_ | .blo _ _ _ _,hk,_,_ | .st _ _ _,hk,_,_ | .app _ _ _ _ _,hk,_,_ | .appS _ _ _ _,hk,_,_ | .call _ _,hk,_,_ | .callv _ _,hk,_,_ | .panic _,hk,_,_ | .b2s _,hk,_,_ | .nilo _ _ _,hk,_,_ | .mvf _,hk,_,_ | .ldf _ _ _,hk,_,_ | .mvg _ _ _ _ _,hk,_,_ | .mvn _ _ _,hk,_,_ | .cvb _,hk,_,_ | .ustr _ _ _,hk,_,_ | .mkm _,hk,_,_ | .lkp _ _ _ _ _,hk,_,_ | .mset _ _ _ _,hk,_,_ | .gld _ _ _ _,hk,_,_ | .slg _ _ _,hk,_,_ | .blv _ _ _ _,hk,_,_ | .apv _ _ _ _ _,hk,_,_ | .gv _,hk,_,_ | .ldg _ _ _,hk,_,_ | .slb _ _ _ _ _,hk,_,_ | .cpy _ _ _,hk,_,_ | .clr _ _ _,hk,_,_=>by simp[I.kind]at hk
theorem I.soundX {P:Prg}(hg:ρ.gl=P.g)(hs:SM w ρ sl a)(hO:OM w ρ ob){op:Op}:∀{i:I},i.kind=4->i.chk P.p op=true->i.wp P sl ob K Pn->Xc2 P.p a w ρ op K
 | .xcall _ _,_,hc,h=>Xbu hg hs hO hc h
 | .box _ _,_,hc,h=>Xhg hs hO hc h
 | .alloc _ _,_,hc,h=>Xbt hO hc h
 | .blo _ _ _ _,_,hc,h=>Xhe hs hO hc h
 | .blv _ _ _ _,_,hc,h=>Xhf hs hO hc h
 | .rng _,_,hc,h=>Xhh hs hO hc h
 | .c cc,hk,_,_=>by exfalso; simp only[I.kind]at hk; revert hk; cases cc.isLdd<;>cases cc.isLd<;>simp
 | .boxr _ _,hk,_,_ | .nxt _,hk,_,_ | .ety _,hk,_,_ | .lenM _,hk,_,_ | .isn _ _ _,hk,_,_ | .inv _ _ _ _ _ _,hk,_,_ | .mks _ _ _ _ _,hk,_,_ | .trn _ _ _,hk,_,_ | .bls _ _ _,hk,_,_ | .s2b _,hk,_,_ | .pcall _ _,hk,_,_ | .st _ _ _,hk,_,_ | .app _ _ _ _ _,hk,_,_ | .appS _ _ _ _,hk,_,_ | .call _ _,hk,_,_ | .callv _ _,hk,_,_ | .panic _,hk,_,_ | .b2s _,hk,_,_ | .nilo _ _ _,hk,_,_ | .mvf _,hk,_,_ | .ldf _ _ _,hk,_,_ | .mvg _ _ _ _ _,hk,_,_ | .mvn _ _ _,hk,_,_ | .cvb _,hk,_,_ | .ustr _ _ _,hk,_,_ | .mkm _,hk,_,_ | .lkp _ _ _ _ _,hk,_,_ | .mset _ _ _ _,hk,_,_ | .gld _ _ _ _,hk,_,_ | .slg _ _ _,hk,_,_ | .apv _ _ _ _ _,hk,_,_ | .gv _,hk,_,_ | .ldg _ _ _,hk,_,_ | .slb _ _ _ _ _,hk,_,_ | .cpy _ _ _,hk,_,_ | .clr _ _ _,hk,_,_ | .gix _ _ _ _ _,hk,_,_=>by simp[I.kind]at hk
end
end Go.Ab
namespace Go.Ab
open Go
section
variable {P:Program} {ops:Array Oper} {Q:Exit->Act->World->Prop} {md:Region.Mode} {R:Nat->World->World->Prop}

def Z6 (P:Program)(md:Region.Mode)(ops:Array Oper)(Q:Exit->Act->World->Prop)(R:Nat->World->World->Prop):Nat->Array Bool->Act->World->Prop
 | 0,listed,a,w=>Region.ready md ops listed=[]/\Q .normal a w
 | fuel+1,listed,a,w=>
  (Region.ready md ops listed=[]->Q .normal a w)/\
  ∀i∈Region.ready md ops listed,Qh P ops Q i (fun a' w'=>R i w w'/\Z6 P md ops Q R fuel (listed.setIfInBounds i true) a' w') a w

theorem J2:∀(fuel:Nat) (listed:Array Bool) (a:Act) (w:World),Z6 P md ops Q R fuel listed a w->Xjj P md ops Q fuel listed a w
 | 0,_,_,_,h=>h
 | fuel+1,_,_,_,h=>⟨h.1,fun i hi=>Wg (fun a' w' h'=>J2 fuel _ a' w' h'.2) (h.2 i hi)⟩

theorem Qg {R':Nat->World->World->Prop}(hR:∀j u v,R j u v->R' j u v):∀(fuel:Nat) (listed:Array Bool) (a:Act) (w:World),Z6 P md ops Q R fuel listed a w->Z6 P md ops Q R' fuel listed a w
 | 0,_,_,_,h=>h
 | fuel+1,_,_,_,h=>⟨h.1,fun i hi=>Wg (fun a' w' h'=>⟨hR _ _ _ h'.1,Qg hR fuel _ a' w' h'.2⟩) (h.2 i hi)⟩

theorem Qf:∀(n m:Nat) (listed:Array Bool) (a:Act) (w:World),n<=m->Xjj P md ops Q n listed a w->Xjj P md ops Q m listed a w
 | 0,0,_,_,_,_,h=>h
 | 0,m+1,_,_,_,_,h=>⟨fun _=>h.2,fun i hi=>by rw[h.1]at hi; cases hi⟩
 | n+1,0,_,_,_,hle,_=>by omega
 | n+1,m+1,_,_,_,hle,h=>⟨h.1,fun i hi=>Wg (fun a' w' h'=>Qf n m _ a' w' (by omega) h') (h.2 i hi)⟩

def J4 (md:Region.Mode)(ops:Array Oper)(listed:Array Bool):Prop:=
 ∀k o,ops[k]? = some o->listed.getD k false=true->∀e∈o.after,Region.binds md e=true->listed.getD e.on false=true

theorem J4.step {listed:Array Bool}(h:J4 md ops listed){j:Nat}(hj:j∈Region.ready md ops listed):J4 md ops (listed.setIfInBounds j true):=by
 obtain⟨_,oj,hoj,hall⟩:=mem_ready.1 hj
 intro k o hk hl e he hb
 by_cases hjk:j=k
 ·subst hjk
  rw[hoj]at hk; simp at hk; subst hk
  exact getD_set_true (hall e he hb)
 ·rw[getD_set_ne false hjk]at hl
  exact getD_set_true (h k o hk hl e he hb)

def Wt (md:Region.Mode)(ops:Array Oper)(i:Nat):Nat->Nat->Bool
 | 0,_=>false
 | fuel+1,j=>match ops[j]? with
  | some o=>o.after.any fun e=>Region.binds md e&&(e.on==i||Wt md ops i fuel e.on)
  | none=>false

theorem Xal {listed:Array Bool}(hc:J4 md ops listed){i:Nat}:∀(fuel k:Nat),Wt md ops i fuel k=true->listed.getD k false=true->listed.getD i false=true
 | 0,k,h,_=>by simp[Wt]at h
 | fuel+1,k,h,hl=>by
  simp only[Wt]at h
  split at h
  ·rename_i o ho
   rw[Array.any_eq_true']at h
   obtain⟨e,he,h⟩:=h
   simp only[Bool.and_eq_true,Bool.or_eq_true,beq_iff_eq]at h
   have h1:=hc k o ho hl e he h.1
   rcases h.2 with h2 | h2
   ·rw[<-h2]; exact h1
   ·exact Xal hc fuel e.on h2 h1
  ·simp at h

theorem Q4 {listed:Array Bool}(hc:J4 md ops listed){i j fuel:Nat}(hi:listed.getD i true=false)(h:Wt md ops i fuel j=true):j∉Region.ready md ops listed:=by
 intro hj
 obtain⟨_,o,ho,hall⟩:=mem_ready.1 hj
 cases fuel with
 | zero=>simp[Wt]at h
 | succ fuel=>
  simp only[Wt,ho]at h
  rw[Array.any_eq_true']at h
  obtain⟨e,he,h⟩:=h
  simp only[Bool.and_eq_true,Bool.or_eq_true,beq_iff_eq]at h
  have h1:=hall e he h.1
  have hli:listed.getD i false=true:=by
   rcases h.2 with h2 | h2
   ·rw[<-h2]; exact h1
   ·exact Xal hc fuel e.on h2 h1
  rcases Nat.lt_or_ge i listed.size with h' | h'
  ·simp[h']at hi hli; rw[hi]at hli; cases hli
  ·simp[Array.getElem?_eq_none h']at hli

theorem Xqz {S S':World->Prop}{o:Oper}{v:Value}{a:Act}(h:YieldsIf P ops S o v a)(hs:∀w,S' w->S w):YieldsIf P ops S' o v a:=
 h.imp (fun ⟨h1,h2⟩=>⟨h1,fun w hw=>h2 w (hs w hw)⟩) id

theorem Yn {S:World->World->Prop}(hrefl:∀w,S w w)(htrans:∀u v w,S u v->S v w->S u w){l:Bool}{i:Nat}{oi:Oper}{v:Value}(hi:ops[i]? = some oi)(hsel:∀(j:Nat) (o:Oper) cs b,ops[j]? = some o->o.op ≠ .select cs b)
  (hQ:∀c a w,Q (.panic c) (a.put oi.dst v) w->Q (.panic c) a w) (hl:l=true->∀j,j<ops.size->j ≠ i->(∃fuel,Wt md ops i fuel j=true)\/∀u v,R j u v->S u v) (hself:∀w,R i w w) :
  ∀(fuel:Nat) (listed:Array Bool) (a:Act) (w:World),J4 md ops listed->
   (∀j oj,ops[j]? = some oj->j ≠ i->listed.getD j true=false->(∀e∈oj.after,Region.binds md e=true->e.on ≠ i)->oi.apart ops oj=true)->
   i∈Region.ready md ops listed->YieldsIf P ops (fun w'=>l=true->S w w') oi v a->
   Z6 P md ops Q R fuel (listed.setIfInBounds i true) (a.put oi.dst v) w->Z6 P md ops Q R (fuel+1) listed a w:=by
 intro fuel
 induction fuel with
 | zero=>
  intro listed a w _ _ hr hy H
  refine⟨fun h=>(by rw[h]at hr; cases hr),fun j hj=>?_⟩
  by_cases hji:j=i
  ·subst hji; exact Xjn hi hy (fun _=>hrefl w) ⟨hself w,H⟩
  ·have:=ready_mono hj hji
   rw[H.1]at this
   cases this
 | succ fuel ih=>
  intro listed a w hcl hfree hr hy H
  refine⟨fun h=>(by rw[h]at hr; cases hr),fun j hj=>?_⟩
  by_cases hji:j=i
  ·subst hji; exact Xjn hi hy (fun _=>hrefl w) ⟨hself w,H⟩
  ·have h1:=H.2 j (ready_mono hj hji)
   obtain⟨hjun,oj,hoj,hall⟩:=mem_ready.1 hj
   have hiun:=(mem_ready.1 hr).1
   have hnot:∀e∈oj.after,Region.binds md e=true->e.on ≠ i:=fun e he hb heq=>by
    have h1:=hall e he hb
    rw[heq]at h1
    rcases Nat.lt_or_ge i listed.size with h' | h'
    ·simp[h']at hiun h1; rw[hiun]at h1; cases h1
    ·simp[Array.getElem?_eq_none h']at h1
   have h2:=Xl3 hoj (hfree j oj hoj hji hjun hnot) (fun cs b=>hsel i oi cs b hi) (fun cs b=>hsel j oj cs b hoj) hQ hy h1
   have hfree':∀k ok,ops[k]? = some ok->k ≠ i->(listed.setIfInBounds j true).getD k true=false->
     (∀e∈ok.after,Region.binds md e=true->e.on ≠ i)->oi.apart ops ok=true:=fun k ok hk hki hun hno=>by
    refine hfree k ok hk hki ?_ hno
    by_cases hjk:j=k
    ·subst hjk; exact hjun
    ·rw[getD_set_ne true hjk]at hun; exact hun
   refine Wg (fun a' w' h3=>⟨h3.2.1,ih (listed.setIfInBounds j true) a' w' (hcl.step hj) hfree' (ready_mono hr (Ne.symm hji)) (Xqz h3.1 fun w'' h4 h5=>?_) ?_⟩) h2
   ·have hR:S w w':=by
     rcases hl h5 j (Array.getElem?_eq_some_iff.1 hoj).1 hji with⟨fl,hw⟩ | hs
     ·exact absurd hj (Q4 hcl hiun hw)
     ·exact hs _ _ h3.2.1
    exact htrans _ _ _ hR (h4 h5)
   ·rw[Array.setIfInBounds_comm _ _ hji]
    exact h3.2.2
end
end Go.Ab
