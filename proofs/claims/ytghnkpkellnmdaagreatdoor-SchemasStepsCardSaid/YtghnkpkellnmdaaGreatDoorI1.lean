/- Joined texts, part 1 of 13. Operations carried out, the rounds of a range Xfy a function among them. Over any program; no condition. -/
import Derived.IntWalk
import Derived.Deep.Quiet
import Derived.Laws.Sem
import Derived.Laws.World
import Derived.Laws.Cells
import Derived.Laws.Strings
import Derived.Laws.Concat
import Derived.Laws.StructEq
import Derived.ChangeKeysEq
import Derived.Lib.UnsafeStr
import Derived.Laws.CopyRow
import Derived.Laws.BytesString
import Derived.OrdersHeld
import Derived.OrdersIn
import Derived.RangeFuncLeaves
import Derived.RangeFuncCalls
import Derived.Tactics
import Derived.TacticsIn
set_option linter.unusedSimpArgs false
set_option linter.unusedVariables false
set_option linter.unusedSectionVars false
set_option linter.defProp false
namespace Go
def Fo:=@Nat.lt_or_ge
def UB:=@Array.getElem?_eq_none
def Hs:=@Nat.add_mul
def Rt:=@List.take_length_add_append
def Ru:=@List.drop_length_add_append
def D5:=@List.drop_eq_getElem_cons
def Ku:=@Nat.add_assoc
def BO:=@Bool.false_eq_true
def BB:=@Bool.and_eq_true
def ZB:=@Nat.eq_of_beq_eq_true
def Bg:=@Nat.le_refl
def IQ:=@Nat.le_trans
def Cw:=@List.map_cons
def Ek:=@List.getElem?_eq_some_iff
def Lu:=@List.take_append_drop
def Kv:=@List.map_take
def CJ:=@Option.some.injEq
def C7:=@List.length_append
def GG:=@List.map_set
def Rv:=@List.ext_getElem?
def Kw:=@List.getElem?_set
def JX:=@List.append_assoc
def UC:=@List.set_eq_take_append_cons_drop
def EJ:=@List.mem_cons
def Bs:=@if_false
def OD:=@Nat.lt_of_lt_of_le
def Lt:=@List.length_eq_one_iff
def HN:=@List.cons.injEq
def Gg:=@and_true
def Kt:=@Option.isSome_iff_exists
def Cc:=@congrArg
def DY:=@List.mem_map
def F1:=@List.mem_of_mem_take
def Fm:=@List.length_take
def Gx:=@Nat.min_eq_left
def OC:=@Nat.pos_of_ne_zero
def Ci:=@List.getElem_mem
def Bu:=@if_true
def JY:=@List.getElem?_append
def Rw:=@List.getElem?_append_right
def Rx:=@List.getElem?_append_left
def DN:=@List.getElem?_eq_getElem
def E2:=@Nat.zero_le
def Ry:=@List.drop_take
def UD:=@List.eq_nil_of_length_eq_zero
def D2:=@List.take_succ_eq_append_getElem
def M6:=@List.take_of_length_le
def HO:=@List.drop_of_length_le
def Ht:=@List.map_nil
def C9:=@beq_iff_eq
def Aq:=@if_neg
def DK:=@decide_eq_true_eq
def GK:=@Bool.not_eq_true'
def HP:=@Option.map_eq_some_iff
def Rz:=@List.range'_succ
def Es:=@List.all_eq_true
def DT:=@List.mem_append
def R1:=@Nat.le_of_mul_le_mul_right
def R3:=@List.mem_or_eq_of_mem_set
def UE:=@Array.getElem?_setIfInBounds
def BS:=@if_pos
def UF:=@Array.mem_of_getElem?
def GH:=@Prod.mk.injEq
def GI:=@Option.some.inj
def OE:=@Array.getElem?_modify
def Gy:=@List.getD_eq_getElem?_getD
def GJ:=@List.append_nil
def Kx:=@Nat.zero_add
def OF:=@List.mem_range
def M5:=@Array.getElem?_append
def PY:=@Nat.mul_le_mul_right
def Ky:=@List.map_append
def FU:=@Bool.or_eq_false_iff
def M7:=@decide_eq_false_iff_not
def PZ:=@Bool.or_eq_true
def R4:=@Array.getElem?_eq_getElem
def Lv:=@Option.isNone_iff_eq_none
def Gz:=@beq_eq_false_iff_ne
def R5:=@List.all_append
def E3:=@List.mem_singleton
def Pa:=@List.getElem?_eq_none
def Dv:=@Bool.eq_iff_iff
def OG:=@Bool.eq_false_iff
def ZC:=@Bool.and_eq_false_iff
def FC:=@List.nodup_append
def Lw:=@decide_eq_false
def FV:=@List.take_length
def JZ:=@decide_eq_true
def Pb:=@List.length_eq_zero_iff
def EN:=@Bool.true_and
def KA:=@Option.bind_eq_some_iff
def Pc:=@List.mem_cons_of_mem
def Pd:=@List.takeWhile_cons
end Go
theorem Go.Ab.w_i (n:Int)(h:-9223372036854775808<=n/\n<=9223372036854775807):Go.IntKind.i64.wrap n=n:=Go.IntWalk.i64_in n h
theorem Go.Ab.w_s (k:Nat)(h:k<9223372036854775807):Go.IntKind.i64.wrap ((k:Int)+1)=(k:Int)+1:=Go.IntWalk.i64_in _ (by omega)
theorem Go.Ab.w_t {k n:Nat}(h:k<n)(g:n<=9223372036854775807):Go.IntKind.i64.wrap ((k:Int)+1)=(k:Int)+1:=Go.IntWalk.i64_in _ (by omega)
namespace Go.Ab
open Go
inductive D where
|int (k:IntKind) (n:Int)
|bool (b:Bool)
|AU (s:List UInt8)
|Ad
|AH (sz:Nat) (xs:List D)
|agg (xs:List D)
|B6
|CL
|Br
|CV
|Bv (x:D)
|iface (t:Nat) (x:D)
|fn (f:Nat) (fi ca:List D)
deriving Inhabited
def D.isAgg:D->Bool
|.agg _=>true
|_=>false
mutual
def D.sz:D->Nat
|.agg a=>C8 a
|_=>1
def C8:List D->Nat
|[]=>0
|x::r=>x.sz+C8 r
end
def Co(w:World)(c:Nat->Prop)(a:Addr)(b:List Value):Prop:=
 (b≠[]->a.spot=none/\¬c a.block/\a.block<w.heap.size)/\∀i (h:i<b.length),w.cell? ⟨a.block,a.off+i,none⟩=some b[i]
mutual
def D.Ax(w:World)(d:Nat->Prop):D->List Value->Prop
|.int k n,c=>c=[.int k n]
|.bool b,c=>c=[.bool b]
|.AU s,c=>c=[.string ⟨s.toArray⟩]
|.Ad,c=>c=[.slice none 0 0]
|.AH sz e,c=>(e=[]/\c=[.slice none 0 0])\/∃a g h,c=[.slice (some a) e.length g]/\e.length<=g/\Co w d a h/\Bq w d e h/\∀x∈e,x.sz=sz
|.agg e,c=>Bq w d e c
|.B6,c=>c=[.nilIface]
|.CL,c=>c=[.pointer none]
|.Br,c=>c=[.nilFunc]
|.CV,c=>c=[.map none]
|.Bv x,c=>∃a h,c=[.pointer (some a)]/\a.spot=none/\Co w d a h/\D.Ax w d x h
|.iface t x,c=>∃u,c=[.iface t u]/\((x.isAgg=true/\∃i,u=.agg i.toArray/\D.Ax w d x i)\/(x.isAgg=false/\D.Ax w d x [u]))
|.fn f o m,c=>∃j l,c=[.func (.func f) j.toArray l.toArray]/\FR w d o j/\FR w d m l
def FR(w:World)(a:Nat->Prop):List D->List Value->Prop
|[],b=>b=[]
|x::r,b=>∃u d,b=u::d/\((x.isAgg=true/\∃c,u=.agg c.toArray/\D.Ax w a x c)\/(x.isAgg=false/\D.Ax w a x [u]))/\FR w a r d
def Bq(w:World)(d:Nat->Prop):List D->List Value->Prop
|[],a=>a=[]
|x::r,a=>∃b c,a=b++c/\D.Ax w d x b/\Bq w d r c
end
def GO(w:World)(c:Nat->Prop)(d:World)(a:Nat->Prop):Prop:=
 ∀b,¬c b->b<w.heap.size->d.heap[b]? = w.heap[b]?/\¬a b
def cell?_congr{w w':World}{b:Nat}(h:w'.heap[b]? = w.heap[b]?)(o:Nat):w'.cell? ⟨b,o,none⟩=w.cell? ⟨b,o,none⟩:=by
 simp[World.cell?,h]
def Xl{w:World}{b:Nat}{o:Obj}(h:w.heap[b]? = some o):b<w.heap.size:=by
 rcases Fo b w.heap.size with a|a
 ·exact a
 ·simp[UB a]at h
def GO.refl(w:World)(a:Nat->Prop):GO w a w a:=λ_ h _=>⟨rfl,h⟩
def GO.trans{w f d:World}{i c a:Nat->Prop}(h:GO w i f c)(k:GO f c d a):GO w i d a:=by
 intro b l g;obtain⟨e,n⟩:=h b l g;have m:b<f.heap.size:=by
  have:w.heap[b]? = some w.heap[b]:=by simp[g]
  exact Xl (e.trans this)
 obtain⟨j,o⟩:=k b n m;exact⟨j.trans e,o⟩
def Co.mono{w k:World}{j c:Nat->Prop}{a:Addr}{d:List Value}(m:GO w j k c)(h:Co w j a d):Co k c a d:=by
 obtain⟨f,o⟩:=h;refine⟨λb=>?_,λi g=>?_⟩
 ·obtain⟨l,p,q⟩:=f b;obtain⟨e,n⟩:=m _ p q;refine⟨l,n,?_⟩;have:w.heap[a.block]? = some w.heap[a.block]:=by simp[q]
  exact Xl (e.trans this)
 ·have b:d≠[]:=by intro h;simp[h]at g
  obtain⟨_,p,q⟩:=f b;rw[cell?_congr (m _ p q).1];exact o i g
mutual
def Ho{w G:World}{F ow':Nat->Prop}(m:GO w F G ow'):∀(d:D)(c:List Value),d.Ax w F c->d.Ax G ow' c
|.int k n,c,h=>by simpa[D.Ax]using h
|.bool b,c,h=>by simpa[D.Ax]using h
|.AU s,c,h=>by simpa[D.Ax]using h
|.Ad,c,h=>by simpa[D.Ax]using h
|.B6,c,h=>by simpa[D.Ax]using h
|.CL,c,h=>by simpa[D.Ax]using h
|.Br,c,h=>by simpa[D.Ax]using h
|.CV,c,h=>by simpa[D.Ax]using h
|.Bv x,c,h=>by
 simp only[D.Ax]at h⊢;obtain⟨a,j,e,K,g,i⟩:=h;exact⟨a,j,e,K,g.mono m,Ho m x j i⟩
|.iface t x,c,h=>by
 simp only[D.Ax]at h⊢;obtain⟨u,e,g⟩:=h;refine⟨u,e,?_⟩;rcases g with⟨p,v,q,r⟩|⟨p,r⟩
 ·exact .inl ⟨p,v,q,Ho m x v r⟩
 ·exact .inr ⟨p,Ho m x _ r⟩
|.fn f J H,c,h=>by
 simp only[D.Ax]at h⊢;obtain⟨y,z,e,g,i⟩:=h;exact⟨y,z,e,T0 m J y g,T0 m H z i⟩
|.agg o,c,h=>by
 simp only[D.Ax]at h⊢;exact GF m o c h
|.AH P o,c,h=>by
 simp only[D.Ax]at h⊢;rcases h with h|⟨a,l,j,g,i,L,N,O⟩
 ·exact .inl h
 ·exact .inr ⟨a,l,j,g,i,L.mono m,GF m o j N,O⟩
def T0{w f:World}{ow a:Nat->Prop}(m:GO w ow f a):∀(g:List D)(b:List Value),FR w ow g b->FR f a g b
|[],b,h=>by simpa only[FR]using h
|x::r,b,h=>by
 simp only[FR]at h⊢;obtain⟨u,d,e,i,j⟩:=h;refine⟨u,d,e,?_,T0 m r d j⟩;rcases i with⟨p,c,q,r⟩|⟨p,r⟩
 ·exact .inl ⟨p,c,q,Ho m x c r⟩
 ·exact .inr ⟨p,Ho m x _ r⟩
def GF{w g:World}{f a:Nat->Prop}(m:GO w f g a):∀(i:List D)(b:List Value),Bq w f i b->Bq g a i b
|[],b,h=>by simpa[Bq]using h
|x::r,b,h=>by
 simp only[Bq]at h⊢;obtain⟨c,d,e,j,k⟩:=h;exact⟨c,d,e,Ho m x c j,GF m r d k⟩
end
mutual
def HI{w:World}{l:Nat->Prop}:∀(d:D)(c:List Value),d.Ax w l c->c.length=d.sz
|.int k n,c,h=>by simp[D.Ax]at h;simp[h,D.sz]
|.bool b,c,h=>by simp[D.Ax]at h;simp[h,D.sz]
|.AU s,c,h=>by simp[D.Ax]at h;simp[h,D.sz]
|.Ad,c,h=>by simp[D.Ax]at h;simp[h,D.sz]
|.B6,c,h=>by simp[D.Ax]at h;simp[h,D.sz]
|.CL,c,h=>by simp[D.Ax]at h;simp[h,D.sz]
|.Br,c,h=>by simp[D.Ax]at h;simp[h,D.sz]
|.CV,c,h=>by simp[D.Ax]at h;simp[h,D.sz]
|.Bv x,c,h=>by simp only[D.Ax]at h;obtain⟨a,m,e,_⟩:=h;simp[e,D.sz]
|.iface t x,c,h=>by simp only[D.Ax]at h;obtain⟨u,e,_⟩:=h;simp[e,D.sz]
|.fn f p o,c,h=>by simp only[D.Ax]at h;obtain⟨q,r,e,_⟩:=h;simp[e,D.sz]
|.agg g,c,h=>by
 simp only[D.Ax]at h;simp only[D.sz];exact Gv g c h
|.AH v g,c,h=>by
 simp only[D.Ax]at h;rcases h with⟨_,h⟩|⟨a,i,m,j,_⟩
 ·simp[h,D.sz]
 ·simp[j,D.sz]
def Gv{w:World}{i:Nat->Prop}:∀(b:List D)(a:List Value),Bq w i b a->a.length=C8 b
|[],a,h=>by simp[Bq]at h;simp[h,C8]
|x::r,a,h=>by
 simp only[Bq]at h;obtain⟨c,d,e,f,g⟩:=h;simp[e,C8,HI x c f,Gv r d g]
end
def T1{w:World}{d:Nat->Prop}{e f:List D}{b c:List Value}(a:Bq w d e b)(i:Bq w d f c):Bq w d (e++f) (b++c):=by
 induction e generalizing b with
 |nil=>simp only[Bq]at a;subst a;simpa using i
 |cons x r l=>
  simp only[Bq]at a;obtain⟨g,h,rfl,j,k⟩:=a;simp only[List.cons_append,Bq];exact⟨g,h++c,by simp,j,l k⟩
def Er{sz:Nat}:∀(a:List D),(∀x∈a,x.sz=sz)->C8 a=a.length*sz
|[],_=>by simp[C8]
|x::r,h=>by
 have b:=h x (by simp);have c:=Er r (λy d=>h y (by simp[d]));simp[C8,b,c,Hs];omega
def Mx{w:World}{c:Nat->Prop}:∀(b:List D)(i:Nat)(a:List Value),Bq w c b a->
 Bq w c (b.take i) (a.take (C8 (b.take i)))/\Bq w c (b.drop i) (a.drop (C8 (b.take i)))
|b,0,a,h=>by simpa[Bq,C8]using h
|[],i+1,a,h=>by simpa[Bq,C8]using h
|x::r,i+1,a,h=>by
 simp only[Bq]at h;obtain⟨d,g,rfl,e,j⟩:=h;have f:=HI x d e;obtain⟨p,q⟩:=Mx r i g j;simp only[List.take_succ_cons,List.drop_succ_cons,C8];constructor
 ·rw[<-f,Rt];simp only[Bq];exact⟨d,_,rfl,e,p⟩
 ·rw[<-f,Ru];exact q
def T2{w:World}{f:Nat->Prop}{a:List D}{b:List Value}(h:Bq w f a b){i:Nat}(j:i<a.length):
 a[i].Ax w f ((b.drop (C8 (a.take i))).take a[i].sz):=by
 have c:=(Mx a i b h).2;rw[D5 j]at c;simp only[Bq]at c;obtain⟨g,l,e,d,_⟩:=c;have k:=HI _ g d;rw[e,<-k];simpa using d
def Co.sub{w:World}{f:Nat->Prop}{a:Addr}{d:List Value}(h:Co w f a d)(k n:Nat):
 Co w f ⟨a.block,a.off+k,none⟩ ((d.drop k).take n):=by
 obtain⟨g,j⟩:=h;refine⟨λc=>⟨rfl,(g ?_).2⟩,λi l=>?_⟩
 ·intro e;subst e;simp at c
 ·have b:k+i<d.length:=by simp at l;omega
  have:=j (k+i) b;simp only[List.getElem_take,List.getElem_drop];rw[<-this,Ku]
def Co.nil{w:World}{b:Nat->Prop}(a:Addr):Co w b a []:=⟨λh=>absurd rfl h,λi h=>by simp at h⟩
def Addr.By{a:Addr}(h:a.spot=none)(n:Nat):a.add n=⟨a.block,a.off+n,none⟩:=by
 obtain⟨b,o,s⟩:=a;simp only at h;subst h;unfold Addr.add;split
 next h=>simp[h]
 ·rfl
mutual
def Cy:D->D->Bool
|.int k a,.int g b=>decide (k=g)&&decide (a=b)
|.bool a,.bool b=>a==b
|.AU a,.AU b=>a==b
|.Ad,.Ad=>true
|.AH z a,.AH i b=>Nat.beq z i&&E1 a b
|.agg a,.agg b=>E1 a b
|.B6,.B6=>true
|.CL,.CL=>true
|.Br,.Br=>true
|.CV,.CV=>true
|.Bv a,.Bv b=>Cy a b
|.iface t a,.iface h b=>Nat.beq t h&&Cy a b
|.fn f a b,.fn e c d=>Nat.beq f e&&E1 a c&&E1 b d
|_,_=>false
def E1:List D->List D->Bool
|[],[]=>true
|x::r,y::s=>Cy x y&&E1 r s
|_,_=>false
end
mutual
def T3:∀(x y:D),Cy x y=true->x=y
|.int k a,y,h=>by cases y<;>simp[Cy]at h;simp[h]
|.bool a,y,h=>by cases y<;>simp[Cy]at h;simp[h]
|.AU a,y,h=>by cases y<;>simp[Cy]at h;simp[h]
|.Ad,y,h=>by cases y<;>simp[Cy]at h;rfl
|.B6,y,h=>by cases y<;>simp[Cy]at h;rfl
|.CL,y,h=>by cases y<;>simp[Cy]at h;rfl
|.Br,y,h=>by cases y<;>simp[Cy]at h;rfl
|.CV,y,h=>by cases y<;>simp[Cy]at h;rfl
|.AH z a,y,h=>by
 cases y<;>simp only[Cy,BO,BB]at h;rw[ZB h.1,PQ _ _ h.2]
|.agg a,y,h=>by
 cases y<;>simp only[Cy,BO]at h;rw[PQ _ _ h]
|.Bv a,y,h=>by
 cases y<;>simp only[Cy,BO]at h;rw[T3 _ _ h]
|.iface t a,y,h=>by
 cases y<;>simp only[Cy,BO,BB]at h;rw[ZB h.1,T3 _ _ h.2]
|.fn f a b,y,h=>by
 cases y<;>simp only[Cy,BO,BB]at h;rw[ZB h.1.1,PQ _ _ h.1.2,PQ _ _ h.2]
def PQ:∀(x y:List D),E1 x y=true->x=y
|[],y,h=>by cases y<;>simp[E1]at h;rfl
|x::r,y,h=>by
 cases y<;>simp only[E1,BO,BB]at h;rw[T3 _ _ h.1,PQ _ _ h.2]
end
def Co.PE{w:World}{d:Nat->Prop}{a:Addr}{b:List Value}(h:Co w d a b)(k n:Nat):Co w d (a.add k) ((b.drop k).take n):=by
 by_cases c:b=[]
 ·subst c;simpa using Co.nil _
 ·rw[Addr.By (h.1 c).1];exact h.sub k n
inductive Sh where
|AR
|node (xs:List Sh)
mutual
def Sh.size:Sh->Nat
|.AR=>1
|.node a=>Sh.BX a
def Sh.BX:List Sh->Nat
|[]=>0
|x::r=>x.size+Sh.BX r
end
def Sh.off:Sh->List Nat->Nat
|.node a,i::p=>Sh.BX (a.take i)+Sh.off (a.getD i .AR) p
|_,_=>0
mutual
def D.shape:D->Sh
|.agg a=>.node (D.BM a)
|_=>.AR
def D.BM:List D->List Sh
|[]=>[]
|x::r=>x.shape::D.BM r
end
mutual
def Cb:∀d:D,d.shape.size=d.sz
|.int _ _|.bool _|.AU _|.Ad|.AH _ _|.B6|.CL|.Br|.CV|.Bv _|.iface _ _|.fn _ _ _=>by simp[D.shape,Sh.size,D.sz]
|.agg a=>by simp only[D.shape,Sh.size,D.sz];exact T4 a
def T4:∀a:List D,Sh.BX (D.BM a)=C8 a
|[]=>by simp[D.BM,Sh.BX,C8]
|x::r=>by simp[D.BM,Sh.BX,C8,Cb x,T4 r]
end
inductive V where
|d (x:D)
|ptr (id:Nat) (path:List Nat)
|sl (id n:Nat)
|sd (id n:Nat)
|mp (id:Nat)
|ep (id n z i off:Nat) (path:List Nat)
|bs (id:Nat) (path:List Nat) (lo n:Nat)
|hd (y:Bool) (id:Nat)
|fn (f:Nat) (first captured:List V)
|agg (xs:List V)
|iface (t:Nat) (v:V)
|BT (xs:List V)
|undef
|any
deriving Inhabited
def V.isAgg:V->Bool
|.d (.agg _)=>true
|.agg _=>true
|_=>false
mutual
def V.shape:V->Sh
|.d x=>x.shape
|.agg a=>.node (V.BM a)
|_=>.AR
def V.BM:List V->List Sh
|[]=>[]
|x::r=>x.shape::V.BM r
end
def V.size(v:V):Nat:=v.shape.size
def Ke:Bool->Nat->Value
|true,b=>.func (.yield b) #[] #[]
|false,b=>.pointer (some ⟨b,0,none⟩)
inductive RO where
|box (b:Nat) (sh:Sh)
|BG (b len cap:Nat)
|map (b:Nat)
|CG
|An
def RO.blk? : RO->Option Nat
|.box b _=>some b
|.BG b _ _=>some b
|.map b=>some b
|.CG=>none
|.An=>none
structure Gl where
 g:Nat->Option Obj
 l:Nat->Array Nat->Nat->Code->Code->Prop
instance:CoeFun Gl (λ_=>Nat->Option Obj):=⟨Gl.g⟩
structure A9 where
 m:Nat->Option RO
 xo:Nat->Prop
 gl:Gl
def FD(a:A9)(b:Nat):Prop:=∃id o,a.m id=some o/\o.blk? = some b
def CH(a:A9)(b:Nat):Prop:=FD a b\/a.xo b
def RO.slice(o:RO)(n:Nat)(u:Value):Prop:=
 match o with
 |.box _ _=>False
 |.map _=>False
 |.BG b d e=>n<=d/\(∃a l c,u=.slice a l c)/\(n=d->u=.slice (some ⟨b,0,none⟩) d e)
 |.CG=>n=0/\u=.slice none 0 0
 |.An=>∃a l c,u=.slice a l c
def RO.EA(o:RO)(n:Nat)(u:Value):Prop:=
 match o with
 |.box _ _=>False
 |.map _=>False
 |.BG b c _=>n<=c/\(∃a,u=.pointer a)/\(n=c->n≠0->u=.pointer (some ⟨b,0,none⟩))
 |.CG=>n=0/\∃a,u=.pointer a
 |.An=>∃a,u=.pointer a
def RO.elem(o:RO)(n d:Nat)(u:Value):Prop:=
 match o with
 |.box _ _=>False
 |.map _=>False
 |.BG b c _=>n<=c/\(∃a,u=.pointer (some a))/\(n=c->u=.pointer (some ⟨b,d,none⟩))
 |.CG=>False
 |.An=>∃a,u=.pointer (some a)
inductive RO.le:RO->RO->Prop where
|refl (o:RO):RO.le o o
|grow {o:RO} {n b m c:Nat} (h:n<m) (h1:o=.CG/\n=0\/∃b c,o=.BG b n c):RO.le o (.BG b m c)
|An (o:RO):RO.le o .An
def RO.le.trans{a b c:RO}(h:a.le b)(e:b.le c):a.le c:=by
 cases e with
 |refl=>exact h
 |An=>exact .An a
 |grow k d=>
  cases h with
  |refl=>exact .grow k d
  |An=>rcases d with⟨d,_⟩|⟨_,_,d⟩<;>cases d
  |grow g f=>
   rcases d with⟨d,_⟩|⟨_,_,d⟩
   ·cases d
   ·cases d;exact .grow (by omega) f
mutual
def V.Al(w:World)(g:A9):V->List Value->Prop
|.d x,e=>x.Ax w (CH g) e
|.ptr id p,e=>(∃b j,g.m id=some (.box b j)/\e=[.pointer (some ⟨b,j.off p,none⟩)])\/(g.m id=some .An/\∃a,e=[.pointer (some a)])
|.sl id n,e=>∃o u,g.m id=some o/\e=[u]/\o.slice n u
|.sd id n,e=>∃o u,g.m id=some o/\e=[u]/\o.EA n u
|.mp id,e=>(∃b,g.m id=some (.map b)/\e=[.map (some b)])\/(g.m id=some .An/\∃r,e=[.map r])
|.hd y id,e=>(∃b,g.m id=some (.map b)/\e=[Ke y b])\/(g.m id=some .An/\∃b,e=[Ke y b])
|.ep id n z i f p,e=>∃o u,g.m id=some o/\e=[u]/\o.elem n (i*z+f) u
|.bs id p J n,e=>(∃b j h f,g.m id=some (.box b j)/\(n<=h/\(n≠0->f=j.off (p++[J])))/\e=[.slice (some ⟨b,f,none⟩) n h])\/(g.m id=some .An/\∃a l c,e=[.slice a l c])
|.fn f H G,e=>∃s v,e=[.func (.func f) s.toArray v.toArray]/\V.A8 w g H s/\V.A8 w g G v
|.agg k,e=>Bz w g k e
|.iface t x,e=>∃u,e=[.iface t u]/\(x=.any\/(x.isAgg=true/\∃q,u=.agg q.toArray/\V.Al w g x q)\/(x.isAgg=false/\V.Al w g x [u]))
|.BT k,e=>∃F,e=[.tuple F.toArray]/\V.A8 w g k F
|.undef,e=>e=[Go.undef]
|.any,e=>∃u,e=[u]
def Bz(w:World)(d:A9):List V->List Value->Prop
|[],a=>a=[]
|x::r,a=>∃b c,a=b++c/\V.Al w d x b/\Bz w d r c
def V.A8(w:World)(b:A9):List V->List Value->Prop
|[],a=>a=[]
|x::r,a=>∃u d,a=u::d/\(x=.any\/(x.isAgg=true/\∃c,u=.agg c.toArray/\V.Al w b x c)\/(x.isAgg=false/\V.Al w b x [u]))/\V.A8 w b r d
end
def V.Ax(w:World)(b:A9)(x:V)(u:Value):Prop:=
 (x=.any)\/(x.isAgg=true/\∃a,u=.agg a.toArray/\x.Al w b a)\/(x.isAgg=false/\x.Al w b [u])
structure Tr(w:World)(ρ:A9)(w':World)(ρ':A9):Prop where
 size:w.heap.size<=w'.heap.size
 keep:∀b,¬FD ρ b->b<w.heap.size->w'.heap[b]? = w.heap[b]?
 DF:∀b,FD ρ' b->FD ρ b\/w.heap.size<=b
 xo:ρ'.xo=ρ.xo
 gl:ρ'.gl=ρ.gl
 same:∀id o,ρ.m id=some o->∃o',ρ'.m id=some o'/\o.le o'
 tape:w'.tape=w.tape
 os:w'.os=w.os
 Ck:w'.output=w.output
 drawn:w.drawn<=w'.drawn
def Tr.mono{w d:World}{e a:A9}(t:Tr w e d a):GO w (CH e) d (CH a):=λb c f=>
 ⟨t.keep b (λh=>c (.inl h)) f,λh=>h.elim (λh=>(t.DF b h).elim (λh=>c (.inl h)) (λh=>by omega)) (λh=>c (.inr (t.xo▸h)))⟩
def Tr.refl(w:World)(a:A9):Tr w a w a:=
 ⟨Bg _,λ_ _ _=>rfl,λ_ h=>.inl h,rfl,rfl,λ_ o h=>⟨o,h,.refl o⟩,rfl,rfl,rfl,Bg _⟩
def Tr.trans{w i d:World}{j c a:A9}(t:Tr w j i c)(u:Tr i c d a):Tr w j d a:=by
 refine⟨IQ t.size u.size,λb e f=>?_,λb h=>?_,u.xo.trans t.xo,u.gl.trans t.gl,λid o h=>?_,u.tape.trans t.tape,u.os.trans t.os,u.Ck.trans t.Ck,IQ t.drawn u.drawn⟩
 ·have m:¬FD c b:=λh=>(t.DF b h).elim e (λh=>by omega);exact(u.keep b m (by have:=t.size;omega)).trans (t.keep b e f)
 ·rcases u.DF b h with h|h
  ·exact t.DF b h
  ·have:=t.size;exact .inr (by omega)
 ·obtain⟨n,e,f⟩:=t.same id o h;obtain⟨g,k,l⟩:=u.same id n e;exact⟨g,k,f.trans l⟩
def Rat{o d:RO}{n:Nat}{u:Value}(h:o.slice n u)(t:o.le d):d.slice n u:=by
 cases t with
 |refl=>exact h
 |An=>
  cases o with
  |box b s=>cases h
  |map b=>cases h
  |BG b l c=>exact h.2.1
  |CG=>exact⟨_,_,_,h.2⟩
  |An=>exact h
 |grow k a=>
  rcases a with⟨rfl,rfl⟩|⟨e,f,rfl⟩
  ·simp only[RO.slice]at h⊢;obtain⟨rfl,rfl⟩:=h;exact⟨by omega,⟨_,_,_,rfl⟩,λh=>by omega⟩
  ·simp only[RO.slice]at h⊢;exact⟨by omega,h.2.1,λa=>by omega⟩
def Rau{o d:RO}{n:Nat}{u:Value}(h:o.EA n u)(t:o.le d):d.EA n u:=by
 cases t with
 |refl=>exact h
 |An=>
  cases o with
  |box b s=>cases h
  |map b=>cases h
  |BG b l c=>exact h.2.1
  |CG=>exact h.2
  |An=>exact h
 |grow k a=>
  rcases a with⟨rfl,rfl⟩|⟨e,f,rfl⟩
  ·exact⟨by have:=h.1;omega,h.2,λa=>by have:=h.1;omega⟩
  ·exact⟨by have:=h.1;omega,h.2.1,λa=>by have:=h.1;omega⟩
def Rav{o e:RO}{n a:Nat}{u:Value}(h:o.elem n a u)(t:o.le e):e.elem n a u:=by
 cases t with
 |refl=>exact h
 |An=>
  cases o with
  |box b s=>cases h
  |map b=>cases h
  |BG b l c=>exact h.2.1
  |CG=>cases h
  |An=>exact h
 |grow k d=>
  rcases d with⟨rfl,rfl⟩|⟨f,g,rfl⟩
  ·cases h
  ·exact⟨by have:=h.1;omega,h.2.1,λd=>by have:=h.1;omega⟩
mutual
def IN{w O:World}{P v:A9}(t:Tr w P O v):∀(x:V)(m:List Value),x.Al w P m->x.Al O v m
|.d x,m,h=>by
 simp only[V.Al]at h⊢;exact Ho t.mono x m h
|.ptr id p,m,h=>by
 simp only[V.Al]at h⊢;rcases h with⟨b,G,g,c⟩|⟨g,c⟩
 ·obtain⟨s,j,l⟩:=t.same id _ g;cases l with
  |refl=>exact .inl ⟨b,G,j,c⟩
  |An=>exact .inr ⟨j,_,c⟩
  |grow k a=>rcases a with⟨a,_⟩|⟨_,_,a⟩<;>cases a
 ·obtain⟨s,j,l⟩:=t.same id _ g;cases l with
  |refl=>exact .inr ⟨j,c⟩
  |An=>exact .inr ⟨j,c⟩
  |grow k a=>rcases a with⟨a,_⟩|⟨_,_,a⟩<;>cases a
|.sl id n,m,h=>by
 simp only[V.Al]at h⊢;obtain⟨o,u,g,c,j⟩:=h;obtain⟨s,l,a⟩:=t.same id _ g;exact⟨s,u,l,c,Rat j a⟩
|.sd id n,m,h=>by
 simp only[V.Al]at h⊢;obtain⟨o,u,g,c,j⟩:=h;obtain⟨s,l,a⟩:=t.same id _ g;exact⟨s,u,l,c,Rau j a⟩
|.mp id,m,h=>by
 simp only[V.Al]at h⊢;rcases h with⟨b,g,c⟩|⟨g,c⟩
 ·obtain⟨s,j,l⟩:=t.same id _ g;cases l with
  |refl=>exact .inl ⟨b,j,c⟩
  |An=>exact .inr ⟨j,_,c⟩
  |grow k a=>rcases a with⟨a,_⟩|⟨_,_,a⟩<;>cases a
 ·obtain⟨s,j,l⟩:=t.same id _ g;cases l with
  |refl=>exact .inr ⟨j,c⟩
  |An=>exact .inr ⟨j,c⟩
  |grow k a=>rcases a with⟨a,_⟩|⟨_,_,a⟩<;>cases a
|.hd y id,m,h=>by
 simp only[V.Al]at h⊢;rcases h with⟨b,g,c⟩|⟨g,c⟩
 ·obtain⟨s,j,l⟩:=t.same id _ g;cases l with
  |refl=>exact .inl ⟨b,j,c⟩
  |An=>exact .inr ⟨j,_,c⟩
  |grow k a=>rcases a with⟨a,_⟩|⟨_,_,a⟩<;>cases a
 ·obtain⟨s,j,l⟩:=t.same id _ g;cases l with
  |refl=>exact .inr ⟨j,c⟩
  |An=>exact .inr ⟨j,c⟩
  |grow k a=>rcases a with⟨a,_⟩|⟨_,_,a⟩<;>cases a
|.ep id n z i f p,m,h=>by
 simp only[V.Al]at h⊢;obtain⟨o,u,g,c,j⟩:=h;obtain⟨s,l,a⟩:=t.same id _ g;exact⟨s,u,l,c,Rav j a⟩
|.bs id p U n,m,h=>by
 simp only[V.Al]at h⊢;rcases h with⟨b,G,F,f,g,c⟩|⟨g,c⟩
 ·obtain⟨s,j,l⟩:=t.same id _ g;cases l with
  |refl=>exact .inl ⟨b,G,F,f,j,c⟩
  |An=>exact .inr ⟨j,_,_,_,c.2⟩
  |grow k a=>rcases a with⟨a,_⟩|⟨_,_,a⟩<;>cases a
 ·obtain⟨s,j,l⟩:=t.same id _ g;cases l with
  |refl=>exact .inr ⟨j,c⟩
  |An=>exact .inr ⟨j,c⟩
  |grow k a=>rcases a with⟨a,_⟩|⟨_,_,a⟩<;>cases a
|.fn f T Q,m,h=>by
 simp only[V.Al]at h⊢;obtain⟨K,L,e,g,c⟩:=h;exact⟨K,L,e,Lq t T K g,Lq t Q L c⟩
|.agg H,m,h=>by
 simp only[V.Al]at h⊢;exact HJ t H m h
|.iface W x,m,h=>by
 simp only[V.Al]at h⊢;obtain⟨u,e,g⟩:=h;refine⟨u,e,?_⟩;rcases g with g|⟨p,J,q,r⟩|⟨p,r⟩
 ·exact .inl g
 ·exact .inr (.inl ⟨p,J,q,IN t x J r⟩)
 ·exact .inr (.inr ⟨p,IN t x _ r⟩)
|.BT H,m,h=>by
 simp only[V.Al]at h⊢;obtain⟨N,e,g⟩:=h;exact⟨N,e,Lq t H N g⟩
|.undef,m,h=>by simpa only[V.Al]using h
|.any,m,h=>by simpa only[V.Al]using h
def HJ{w f:World}{i a:A9}(t:Tr w i f a):∀(g:List V)(b:List Value),Bz w i g b->Bz f a g b
|[],b,h=>by simpa only[Bz]using h
|x::r,b,h=>by
 simp only[Bz]at h⊢;obtain⟨c,d,e,j,k⟩:=h;exact⟨c,d,e,IN t x c j,HJ t r d k⟩
def Lq{w g:World}{j a:A9}(t:Tr w j g a):∀(i:List V)(b:List Value),V.A8 w j i b->V.A8 g a i b
|[],b,h=>by simpa only[V.A8]using h
|x::r,b,h=>by
 simp only[V.A8]at h⊢;obtain⟨u,f,e,c,k⟩:=h;refine⟨u,f,e,?_,Lq t r f k⟩;rcases c with c|⟨p,d,q,r⟩|⟨p,r⟩
 ·exact .inl c
 ·exact .inr (.inl ⟨p,d,q,IN t x d r⟩)
 ·exact .inr (.inr ⟨p,IN t x _ r⟩)
end
def Gw{w c:World}{d a:A9}(t:Tr w d c a){x:V}{u:Value}(h:x.Ax w d u):x.Ax c a u:=by
 rcases h with h|⟨p,b,q,r⟩|⟨p,r⟩
 ·exact .inl h
 ·exact .inr (.inl ⟨p,b,q,IN t x b r⟩)
 ·exact .inr (.inr ⟨p,IN t x _ r⟩)
def V.Bc:V->Option (List V)
|.agg a=>some a
|.d (.agg a)=>some (a.map .d)
|_=>none
def V.Bj:∀a:List V,V.BM a=a.map V.shape
|[]=>by simp[V.BM]
|x::r=>by simp[V.BM,V.Bj r]
def D.Bj:∀a:List D,D.BM a=a.map D.shape
|[]=>by simp[D.BM]
|x::r=>by simp[D.BM,D.Bj r]
def PM{v:V}{a:List V}(h:v.Bc=some a):v.shape=.node (a.map V.shape):=by
 cases v with
 |agg b=>simp[V.Bc]at h;subst h;simp[V.shape,V.Bj]
 |d x=>
  cases x with
  |agg b=>simp[V.Bc]at h;subst h;simp[V.shape,D.shape,D.Bj]
  |_=>simp[V.Bc]at h
 |_=>simp[V.Bc]at h
def JU{w:World}{c:A9}:∀(b:List D)(a:List Value),Bz w c (b.map .d) a↔Bq w (CH c) b a
|[],a=>by simp[Bz,Bq]
|x::r,a=>by simp[Bz,Bq,V.Al,JU r]
def Tz{w:World}{c:A9}{v:V}{b:List V}(h:v.Bc=some b)(a:List Value):v.Al w c a↔Bz w c b a:=by
 cases v with
 |agg e=>simp[V.Bc]at h;subst h;simp[V.Al]
 |d x=>
  cases x with
  |agg e=>simp[V.Bc]at h;subst h;rw[JU];simp[V.Al,D.Ax]
  |_=>simp[V.Bc]at h
 |_=>simp[V.Bc]at h
mutual
def FQ{w:World}{q:A9}:∀(x:V)(g:List Value),x.Al w q g->g.length=x.shape.size
|.d x,g,h=>by simp only[V.Al]at h;simp only[V.shape,Cb];exact HI x g h
|.ptr id p,g,h=>by simp only[V.Al]at h;rcases h with⟨b,m,_,e⟩|⟨_,a,e⟩<;>simp[e,V.shape,Sh.size]
|.sl id n,g,h=>by simp only[V.Al]at h;obtain⟨o,u,_,e,_⟩:=h;simp[e,V.shape,Sh.size]
|.sd id n,g,h=>by simp only[V.Al]at h;obtain⟨o,u,_,e,_⟩:=h;simp[e,V.shape,Sh.size]
|.mp id,g,h=>by simp only[V.Al]at h;rcases h with⟨b,_,e⟩|⟨_,a,e⟩<;>simp[e,V.shape,Sh.size]
|.hd y id,g,h=>by simp only[V.Al]at h;rcases h with⟨b,_,e⟩|⟨_,a,e⟩<;>simp[e,V.shape,Sh.size]
|.ep id n z i f p,g,h=>by simp only[V.Al]at h;obtain⟨o,u,_,e,_⟩:=h;simp[e,V.shape,Sh.size]
|.bs id p G n,g,h=>by simp only[V.Al]at h;rcases h with⟨b,m,k,f,_,_,e⟩|⟨_,a,l,c,e⟩<;>simp[e,V.shape,Sh.size]
|.fn f s r,g,h=>by simp only[V.Al]at h;obtain⟨v,F,e,_⟩:=h;simp[e,V.shape,Sh.size]
|.agg j,g,h=>by simp only[V.Al]at h;simp only[V.shape,Sh.size];exact Mw j g h
|.iface t x,g,h=>by simp only[V.Al]at h;obtain⟨u,e,_⟩:=h;simp[e,V.shape,Sh.size]
|.BT j,g,h=>by simp only[V.Al]at h;obtain⟨u,e,_⟩:=h;simp[e,V.shape,Sh.size]
|.undef,g,h=>by simp only[V.Al]at h;simp[h,V.shape,Sh.size]
|.any,g,h=>by simp only[V.Al]at h;obtain⟨u,e⟩:=h;simp[e,V.shape,Sh.size]
def Mw{w:World}{i:A9}:∀(b:List V)(a:List Value),Bz w i b a->a.length=Sh.BX (V.BM b)
|[],a,h=>by simp only[Bz]at h;simp[h,V.BM,Sh.BX]
|x::r,a,h=>by
 simp only[Bz]at h;obtain⟨c,d,e,f,g⟩:=h;simp[e,V.BM,Sh.BX,FQ x c f,Mw r d g]
end
def rf{w:World}{c:A9}:∀(b:List V)(i:Nat)(a:List Value),Bz w c b a->
 Bz w c (b.take i) (a.take (Sh.BX ((b.map V.shape).take i)))/\Bz w c (b.drop i) (a.drop (Sh.BX ((b.map V.shape).take i)))
|b,0,a,h=>by simpa[Bz,Sh.BX]using h
|[],i+1,a,h=>by simpa[Bz,Sh.BX]using h
|x::r,i+1,a,h=>by
 simp only[Bz]at h;obtain⟨d,g,rfl,e,j⟩:=h;have f:=FQ x d e;obtain⟨p,q⟩:=rf r i g j;simp only[Cw,List.take_succ_cons,List.drop_succ_cons,Sh.BX];constructor
 ·rw[<-f,Rt];simp only[Bz];exact⟨d,_,rfl,e,p⟩
 ·rw[<-f,Ru];exact q
def PN{w:World}{e:A9}{d f:List V}{b c:List Value}(a:Bz w e d b)(i:Bz w e f c):Bz w e (d++f) (b++c):=by
 induction d generalizing b with
 |nil=>simp only[Bz]at a;subst a;simpa using i
 |cons x r l=>
  simp only[Bz]at a;obtain⟨g,h,rfl,j,k⟩:=a;simp only[List.cons_append,Bz];exact⟨g,h++c,by simp,j,l k⟩
def N8{w:World}{d:A9}{a:List V}{g:List Value}(h:Bz w d a g){i:Nat}{v:V}(o:a[i]? = some v):
 ∃f b c,g=f++(b++c)/\f.length=Sh.BX ((a.map V.shape).take i)/\Bz w d (a.take i) f/\v.Al w d b/\Bz w d (a.drop (i+1)) c:=by
 obtain⟨p,q⟩:=Ek.1 o;obtain⟨k,j⟩:=rf a i g h;rw[D5 p,q]at j;simp only[Bz]at j;obtain⟨b,c,e,l,m⟩:=j;refine⟨_,b,c,?_,?_,k,l,m⟩
 ·rw[<-e,Lu]
 ·have n:=Mw _ _ k;rw[V.Bj,<-Kv]at *;rw[n]
def V.at:V->List Nat->Option V
|v,[]=>some v
|v,i::p=>match v.Bc with
 |some a=>match a[i]? with
  |some k=>V.at k p
  |none=>none
 |none=>none
def CA:List V->Option (List D)
|[]=>some []
|.d x::r=>match CA r with
 |some l=>some (x::l)
 |none=>none
|_::_=>none
def V.mk(a:List V):V:=match CA a with
|some l=>.d (.agg l)
|none=>.agg a
def V.CI:∀{b:List V}{l:List D},CA b=some l->b=l.map .d
|[],l,h=>by simp[CA]at h;subst h;rfl
|.d x::r,l,h=>by
 simp only[CA]at h;cases a:CA r with
 |none=>simp[a]at h
 |some m=>simp[a]at h;subst h;simp[V.CI a]
|.ptr _ _::_,l,h|.sl _ _::_,l,h|.sd _ _::_,l,h|.mp _::_,l,h|.hd _ _::_,l,h|.ep _ _ _ _ _ _::_,l,h|.bs _ _ _ _::_,l,h|.fn _ _ _::_,l,h|.agg _::_,l,h|.iface _ _::_,l,h|.BT _::_,l,h|.undef::_,l,h|.any::_,l,h=>by simp[CA]at h
def YS(a:List V):(V.mk a).Bc=some a:=by
 unfold V.mk;split
 next l h=>simp[V.Bc,V.CI h]
 ·simp[V.Bc]
def Rba{v:V}{a:List V}(h:v.Bc=some a):v.isAgg=true:=by
 cases v with
 |agg b=>rfl
 |d x=>cases x with
  |agg b=>rfl
  |_=>simp[V.Bc]at h
 |_=>simp[V.Bc]at h
def V.set:V->List Nat->V->Option V
|_,[],x=>some x
|v,i::p,x=>match v.Bc with
 |some a=>match a[i]? with
  |some k=>match V.set k p x with
   |some b=>some (V.mk (a.set i b))
   |none=>none
  |none=>none
 |none=>none
def JV{w:World}{j:A9}:∀(p:List Nat)(t v:V)(a:List Value),t.Al w j a->t.at p=some v->
 ∃b c d,a=b++(c++d)/\b.length=t.shape.off p/\v.Al w j c
|[],t,v,a,h,e=>by
 simp only[V.at,CJ]at e;subst e;exact⟨[],a,[],by simp,by cases t.shape<;>simp[Sh.off],h⟩
|i::p,t,v,a,h,e=>by
 simp only[V.at]at e;split at e
 ·rename_i y g;split at e
  ·rename_i k f;rw[Tz g]at h;obtain⟨b,c,d,o,q,_,u,_⟩:=N8 h f;obtain⟨l,m,n,r,s,x⟩:=JV p k v c u e;refine⟨b++l,m,n++d,by simp[o,r],?_,x⟩;rw[PM g];simp only[Sh.off,C7,q,s];have:(List.map V.shape y).getD i .AR=k.shape:=by simp[f]
   rw[this]
  ·simp at e
 ·simp at e
def PR{w:World}{F:A9}:∀(p:List Nat)(t v x:V)(b a:List Value),t.Al w F b->t.at p=some v->x.Al w F a->x.shape=v.shape->
 ∃z,t.set p x=some z/\z.shape=t.shape/\z.Al w F (b.take (t.shape.off p)++(a++b.drop (t.shape.off p+a.length)))
|[],t,v,x,b,a,h,e,f,d=>by
 simp only[V.at,CJ]at e;subst e;refine⟨x,rfl,d,?_⟩;have r:=FQ _ _ h;have n:=FQ _ _ f;have:t.shape.off []=0:=by cases t.shape<;>simp[Sh.off]
 rw[this];have s:a.length=b.length:=by rw[r,n,d]
 simp[s,f]
|i::p,t,v,x,b,a,h,e,f,d=>by
 simp only[V.at]at e;split at e
 ·rename_i g o;split at e
  ·rename_i k c;rw[Tz o]at h;obtain⟨l,m,G,K,L,r,n,s⟩:=N8 h c;obtain⟨y,N,O,W⟩:=PR p k v x m a n e f d;obtain⟨Y,J,Z,P,Q,X⟩:=JV p k v m n e;have q:a.length=J.length:=by rw[FQ _ _ f,FQ _ _ X,d]
   have u:t.shape.off (i::p)=l.length+k.shape.off p:=by
    rw[PM o];simp only[Sh.off,L];have:(List.map V.shape g).getD i .AR=k.shape:=by simp[c]
    rw[this]
   refine⟨V.mk (g.set i y),by simp[V.set,o,c,N],?_,?_⟩
   ·rw[PM o,PM (YS _),GG,O];congr 1;apply Rv;intro j;by_cases H:i=j
    ·subst H;rw[Kw];simp[c];obtain⟨q,_⟩:=Ek.1 c;omega
    ·rw[Kw];simp[H]
   ·rw[Tz (YS _),u];have T:b.take (l.length+k.shape.off p)++(a++b.drop (l.length+k.shape.off p+a.length)) =
     l++((m.take (k.shape.off p)++(a++m.drop (k.shape.off p+a.length)))++G):=by
     subst P;rw[K,<-Q];simp only[JX,q];rw[Rt,Ku,Ru];simp[List.drop_append]
    rw[T];have U:g.set i y=g.take i++(y::g.drop (i+1)):=by
     obtain⟨q,_⟩:=Ek.1 c;exact UC.trans (by simp[q])
    rw[U];refine PN r ?_;simp only[Bz];exact⟨_,G,rfl,W,s⟩
  ·simp at e
 ·simp at e
inductive Gu where
|ready
|busy
|ret
|exit (n:Nat)
def Gu.st:Gu->LoopState
|.ready=>.ready
|.busy=>.busy
|.ret=>.done
|.exit _=>.done
def Gu.Dl:Gu->Option Code
|.ret=>some .ret
|.exit n=>some (.exit n)
|_=>none
inductive Ob where
|box (E:Nat) (t:V)
|BG (E sz:Nat) (xs:List D)
|Ay (E sz:Nat) (xs:List V)
|map (es:List (D×V))
|An
 |lp (tag:Nat) (st:Gu) (sl:List (Nat×V))
 |it (m:Option Nat) (n:Nat) (seen:List Nat)
def A7:List (Nat×V)->Nat->V
|[],_=>.any
|(j,d)::r,k=>if j=k then d else A7 r k
def AB:List (Nat×Ob)->Nat->Option Ob
|[],_=>none
|(j,d)::r,k=>if j=k then some d else AB r k
def AG:List (Nat×Ob)->Nat->Ob->List (Nat×Ob)
|[],_,_=>[]
|(j,d)::r,k,x=>if j=k then (j,x)::r else (j,d)::AG r k x
abbrev Xe:=List (Nat×V)
abbrev AF:=List (Nat×Ob)
def D.F8:D->Option Value
|.int k n=>some (.int k n)
|.bool b=>some (.bool b)
|.AU s=>some (.string ⟨s.toArray⟩)
|_=>none
def Ui:List D->Option (List Value)
|[]=>some []
|x::r=>match x.F8,Ui r with
 |some u,some a=>some (u::a)
 |_,_=>none
def XJ:Option (List Value)->Option Value
|some a=>some (.agg a.toArray)
|none=>none
def D.key:D->Option Value
|.int k n=>some (.int k n)
|.bool b=>some (.bool b)
|.AU s=>some (.string ⟨s.toArray⟩)
|.agg a=>XJ (Ui a)
|_=>none
def Yj(w:World)(c:A9):List (D×V)->List MapEntry->Prop
|[],b=>b=[]
|(k,v)::r,b=>∃e a,b=e::a/\k.key=some e.key/\v.Ax w c e.val/\Yj w c r a
def Yj.tr{w d:World}{ρ b:A9}(t:Tr w ρ d b):∀(l:List (D×V)) (c:List MapEntry),Yj w ρ l c->Yj d b l c
|[],c,h=>h
|(k,v)::r,c,h=>by
 obtain⟨e,a,f,g,i,j⟩:=h;exact⟨e,a,f,g,Gw t i,Yj.tr t r a j⟩
def FW:Nat->List MapEntry->Prop
|_,[]=>True
|n,e::r=>e.born=n/\FW (n+1) r
def Je(w:World)(a:A9)(id:Nat):Ob->Prop
|.box E t=>∃b d,a.m id=some (.box b t.shape)/\w.heap[b]? = some (.cells (List.toArray d) E (0,0))/\t.Al w a d
|.BG E h e=>(a.m id=some .CG/\e=[])\/∃b c d g,a.m id=some (.BG b e.length c)/\w.heap[b]? = some (.cells (List.toArray (d++g)) E (0,0))/\
 Bq w (CH a) e d/\(∀x∈e,x.sz=h)/\(d++g).length=c*h
|.Ay E h e=>(a.m id=some .CG/\e=[])\/∃b c d g,a.m id=some (.BG b e.length c)/\w.heap[b]? = some (.cells (List.toArray (d++g)) E (0,0))/\
 Bz w a e d/\(∀x∈e,x.size=h)/\(d++g).length=c*h
|.map y=>∃b l f,a.m id=some (.map b)/\w.heap[b]? = some (.map (List.toArray l) f)/\Yj w a y l/\f=l.length/\FW 0 l
|.An=>a.m id=some .An
|.lp i u z=>∃b fn k v s o q,a.m id=some (.map b)/\w.heap[b]? = some (.loop {state:=u.st,pending:=u.Dl,fn:=fn,tmps:=k,params:=s,assign:=o,body:=q,defers:=v})/\a.gl.l i s k.size o q/\∀p∈z,p.2.Ax w a (k.getD p.1 undef)
|.it none _ _=>∃b,a.m id=some (.map b)/\w.heap[b]? = some (.mapIter none 0 #[] 0)
|.it (some j) n seen=>∃b r,a.m id=some (.map b)/\(a.m j=some (.map r)\/a.m j=some .An)/\w.heap[b]? = some (.mapIter (some r) n seen.toArray n)
def E4:AF->Prop
|[]=>True
|(j,_)::r=>AB r j=none/\E4 r
def E4.A7:∀{c:AF},E4 c->∀e∈c,AB c e.1=some e.2
|[],_,e,h=>by cases h
|(j,o)::r,h,e,b=>by
 rcases EJ.mp b with rfl|b
 ·simp[AB]
 ·have a:=E4.A7 h.2 e b;have:j≠e.1:=λd=>by rw[d]at h;rw[h.1]at a;cases a
  simp[AB,this,a]
def dh{x:Ob}{id:Nat}:∀(a:AF)(j:Nat),AB a j=none->AB (AG a id x) j=none
|[],_,h=>by simp[AG,AB]
|(k,y)::r,j,h=>by
 simp only[AB]at h;simp only[AG];split at h
 ·cases h
 ·rename_i e;split
  ·simp only[AB,e,Bs];exact h
  ·simp only[AB,e,Bs];exact dh r j h
def E4.set{x:Ob}{id:Nat}:∀{a:AF},E4 a->E4 (AG a id x)
|[],h=>h
|(k,y)::r,h=>by
 simp only[AG];split
 ·exact h
 ·exact⟨dh r k h.1,E4.set h.2⟩
structure OM(w:World)(ρ:A9)(objs:AF):Prop where
 BW:∀id ob,AB objs id=some ob->Je w ρ id ob
 EY:∀id o,ρ.m id=some o->∃ob,AB objs id=some ob
 inj:∀i j o p b,ρ.m i=some o->ρ.m j=some p->o.blk? = some b->p.blk? = some b->i=j
 E9:∀b,ρ.xo b->b<w.heap.size
 EF:∀b o,ρ.gl b=some o->w.heap[b]? = some o/\¬CH ρ b
 Dm:∀b,FD ρ b->¬ρ.xo b
 Cn:E4 objs
def SM(w:World)(c:A9)(b:Xe)(a:Act):Prop:=∀k,(A7 b k).Ax w c (a.tmps.getD k undef)
structure B5(w w':World):Prop where
 size:w.heap.size<=w'.heap.size
 keep:∀b,b<w.heap.size->w'.heap[b]? = w.heap[b]?
 tape:w'.tape=w.tape
 os:w'.os=w.os
 Ck:w'.output=w.output
 drawn:w.drawn<=w'.drawn
def B5.refl(w:World):B5 w w:=⟨Bg _,λ_ _=>rfl,rfl,rfl,rfl,Bg _⟩
def B5.trans{w e c:World}(h:B5 w e)(a:B5 e c):B5 w c:=
 ⟨IQ h.size a.size,λb d=>(a.keep b (OD d h.size)).trans (h.keep b d),a.tape.trans h.tape,a.os.trans h.os,a.Ck.trans h.Ck,IQ h.drawn a.drawn⟩
def B5.tr{w a:World}(h:B5 w a){ρ:A9}:Tr w ρ a ρ:=
 ⟨h.size,λb _ c=>h.keep b c,λ_ h=>.inl h,rfl,rfl,λ_ o h=>⟨o,h,.refl o⟩,h.tape,h.os,h.Ck,h.drawn⟩
def PT(w:World)(n:Nat)(h:w.drawn<=n:=by simp):B5 w {w with drawn:=n}:=⟨Bg _,λ_ _=>rfl,rfl,rfl,rfl,h⟩
def Ly{w f:World}{c a:A9}(t:Tr w c f a)(h:∀b o,c.gl b=some o->w.heap[b]? = some o/\¬CH c b):∀b o,a.gl b=some o->f.heap[b]? = some o/\¬CH a b:=by
 intro b o e;rw[t.gl]at e;obtain⟨d,g⟩:=h b o e;obtain⟨i,j⟩:=t.mono b g (Xl d);exact⟨i.trans d,j⟩
def OM.ext{w u:World}{ρ:A9}{f:AF}(h:B5 w u)(m:OM w ρ f):OM u ρ f:=by
 refine⟨λid s G=>?_,m.EY,m.inj,λb F=>OD (m.E9 b F) h.size,Ly h.tr m.EF,m.Dm,m.Cn⟩;have d:=m.BW id s G;cases s with
 |box E t=>
  obtain⟨b,k,c,a,e⟩:=d;exact⟨b,k,c,(h.keep b (Xl a)).trans a,IN h.tr _ _ e⟩
 |BG E L P=>
  rcases d with d|⟨b,g,k,r,c,a,e,i,q⟩
  ·exact .inl d
  ·exact .inr ⟨b,g,k,r,c,(h.keep b (Xl a)).trans a,GF (h.tr (ρ:=ρ)).mono _ _ e,i,q⟩
 |Ay E L P=>
  rcases d with d|⟨b,g,k,r,c,a,e,i,q⟩
  ·exact .inl d
  ·exact .inr ⟨b,g,k,r,c,(h.keep b (Xl a)).trans a,HJ (h.tr (ρ:=ρ)) _ _ e,i,q⟩
 |map Q=>
  obtain⟨b,l,o,c,a,e,i⟩:=d;exact⟨b,l,o,c,(h.keep b (Xl a)).trans a,Yj.tr h.tr _ _ e,i⟩
 |lp N U T=>
  obtain⟨b,z,O,y,K,v,x,c,a,e,i⟩:=d;exact⟨b,z,O,y,K,v,x,c,(h.keep b (Xl a)).trans a,e,λp H=>Gw h.tr (i p H)⟩
 |it m n seen=>
  cases m with
  |none=>obtain⟨b,c,a⟩:=d;exact⟨b,c,(h.keep b (Xl a)).trans a⟩
  |some j=>obtain⟨b,J,c,e,a⟩:=d;exact⟨b,J,c,e,(h.keep b (Xl a)).trans a⟩
 |An=>exact d
def SM.tr{w d:World}{ρ b:A9}{c:Xe}{a:Act}(t:Tr w ρ d b)(h:SM w ρ c a):SM d b c a:=λk=>Gw t (h k)
inductive A where
|t (k:Nat)
|int (k:IntKind) (n:Int)
|bool (b:Bool)
|AU (s:List UInt8)
|Ad
|B6
|CL
|Br
|CV
|nl (sz:Nat)
|fn (f:Nat)
def A.Ak:Operand->A->Bool
|.tmp k,.t j=>k==j
|.const (.int k n),.int c d=>decide (k=c)&&n==d
|.const (.bool b),.bool a=>b==a
|.const (.string s),.AU l=>s.data.toList==l
|.const (.slice none n m),.Ad=>n==0&&m==0
|.const .nilIface,.B6=>true
|.const (.pointer none),.CL=>true
|.const .nilFunc,.Br=>true
|.const (.map none),.CV=>true
|.const (.slice none n m),.nl _=>n==0&&m==0
|.func f,.fn g=>f==g
|_,_=>false
def A.ev(a:Xe):A->V
|.t k=>A7 a k
|.int k n=>.d (.int k n)
|.bool b=>.d (.bool b)
|.AU s=>.d (.AU s)
|.Ad=>.d .Ad
|.B6=>.d .B6
|.CL=>.d .CL
|.Br=>.d .Br
|.CV=>.d .CV
|.nl c=>.d (.AH c [])
|.fn f=>.fn f [] []
section A8
variable {w:World} {ρ:A9} {u:Value}
def Yf{k:IntKind}{n:Int}:(V.d (.int k n)).Ax w ρ u↔u=.int k n:=by simp[V.Ax,V.isAgg,V.Al,D.Ax]
def BR{b:Bool}:(V.d (.bool b)).Ax w ρ u↔u=.bool b:=by simp[V.Ax,V.isAgg,V.Al,D.Ax]
def CO{s:List UInt8}:(V.d (.AU s)).Ax w ρ u↔u=.string ⟨s.toArray⟩:=by simp[V.Ax,V.isAgg,V.Al,D.Ax]
def Vv:(V.d .Ad).Ax w ρ u↔u=.slice none 0 0:=by simp[V.Ax,V.isAgg,V.Al,D.Ax]
def VH:(V.d .B6).Ax w ρ u↔u=.nilIface:=by simp[V.Ax,V.isAgg,V.Al,D.Ax]
def gH:(V.d .CL).Ax w ρ u↔u=.pointer none:=by simp[V.Ax,V.isAgg,V.Al,D.Ax]
def Xz9:(V.d .Br).Ax w ρ u↔u=.nilFunc:=by simp[V.Ax,V.isAgg,V.Al,D.Ax]
def SW:(V.d .CV).Ax w ρ u↔u=.map none:=by simp[V.Ax,V.isAgg,V.Al,D.Ax]
def Wq:V.undef.Ax w ρ u↔u=undef:=by simp[V.Ax,V.isAgg,V.Al]
def J0:V.any.Ax w ρ u:=.inl rfl
def Za{e:Nat}{b:List D}:(V.d (.AH e b)).Ax w ρ u↔(b=[]/\u=.slice none 0 0)\/∃a c f,u=.slice (some a) b.length c/\b.length<=c/\Co w (CH ρ) a f/\Bq w (CH ρ) b f/\∀x∈b,x.sz=e:=by
 simp[V.Ax,V.isAgg,V.Al,D.Ax]
def L3{x:D}:(V.d (.Bv x)).Ax w ρ u↔∃a b,u=.pointer (some a)/\a.spot=none/\Co w (CH ρ) a b/\x.Ax w (CH ρ) b:=by
 simp[V.Ax,V.isAgg,V.Al,D.Ax]
def VI{id:Nat}{p:List Nat}:(V.ptr id p).Ax w ρ u↔(∃b c,ρ.m id=some (.box b c)/\u=.pointer (some ⟨b,c.off p,none⟩))\/(ρ.m id=some .An/\∃a,u=.pointer (some a)):=by
 simp[V.Ax,V.isAgg,V.Al]
def wF{id:Nat}{p:List Nat}(h:(V.ptr id p).Ax w ρ u):∃a,u=.pointer (some a):=by
 rw[VI]at h;rcases h with⟨b,c,_,h⟩|⟨_,h⟩
 ·exact⟨_,h⟩
 ·exact h
def Bp{id:Nat}{p:List Nat}{c:AF}{E:Nat}{t:V}(e:OM w ρ c)(f:AB c id=some (.box E t))(h:(V.ptr id p).Ax w ρ u):∃b d,ρ.m id=some (.box b d)/\u=.pointer (some ⟨b,d.off p,none⟩):=by
 rw[VI]at h;rcases h with h|⟨h,_⟩
 ·exact h
 ·obtain⟨b,g,a,_⟩:=e.BW id _ f;rw[h]at a;cases a
def UQ{id:Nat}{p:List Nat}{b:Nat}{sh:Sh}(h:ρ.m id=some (.box b sh)):(V.ptr id p).Ax w ρ (.pointer (some ⟨b,sh.off p,none⟩)):=VI.2 (.inl ⟨b,sh,h,rfl⟩)
def Y3{id n:Nat}:(V.sl id n).Ax w ρ u↔∃o,ρ.m id=some o/\o.slice n u:=by
 simp[V.Ax,V.isAgg,V.Al]
def Yl6{id n:Nat}:(V.sd id n).Ax w ρ u↔∃o,ρ.m id=some o/\o.EA n u:=by
 simp[V.Ax,V.isAgg,V.Al]
def QX{id:Nat}:(V.mp id).Ax w ρ u↔(∃b,ρ.m id=some (.map b)/\u=.map (some b))\/(ρ.m id=some .An/\∃r,u=.map r):=by
 simp[V.Ax,V.isAgg,V.Al]
def L4{y:Bool}{id:Nat}:(V.hd y id).Ax w ρ u↔(∃b,ρ.m id=some (.map b)/\u=Ke y b)\/(ρ.m id=some .An/\∃b,u=Ke y b):=by
 simp[V.Ax,V.isAgg,V.Al]
def S1{id e n:Nat}{p:List Nat}:(V.bs id p e n).Ax w ρ u↔(∃b g d f,ρ.m id=some (.box b g)/\(n<=d/\(n≠0->f=g.off (p++[e])))/\u=.slice (some ⟨b,f,none⟩) n d)\/(ρ.m id=some .An/\∃a l c,u=.slice a l c):=by
 simp[V.Ax,V.isAgg,V.Al]
def S3{id n z i f:Nat}{p:List Nat}:(V.ep id n z i f p).Ax w ρ u↔∃o,ρ.m id=some o/\o.elem n (i*z+f) u:=by
 simp[V.Ax,V.isAgg,V.Al]
def NJ{f:Nat}{b a:List V}:(V.fn f b a).Ax w ρ u↔∃c d,u=.func (.func f) c.toArray d.toArray/\V.A8 w ρ b c/\V.A8 w ρ a d:=by
 simp[V.Ax,V.isAgg,V.Al]
def Ii{x:D}:(V.d x).Ax w ρ u↔(x.isAgg=true/\∃a,u=.agg a.toArray/\x.Ax w (CH ρ) a)\/(x.isAgg=false/\x.Ax w (CH ρ) [u]):=by
 have:(V.d x).isAgg=x.isAgg:=by cases x<;>rfl
 simp[V.Ax,V.Al,this]
def SV{t:Nat}{x:D}:(V.d (.iface t x)).Ax w ρ u↔∃c,u=.iface t c/\(V.d x).Ax w ρ c:=by
 simp[Ii,D.isAgg,D.Ax]
def QY:∀{l:List D}{a:List Value},V.A8 w ρ (l.map .d) a↔FR w (CH ρ) l a
|[],a=>by simp[V.A8,FR]
|x::r,a=>by
 have:∀u,((V.d x)=V.any\/(V.d x).isAgg=true/\(∃b,u=Value.agg b.toArray/\V.Al w ρ (V.d x) b)\/(V.d x).isAgg=false/\V.Al w ρ (V.d x) [u])↔(V.d x).Ax w ρ u:=λu=>Iff.rfl;simp only[Cw,V.A8,FR,QY (l:=r),this,Ii]
def Sn{f:Nat}{b a:List D}:(V.d (.fn f b a)).Ax w ρ u↔∃c e,u=.func (.func f) c.toArray e.toArray/\V.A8 w ρ (b.map .d) c/\V.A8 w ρ (a.map .d) e:=by
 simp[Ii,D.isAgg,D.Ax,QY]
def CP{b:List V}:(V.BT b).Ax w ρ u↔∃a,u=.tuple a.toArray/\V.A8 w ρ b a:=by
 simp[V.Ax,V.isAgg,V.Al]
def Xz8{v:V}{c:List V}(h:v.Bc=some c):v.Ax w ρ u↔∃a,u=.agg a.toArray/\Bz w ρ c a:=by
 have b:=Rba h;have d:v≠.any:=by intro e;subst e;simp[V.isAgg]at b
 simp[V.Ax,b,d,Tz h]
def W6{v:V}(h:v.isAgg=false)(a:v≠.any):v.Ax w ρ u↔v.Al w ρ [u]:=by
 simp[V.Ax,h,a]
def J1{v:V}{cs:List Value}(h:v.Al w ρ cs):v.Ax w ρ (if v.isAgg then .agg cs.toArray else cs.headD undef):=by
 cases a:v.isAgg with
 |true=>exact .inr (.inl ⟨a,cs,by simp,h⟩)
 |false=>
  have b:=FQ _ _ h;have e:v.shape.size=1:=by
   cases v with
   |d x=>cases x<;>simp_all[V.isAgg,V.shape,D.shape,Sh.size]
   |agg f=>simp[V.isAgg]at a
   |_=>simp[V.shape,Sh.size]
  rw[e]at b;obtain⟨c,rfl⟩:=Lt.1 b;exact .inr (.inr ⟨a,by simpa using h⟩)
def Um{v:V}(c:v≠.any){u:Value}(h:v.Ax w ρ u):v.Al w ρ u.cells.toList:=by
 rcases h with h|⟨_,g,rfl,h⟩|⟨j,h⟩
 ·exact absurd h c
 ·simpa[Value.cells]using h
 ·have:u.cells=#[u]:=by
   cases u with
   |agg e=>
    cases v with
    |d x=>cases x<;>simp_all[V.isAgg,V.Al,D.Ax]
    |sl id n=>
     simp only[V.Al]at h;obtain⟨o,u,_,a,b⟩:=h;simp only[HN,Gg]at a;subst a;cases o<;>simp[RO.slice]at b
    |sd id n=>
     simp only[V.Al]at h;obtain⟨o,u,_,a,b⟩:=h;simp only[HN,Gg]at a;subst a;cases o<;>simp[RO.EA]at b
    |ptr id p=>simp only[V.Al]at h;rcases h with⟨_,_,_,h⟩|⟨_,_,h⟩<;>simp at h
    |mp id=>simp only[V.Al]at h;rcases h with⟨_,_,h⟩|⟨_,_,h⟩<;>simp at h
    |hd y id=>simp only[V.Al]at h;rcases h with⟨_,_,h⟩|⟨_,_,h⟩<;>cases y<;>simp[Ke]at h
    |bs id p k n=>simp only[V.Al]at h;rcases h with⟨_,_,_,_,_,_,h⟩|⟨_,_,_,_,h⟩<;>simp at h
    |ep id n z i f p=>
     simp only[V.Al]at h;obtain⟨o,u,_,a,b⟩:=h;simp only[HN,Gg]at a;subst a;cases o<;>simp[RO.elem]at b
    |_=>simp_all[V.isAgg,V.Al,Go.undef]
   |_=>rfl
  rw[this];simpa using h
end A8
def A.Az{w:World}{d:A9}{c:Xe}{a:Act}(e:SM w d c a):∀{x:Operand}{y:A},A.Ak x y=true->(y.ev c).Ax w d (a.eval x)
|.tmp k,.t j,h=>by simp[A.Ak]at h;subst h;exact e k
|.const (.int k n),.int o p,h=>by simp[A.Ak]at h;obtain⟨rfl,rfl⟩:=h;simp[A.ev,Yf,Act.eval]
|.const (.bool b),.bool i,h=>by simp[A.Ak]at h;subst h;simp[A.ev,BR,Act.eval]
|.const (.string s),.AU l,h=>by
 simp[A.Ak]at h;subst h;simp[A.ev,CO,Act.eval]
|.const (.slice none n m),.Ad,h=>by simp[A.Ak]at h;obtain⟨rfl,rfl⟩:=h;simp[A.ev,Vv,Act.eval]
|.const .nilIface,.B6,h=>by simp[A.ev,VH,Act.eval]
|.const (.pointer none),.CL,h=>by simp[A.ev,gH,Act.eval]
|.const .nilFunc,.Br,h=>by simp[A.ev,Xz9,Act.eval]
|.const (.map none),.CV,h=>by simp[A.ev,SW,Act.eval]
|.const (.slice none n m),.nl q,h=>by simp[A.Ak]at h;obtain⟨rfl,rfl⟩:=h;simp[A.ev,Za,Act.eval]
|.func f,.fn g,h=>by
 simp[A.Ak]at h;subst h;simp only[A.ev,NJ,Act.eval,V.A8];exact⟨[],[],rfl,rfl,rfl⟩
def DL(a:AF)(id:Nat)(p:List Nat):Option V:=match AB a id with
|some (.box _ t)=>t.at p
|_=>none
def JJ(K:V->Prop):V->V->V->Prop
|.d (.bool t),.d (.bool x),.d (.bool y)=>K (.d (.bool (if t then x else y)))
|.d (.bool t),x,y=>(t=true->K x)/\(t=false->K y)
|_,_,_=>False
def Lb(K:V->Prop):V->Prop
|.d (.bool b)=>K (.d (.bool (!b)))
|_=>False
def LZ(K:V->Prop):V->Prop
|.d (.int k n)=>K (.d (.int k (k.wrap (0-n))))
|_=>False
def Zf(a:BinOp)(k:IntKind)(x y:Int):Int:=
 match a with
 |.and=>k.wrap (BitVec.ofInt k.bits x &&&BitVec.ofInt k.bits y).toNat
 |.or=>k.wrap (BitVec.ofInt k.bits x |||BitVec.ofInt k.bits y).toNat
 |.xor=>k.wrap (BitVec.ofInt k.bits x ^^^ BitVec.ofInt k.bits y).toNat
 |_=>k.wrap (BitVec.ofInt k.bits x &&&~~~ BitVec.ofInt k.bits y).toNat
def IW(e:BinOp)(k c:IntKind)(a b:Int)(K:V->Prop):Prop:=
 match e with
 |.add=>k=c/\K (.d (.int k (k.wrap (a+b))))
 |.sub=>k=c/\K (.d (.int k (k.wrap (a-b))))
 |.mul=>k=c/\K (.d (.int k (k.wrap (a*b))))
 |.quo=>k=c/\b≠0/\K (.d (.int k (k.wrap (a.tdiv b))))
 |.rem=>k=c/\b≠0/\K (.d (.int k (a.tmod b)))
 |.and|.or|.xor|.andNot=>k=c/\K (.d (.int k (Zf e k a b)))
 |.shl=>0<=b/\K (.d (.int k (k.wrap (a*2 ^ (min b.toNat k.bits)))))
 |.shr=>0<=b/\K (.d (.int k (a.fdiv (2 ^ (min b.toNat k.bits)))))
 |.eql=>k=c/\K (.d (.bool (a==b)))
 |.neq=>k=c/\K (.d (.bool (a != b)))
 |.lss=>k=c/\K (.d (.bool (decide (a<b))))
 |.leq=>k=c/\K (.d (.bool (decide (a<=b))))
 |.gtr=>k=c/\K (.d (.bool (decide (b<a))))
 |.geq=>k=c/\K (.d (.bool (decide (b<=a))))
def MQ(K:V->Prop):V->Prop
|.d (.int k n)=>K (.d (.int k (Zf .xor k (if k.signed then -1 else k.max) n)))
|_=>False
def I6(a:BinOp)(x y:List UInt8)(K:V->Prop):Prop:=
 match a with
 |.add=>x.length+y.length<=9223372036854775807/\K (.d (.AU (x++y)))
 |.eql=>K (.d (.bool (x==y)))
 |.neq=>K (.d (.bool (x != y)))
 |.lss=>K (.d (.bool (Op.bytesLess x y)))
 |.leq=>K (.d (.bool (Op.bytesLess x y||x==y)))
 |.gtr=>K (.d (.bool (!(Op.bytesLess x y||x==y))))
 |.geq=>K (.d (.bool (!Op.bytesLess x y)))
 |_=>False
def Iy(c:BinOp)(K:V->Prop):V->V->Prop
|.d (.int k a),.d (.int e b)=>IW c k e a b K
|.d (.AU x),.d (.AU y)=>I6 c x y K
|_,_=>False
def Q6(e:Bool)(K:V->Prop):V->Prop
|.d .B6=>K (.d (.bool e))
|.iface _ _=>K (.d (.bool (!e)))
|.d (.iface _ _)=>K (.d (.bool (!e)))
|_=>False
def JH(e:Bool)(K:V->Prop):V->Prop
|.d .Br=>K (.d (.bool e))
|.d (.fn _ _ _)=>K (.d (.bool (!e)))
|.fn _ _ _=>K (.d (.bool (!e)))
|_=>False
def I8(a:AF)(K:V->Prop):V->Prop
|.sl id n=>(∃E c b,AB a id=some (.BG E c b)/\c≠0/\n=b.length/\b≠[])/\K (.sd id n)
|.d .Ad=>K (.d .CL)
|_=>False
def LY(t:Nat):V->V
|.d x=>.d (.iface t x)
|v=>.iface t v
def MW(f:Nat)(b a:List V):Option (List D)->Option (List D)->V
|some l,some m=>.d (.fn f l m)
|_,_=>.fn f b a
def Oq(f:Nat)(b a:List V):V:=MW f b a (CA b) (CA a)
def LQ(k:IntKind)(K:V->Prop):V->Prop
|.d (.int _ n)=>K (.d (.int k (k.wrap n)))
|_=>False
def LV(K:V->Prop):V->V->Prop
|.d (.AU s),.d (.int _ n)=>(0<=n/\n<s.length)/\K (.d (.int .u8 (s.getD n.toNat 0).toNat))
|_,_=>False
def Vf:Option V->Option (List V)
|some v=>v.Bc
|none=>none
def Uw(n i:Nat):Option Ob->Option V
|some (.Ay _ _ a)=>if n=a.length then a[i]? else none
|some (.BG _ _ a)=>if n=a.length then (a.map V.d)[i]? else none
|_=>none
def Gh(z f:Nat)(p:List Nat):Option V->Option V
|some v=>if z=v.size/\f=v.shape.off p then v.at p else none
|none=>none
def F6(a:AF)(id n z i f:Nat)(p:List Nat):Option V:=Gh z f p (Uw n i (AB a id))
def OW(z:Nat):Option V->Prop
|some v=>v.size=z
|none=>False
def HQ(a:AF)(z:Nat)(K:V->Prop):V->V->Prop
|.d (.AH f e),.d (.int _ n)=>z=f/\(0<=n/\n<e.length)/\K (.d (.Bv (e.getD n.toNat default)))
|.sl id n,.d (.int _ m)=>(0<=m/\m<n)/\OW z (Uw n m.toNat (AB a id))/\K (.ep id n z m.toNat 0 [])
|.bs id p c n,.d (.int _ m)=>(0<=m/\m<n)/\(∃b,Vf (DL a id p)=some b/\c+n<=b.length/\∀k∈b,k.size=z)/\K (.ptr id (p++[c+m.toNat]))
|_,_=>False
def JI(b:AF)(a z:Nat)(K:V->Prop):V->V->Prop
|.ptr id p,.d (.int _ n)=>(0<=n/\n<a)/\(∃c,Vf (DL b id p)=some c/\c.length=a/\∀k∈c,k.size=z)/\K (.ptr id (p++[n.toNat]))
|.d (.Bv (.agg e)),.d (.int _ n)=>(0<=n/\n<a)/\e.length=a/\(∀x∈e,x.sz=z)/\K (.d (.Bv (e.getD n.toNat default)))
|_,_=>False
def Jo(id:Nat)(p:List Nat)(f b:Nat)(K:V->Prop):Option (List V)->Prop
|some a=>f<a.length/\Sh.BX ((a.take f).map V.shape)=b/\K (.ptr id (p++[f]))
|none=>False
def Ux(a:AF)(f b:Nat)(K:V->Prop):V->Prop
|.ptr id p=>Jo id p f b K (Vf (DL a id p))
|.d (.Bv (.agg c))=>f<c.length/\C8 (c.take f)=b/\K (.d (.Bv (c.getD f default)))
|.ep id n z i g p=>K (.ep id n z i (g+b) (p++[f]))
|_=>False
def LU(f c n:Nat)(b:Bool)(K:V->Prop):Option (List V)->Prop
|some a=>f<a.length/\Sh.BX ((a.take f).map V.shape)=c/\(a.getD f .any).size=n/\(a.getD f .any).isAgg=b/\K (a.getD f .any)
|none=>False
def GU(n:Nat)(a:Bool)(K:V->Prop):Option V->Prop
|some v=>v.size=n/\v.isAgg=a/\K v
|none=>False
def En(a:AF)(n:Nat)(b:Bool)(K:V->Prop):V->Prop
|.ptr id p=>GU n b K (DL a id p)
|.d (.Bv x)=>x.sz=n/\(V.d x).isAgg=b/\K (.d x)
|.ep id m z i f p=>GU n b K (F6 a id m z i f p)
|_=>False
def H5(K:V->Prop):V->Prop
|.ptr id p=>K (.ptr id p)
|.ep id n z i f p=>K (.ep id n z i f p)
|.d (.Bv x)=>K (.d (.Bv x))
|.fn f a b=>K (.fn f a b)
|.d (.fn f a b)=>K (.d (.fn f a b))
|_=>False
def LF(K:V->Prop):V->Prop
|.d (.AU s)=>K (.d (.int .i64 s.length))
|_=>False
def Hw(a:AF)(K:V->Prop):V->Prop
|.d (.AH _ b)=>K (.d (.int .i64 b.length))
|.d .Ad=>K (.d (.int .i64 0))
|.bs id _ _ n=>(∃E t,AB a id=some (.box E t))/\K (.d (.int .i64 n))
|.sl id n=>((∃E z b,AB a id=some (.BG E z b)/\n=b.length)\/∃E z b,AB a id=some (.Ay E z b)/\n=b.length)/\K (.d (.int .i64 n))
|_=>False
def EL(a:Nat)(K:Nat->Nat->Prop):Option V->Option V->Prop
|none,none=>K 0 a
|some (.d (.int _ l)),none=>(0<=l/\l<=a)/\K l.toNat a
|none,some (.d (.int _ h))=>(0<=h/\h<=a)/\K 0 h.toNat
|some (.d (.int _ l)),some (.d (.int _ h))=>(0<=h/\h<=a)/\(0<=l/\l<=h)/\K l.toNat h.toNat
|_,_=>False
def LK(b a:Option V)(K:V->Prop):V->Prop
|.d (.AU s)=>EL s.length (λl h=>K (.d (.AU ((s.take h).drop l)))) b a
|_=>False
def LJ(z:Nat)(e c:Option V)(K:V->Prop):V->Prop
|.d (.AH a b)=>z=a/\EL b.length (λl h=>K (.d (.AH a ((b.take h).drop l)))) e c
|_=>False
def LS(i:Nat)(K:V->Prop):V->Prop
|.BT a=>i<a.length/\K (a.getD i .any)
|_=>False
def EU:List V->List (Nat×V)->(List V->Prop)->Prop
|a,[],K=>K a
|a,(i,v)::r,K=>i<a.length/\v.shape=(a.getD i .any).shape/\v≠.any/\EU (a.set i v) r K
def MZ(t:Nat)(z:D)(K:V->Prop):V->Prop
|.iface a v=>(a=t->K (.BT [v,.d (.bool true)]))/\(a≠t->K (.BT [.d z,.d (.bool false)]))
|.d (.iface a x)=>(a=t->K (.BT [.d x,.d (.bool true)]))/\(a≠t->K (.BT [.d z,.d (.bool false)]))
|.d .B6=>K (.BT [.d z,.d (.bool false)])
|_=>False
inductive KT where
|int (k:IntKind)
|bool
|AU
|st (fs:List KT)
|ar (n:Nat) (e:KT)
mutual
def KT.cells:KT->Nat
|.st a=>Ro a
|.ar n e=>n*e.cells
|_=>1
def Ro:List KT->Nat
|[]=>0
|t::r=>t.cells+Ro r
end
mutual
def KT.depth:KT->Nat
|.st a=>N9 a+1
|.ar _ e=>e.depth+1
|_=>1
def N9:List KT->Nat
|[]=>0
|t::r=>max t.depth (N9 r)
end
mutual
def KT.Bm:KT->D->Bool
|.int k,.int c _=>decide (k=c)
|.bool,.bool _=>true
|.AU,.AU _=>true
|.st b,.agg a=>FJ b a
|.ar n e,.agg a=>decide (a.length=n)&&KT.Df e a
|_,_=>false
def FJ:List KT->List D->Bool
|[],[]=>true
|t::r,x::s=>t.Bm x&&FJ r s
|_,_=>false
def KT.Df:KT->List D->Bool
|_,[]=>true
|t,x::s=>t.Bm x&&KT.Df t s
end
def TV(a:KT)(e:Bool)(K:V->Prop):V->V->Prop
|.d x,.d y=>a.Bm x=true/\a.Bm y=true/\K (.d (.bool (Cy x y==e)))
|_,_=>False
def Oa(a z:Nat)(c:Bool)(K:V->Prop):V->V->Prop
|.d (.agg b),.d (.int _ n)=>(0<=n/\n<a)/\b.length=a/\(∀x∈b,x.sz=z/\x.isAgg=c)/\K (.d (b.getD n.toNat default))
|_,_=>False
inductive C where
|mv (x:A)
|pick (c a b:A)
|not (x:A)
|neg (x:A)
|HF (x:A)
|CR (op:BinOp) (x y:A)
|DG (e:Bool) (x:A)
|EP (e:Bool) (x:A)
|IM (x:A)
|IE (k:IntKind) (x:A)
|Gn (x i:A)
|Cs (sz:Nat) (x i:A)
|CZ (len sz:Nat) (x i:A)
|Bf (f fo:Nat) (x:A)
|IF (f fo n:Nat) (ag:Bool) (x:A)
|ld (n:Nat) (ag:Bool) (x:A)
|DA (x:A)
|DI (x:A)
|CK (x:A)
|Cu (x:A) (lo hi:Option A)
|C6 (sz:Nat) (x:A) (lo hi:Option A)
|ext (x:A) (i:Nat)
|Fa (z:List D) (Xs:List (Nat×A))
|ES (f:Nat) (first cap:List A)
|IH (t:Nat) (x:A)
|IL (t:Nat) (z:D) (x:A)
|Fc (ty:KT) (e:Bool) (x y:A)
|HY (len sz:Nat) (ag:Bool) (x i:A)
def C.wp(g:Xe)(h:AF)(K:V->Prop):C->Prop
|.mv x=>K (x.ev g)
|.pick c a b=>JJ K (c.ev g) (a.ev g) (b.ev g)
|.not x=>Lb K (x.ev g)
|.neg x=>LZ K (x.ev g)
|.HF x=>MQ K (x.ev g)
|.CR s x y=>Iy s K (x.ev g) (y.ev g)
|.DG e x=>Q6 e K (x.ev g)
|.EP e x=>JH e K (x.ev g)
|.IM x=>I8 h K (x.ev g)
|.IE k x=>LQ k K (x.ev g)
|.Gn x i=>LV K (x.ev g) (i.ev g)
|.Cs z x i=>HQ h z K (x.ev g) (i.ev g)
|.CZ n z x i=>JI h n z K (x.ev g) (i.ev g)
|.Bf f m x=>Ux h f m K (x.ev g)
|.IF f m n j x=>LU f m n j K (x.ev g).Bc
|.ld n j x=>En h n j K (x.ev g)
|.DA x=>H5 K (x.ev g)
|.DI x=>LF K (x.ev g)
|.CK x=>Hw h K (x.ev g)
|.Cu x q o=>LK (q.map (A.ev g)) (o.map (A.ev g)) K (x.ev g)
|.C6 z x q o=>LJ z (q.map (A.ev g)) (o.map (A.ev g)) K (x.ev g)
|.ext x i=>LS i K (x.ev g)
|.Fa z Xs=>EU (z.map .d) (Xs.map λ(i,x)=>(i,x.ev g)) λr=>K (V.mk r)
|.ES f first l=>K (Oq f (first.map (A.ev g)) (l.map (A.ev g)))
|.IH t x=>K (LY t (x.ev g))
|.IL t z x=>MZ t z K (x.ev g)
|.Fc u e x y=>TV u e K (x.ev g) (y.ev g)
|.HY p z j x i=>Oa p z j K (x.ev g) (i.ev g)
def JG:List Operand->List A->Bool
|[],[]=>true
|x::r,y::s=>A.Ak x y&&JG r s
|_,_=>false
def Fq:Option Operand->Option A->Bool
|none,none=>true
|some x,some y=>A.Ak x y
|_,_=>false
def Vs:List (Nat×Operand)->List (Nat×A)->Bool
|[],[]=>true
|(i,x)::r,(j,y)::s=>i==j&&A.Ak x y&&Vs r s
|_,_=>false
mutual
def ET:D->List Value->Bool
|.int k n,[.int d e]=>decide (k=d)&&n==e
|.bool b,[.bool a]=>b==a
|.AU s,[.string t]=>t.data.toList==s
|.Ad,[.slice none n m]=>n==0&&m==0
|.B6,[.nilIface]=>true
|.CL,[.pointer none]=>true
|.Br,[.nilFunc]=>true
|.CV,[.map none]=>true
|.AH _ [],[.slice none n m]=>n==0&&m==0
|.agg f,c=>HK f c
|_,_=>false
def HK:List D->List Value->Bool
|[],[]=>true
|x::r,a=>ET x (a.take x.sz)&&HK r (a.drop x.sz)
|_,_=>false
end
def GV(P:Program)(t:TypeId):Bool:=match P.underlying t with
|some (.struct _)|some (.array _ _)=>true
|_=>false
def K0(P:Program)(s:TypeId)(f:Nat):Option Field:=match P.underlying s with
|some (.struct a)=>a[f]?
|_=>none
def Yl(P:Program)(t:TypeId):Option Nat:=(P.info? t).map (·.size)
def U3(P:Program)(t:TypeId):Option (List Value):=((P.info? t).bind (·.zero)).map (·.cells.toList)
mutual
def KT.Ak(P:Program):KT->TypeId->Bool
|.int k,t=>match P.underlying t with|some (.int c)=>decide (c=k)|_=>false
|.bool,t=>match P.underlying t with|some .bool=>true|_=>false
|.AU,t=>match P.underlying t with|some .string=>true|_=>false
|.st b,t=>match P.underlying t with|some (.struct a)=>!P.stoodInHeld t&&KT.Dr P b a.toList 0|_=>false
|.ar n e,t=>match P.underlying t with|some (.array m u)=>n==m&&Yl P u==some e.cells&&e.Ak P u|_=>false
def KT.Dr(P:Program):List KT->List Field->Nat->Bool
|[],[],_=>true
|t::r,f::a,o=>f.name != "_" &&f.offset==o&&Yl P f.type==some t.cells&&t.Ak P f.type&&KT.Dr P r a (o+t.cells)
|_,_,_=>false
end
def C.Ak(P:Program)(p:Op):C->Bool
|.mv y=>match p with
 |.move x|.assign x=>A.Ak x y
 |_=>false
|.pick c a b=>match p with
 |.pick x y z=>A.Ak x c&&A.Ak y a&&A.Ak z b
 |_=>false
|.not y=>match p with
 |.unOp .not _ x=>A.Ak x y
 |_=>false
|.neg y=>match p with
 |.unOp .neg _ x=>A.Ak x y
 |_=>false
|.HF y=>match p with
 |.unOp .xor _ x=>A.Ak x y
 |_=>false
|.CR o a b=>match p with
 |.binOp Q _ x y _=>decide (o=Q)&&A.Ak x a&&A.Ak y b
 |_=>false
|.DG e a=>match p with
 |.binOp o t x y _=>decide (o=if e then .eql else .neq)&&(P.underlying t matches some (.interface _))&&A.Ak x a&&(y matches .const .nilIface)
 |_=>false
|.EP e a=>match p with
 |.binOp o t x y _=>decide (o=if e then .eql else .neq)&&(P.underlying t matches some (.func _ _ _))&&A.Ak x a&&(y matches .const .nilFunc)
 |_=>false
|.IM y=>match p with
 |.call {callee:=.builtin .unsafeSliceData,args:=args,argTypes:=_}=>match args.toList with
  |[x]=>A.Ak x y
  |_=>false
 |_=>false
|.IE k y=>match p with
 |.convert s t x=>(P.underlying s).isSome&&(match P.underlying t with|some (.int O)=>decide (k=O)|_=>false)&&A.Ak x y
 |_=>false
|.Gn a i=>match p with
 |.index t x j=>(P.underlying t matches some .string)&&A.Ak x a&&A.Ak j i
 |_=>false
|.Cs z a i=>match p with
 |.indexAddr t x j=>(match P.underlying t with|some (.slice e)=>Yl P e==some z&&z != 0|_=>false)&&A.Ak x a&&A.Ak j i
 |_=>false
|.CZ n z a i=>match p with
 |.indexAddr t x j=>(match P.underlying t with|some (.array m e)=>n==m&&Yl P e==some z|_=>false)&&A.Ak x a&&A.Ak j i
 |_=>false
|.Bf f H y=>match p with
 |.fieldAddr s x g=>f==g&&(match K0 P s f with|some q=>q.offset==H&&(match Yl P q.type with|some n=>n != 0|none=>false)|none=>false)&&A.Ak x y
 |_=>false
|.IF f H n r y=>match p with
 |.field s x g=>f==g&&(match K0 P s f with|some q=>q.offset==H&&Yl P q.type==some n&&(P.underlying q.type).isSome&&GV P q.type==r|none=>false)&&A.Ak x y
 |_=>false
|.ld n r y=>match p with
 |.load t x=>Yl P t==some n&&(P.underlying t).isSome&&GV P t==r&&A.Ak x y
 |_=>false
|.DA y=>match p with
 |.nilCheck x=>A.Ak x y
 |_=>false
|.DI y=>match p with
 |.call {callee:=.builtin .len,args:=args,argTypes:=L}=>match args.toList,L.toList with
  |[x],[t]=>(P.underlying t matches some .string)&&A.Ak x y
  |_,_=>false
 |_=>false
|.CK y=>match p with
 |.call {callee:=.builtin .len,args:=args,argTypes:=L}=>match args.toList,L.toList with
  |[x],[t]=>(P.underlying t matches some (.slice _))&&A.Ak x y
  |_,_=>false
 |_=>false
|.Cu y K J=>match p with
 |.slice t x l h none=>(P.underlying t matches some .string)&&A.Ak x y&&Fq l K&&Fq h J
 |_=>false
|.C6 z y K J=>match p with
 |.slice t x l h none=>(match P.underlying t with|some (.slice e)=>Yl P e==some z|_=>false)&&A.Ak x y&&Fq l K&&Fq h J
 |_=>false
|.ext y i=>match p with
 |.extract x j=>i==j&&A.Ak x y
 |_=>false
|.Fa z Xs=>match p with
 |.build t T=>Vs T.toList Xs&&(match U3 P t with|some w=>HK z w|none=>false)&&
  (match P.underlying t with
  |some (.struct F)=>F.toList.all (λq=>(Yl P q.type).isSome)&&F.toList.map (λq=>(q.offset,(Yl P q.type).getD 0))==(List.range z.length).map (λi=>(C8 (z.take i),(z.getD i default).sz))
  |some (.array _ e)=>(match Yl P e with|some n=>z.all (λx=>x.sz==n)|none=>false)
  |_=>false)
 |_=>false
|.ES f first G=>match p with
 |.makeFunc (.func g) F w=>f==g&&JG F.toList first&&JG w.toList G
 |_=>false
|.IH t y=>match p with
 |.makeInterface u x=>t==u&&(match P.underlying t with|some (.interface _)=>false|some _=>true|none=>false)&&A.Ak x y
 |_=>false
|.IL t z y=>match p with
 |.typeAssert x _ u true=>t==u&&(match P.underlying t with|some (.interface _)=>false|some _=>true|none=>false)&&(match U3 P t with|some w=>ET z w&&(((P.info? t).bind (·.zero)).map λv=>match v with|.agg _=>true|_=>false)==some (V.d z).isAgg|none=>false)&&A.Ak x y
 |_=>false
|.Fc N e a b=>match p with
 |.binOp o t x y _=>decide (o=if e then .eql else .neq)&&N.Ak P t&&decide (N.depth<=10000)&&(match N with|.st _|.ar _ _=>true|_=>false)&&!P.eqGuardType P.depth t&&A.Ak x a&&A.Ak y b
 |_=>false
|.HY n z r a i=>match p with
 |.index t x j=>(match P.underlying t with|some (.array m e)=>n==m&&Yl P e==some z&&(P.underlying e).isSome&&GV P e==r|_=>false)&&A.Ak x a&&A.Ak j i
 |_=>false
def VE(l:Bool)(P:Program)(a:Act)(w:World)(d:A9)(c:Op)(K:V->Prop):Prop:=
 ∃v x,K x/\x.Ax w d v/\∀(o:Oper),o.op=c->∀b,(l=true->B5 w b)->(execOp a.eval o).run P b=.ok (.value v) b
abbrev Y0:=VE false
section
variable {P:Program} {a:Act} {w:World} {ρ:A9} {sl:Xe} {objs:AF} {K:V->Prop}
def Xa{t:TypeId}{d:TypeDesc}(h:P.underlying t=some d)(b:World):(underlying t).run P b=.ok d b:=by
 simp[underlying,h]
def X2{t:TypeId}{n:Nat}(h:Yl P t=some n)(c:World):(sizeOf t).run P c=.ok n c:=by
 unfold Yl at h;cases b:P.info? t with
 |none=>simp[b]at h
 |some i=>simp[b]at h;simp[sizeOf,typeInfo,b,h]
def UU{t:TypeId}(h:(P.underlying t).isSome=true)(c:World):(isAgg t).run P c=.ok (GV P t) c:=by
 obtain⟨d,b⟩:=Kt.1 h;simp only[isAgg,GV,Sem.run_bind,Xa b,Result.andThen_ok,b];cases d<;>simp
def Yh7(e:SM w ρ sl a){x:A}{b:Op}(c:C.Ak P b (.mv x)=true)(h:K (x.ev sl)):Y0 P a w ρ b K:=by
 cases b<;>simp[C.Ak]at c
 all_goals exact⟨_,_,h,A.Az e c,λo d f _=>by simp[execOp,d]⟩
def X2y(g:SM w ρ sl a){c x y:A}{i:Op}(k:C.Ak P i (.pick c x y)=true)(h:JJ K (c.ev sl) (x.ev sl) (y.ev sl)):Y0 P a w ρ i K:=by
 cases i<;>simp[C.Ak]at k;rename_i u v z;obtain⟨⟨n,p⟩,q⟩:=k;have j:=A.Az g n;have F:=A.Az g p;have G:=A.Az g q;generalize c.ev sl=H at *;generalize x.ev sl=l at *;generalize y.ev sl=m at *;have b:∀t:Bool,H=.d (.bool t)->(t=true->K l)->(t=false->K m)->Y0 P a w ρ (.pick u v z) K:=by
  intro t e r s;subst e;rw[BR]at j;cases t with
  |true=>exact⟨_,l,r rfl,F,λo f J _=>by simp[execOp,f,j,asBool]⟩
  |false=>exact⟨_,m,s rfl,G,λo f J _=>by simp[execOp,f,j,asBool]⟩
 unfold JJ at h;split at h
 next t L N=>refine b t rfl (λe=>?_) (λe=>?_)<;>subst e<;>simpa using h
 ·exact b _ rfl h.1 h.2
 ·cases h
def Yc5(i:SM w ρ sl a){x:A}{d:Op}(c:C.Ak P d (.not x)=true)(h:Lb K (x.ev sl)):Y0 P a w ρ d K:=by
 cases d<;>simp[C.Ak]at c;rename_i u t y;cases u<;>simp at c;have e:=A.Az i c;unfold Lb at h;split at h
 next b f=>rw[f,BR]at e;exact⟨.bool (!b),_,h,BR.2 rfl,λo g j _=>by simp[execOp,g,e,Op.unary]⟩
 ·cases h
def Yc4(g:SM w ρ sl a){x:A}{c:Op}(b:C.Ak P c (.neg x)=true)(h:LZ K (x.ev sl)):Y0 P a w ρ c K:=by
 cases c<;>simp[C.Ak]at b;rename_i u t y;cases u<;>simp at b;have d:=A.Az g b;unfold LZ at h;split at h
 next k n e=>rw[e,Yf]at d;exact⟨_,_,h,Yf.2 rfl,λo f i _=>by simp[execOp,f,d,Op.unary,Op.intArith]⟩
 ·cases h
def Ycw(g:SM w ρ sl a){x:A}{c:Op}(b:C.Ak P c (.HF x)=true)(h:MQ K (x.ev sl)):Y0 P a w ρ c K:=by
 cases c<;>simp[C.Ak]at b;rename_i u t y;cases u<;>simp at b;have d:=A.Az g b;unfold MQ at h;split at h
 next k n e=>rw[e,Yf]at d;exact⟨_,_,h,Yf.2 rfl,λo f i _=>by simp[execOp,f,d,Op.unary,Op.intBits,Zf]⟩
 ·cases h
def Qh(b:BinOp)(t:TypeId)(x y:Operand)(k:IntKind)(n:Int)(v:Value)(c:World):(eqGuard b t x y (.int k n) v).run P c=.ok () c:=by
 cases b<;>simp[eqGuard]
def vo(b:BinOp)(t:TypeId)(x y:Operand)(s:ByteArray)(v:Value)(c:World):(eqGuard b t x y (.string s) v).run P c=.ok () c:=by
 cases b<;>simp[eqGuard]
def vr(c:BinOp)(t:TypeId)(x y:Operand)(u:TypeId)(b v:Value)(d:World):(eqGuard c t x y (.iface u b) v).run P d=.ok () d:=by
 cases c<;>simp[eqGuard]
def VM(s:List UInt8):(ByteArray.mk s.toArray).size=s.length:=by
 show s.toArray.size=_;simp
def yq(l:List UInt8):ByteArray.toList ⟨l.toArray⟩=l:=by
 simp[ByteArray.toList_eq]
def Ycu(l:SM w ρ sl a){c:BinOp}{x y:A}{i:Op}(j:C.Ak P i (.CR c x y)=true)(h:Iy c K (x.ev sl) (y.ev sl)):Y0 P a w ρ i K:=by
 cases i<;>simp[C.Ak]at j;rename_i s t H J z;obtain⟨⟨rfl,p⟩,q⟩:=j;have d:=A.Az l p;have e:=A.Az l q;generalize x.ev sl=F at *;generalize y.ev sl=G at *;unfold Iy at h;split at h
 ·rename_i k n r m;rw[Yf]at d e;cases c<;>simp only[IW]at h
  all_goals first
  |(obtain⟨rfl,h⟩:=h;first
   |exact⟨_,_,h,Yf.2 rfl,λo b f _=>by simp[execOp,b,d,e,Qh,binOp,Op.intArith,Op.intBits,Zf]⟩
   |exact⟨_,_,h,BR.2 rfl,λo b f _=>by simp[execOp,b,d,e,Qh,binOp,Op.intCmp]⟩
   |(obtain⟨g,h⟩:=h;exact⟨_,_,h,Yf.2 rfl,λo b f _=>by simp[execOp,b,d,e,Qh,binOp,Op.intDiv,g]⟩))
  |(obtain⟨g,h⟩:=h;exact⟨_,_,h,Yf.2 rfl,λo b f _=>by simp[execOp,b,d,e,Qh,binOp,Op.shift,show ¬m<0 by omega]⟩)
 ·rename_i u v;rw[CO]at d e;cases c<;>simp only[I6]at h
  all_goals first
  |exact⟨_,_,h,BR.2 rfl,λo b f _=>by simp[execOp,b,d,e,vo,binOp,Op.stringOp,bne]⟩
  |(cases h;done)
  |skip
  obtain⟨g,h⟩:=h;refine⟨_,_,h,CO.2 rfl,λo b f _=>?_⟩;simp only[execOp,b,d,e,vo,binOp,Sem.run_bind,Result.andThen_ok];rw[run_string_add_sum _ _ _ (by simpa[ByteArray.size]using g)];simp[ByteArray.mk_append_mk]
 ·cases h
def Ygw{t:TypeId}{e:Array (String×TypeId)}(c:P.underlying t=some (.interface e))(b:World):(Op.equal t .nilIface .nilIface).run P b=.ok true b:=by
 have:∀d,(Op.equalIn (d+1) t .nilIface .nilIface).run P b=.ok true b:=λd=>by simp[Op.equalIn,Xa c]
 exact this 9999
def zh{t:TypeId}{f:Array (String×TypeId)}(e:P.underlying t=some (.interface f))(u:TypeId)(c:Value)(b:World):(Op.equal t (.iface u c) .nilIface).run P b=.ok false b:=by
 have:∀d,(Op.equalIn (d+1) t (.iface u c) .nilIface).run P b=.ok false b:=λd=>by simp[Op.equalIn,Xa e]
 exact this 9999
def Xr2(b:BinOp)(t:TypeId)(x:Operand)(c:Value)(d:World):(eqGuard b t x (.const c) .nilIface .nilIface).run P d=.ok () d:=by
 cases b<;>simp[eqGuard]
def Xxf(s:SM w ρ sl a){e:Bool}{x:A}{k:Op}(l:C.Ak P k (.DG e x)=true)(h:Q6 e K (x.ev sl)):Y0 P a w ρ k K:=by
 cases k<;>simp[C.Ak]at l;rename_i F t H z G;obtain⟨⟨⟨g,r⟩,p⟩,q⟩:=l;have b:=A.Az s p;obtain⟨m,j⟩:∃m,P.underlying t=some (.interface m):=by revert r;split<;>simp_all
 have y:z=.const .nilIface:=by revert q;split<;>simp_all
 subst y;have i:a.eval (.const .nilIface)=.nilIface:=rfl;unfold Q6 at h;split at h
 next d=>rw[d,VH]at b;refine⟨_,_,h,BR.2 rfl,λo f n _=>?_⟩;subst g;cases e<;>simp[execOp,f,b,i,Xr2,binOp,Ygw j]
 next u v d=>rw[d]at b;rw[W6 (by simp[V.isAgg]) (by simp)]at b;simp only[V.Al,HN,Gg]at b;obtain⟨c,b,_⟩:=b;refine⟨_,_,h,BR.2 rfl,λo f n _=>?_⟩;subst g;cases e<;>simp[execOp,f,b,i,vr,binOp,zh j]
 next u v d=>rw[d,SV]at b;obtain⟨c,b,_⟩:=b;refine⟨_,_,h,BR.2 rfl,λo f n _=>?_⟩;subst g;cases e<;>simp[execOp,f,b,i,vr,binOp,zh j]
 ·cases h
def Ygu{t:TypeId}{e f:Array TypeId}{g:Bool}(c:P.underlying t=some (.func e f g))(b:World):(Op.equal t .nilFunc .nilFunc).run P b=.ok true b:=by
 have:∀d,(Op.equalIn (d+1) t .nilFunc .nilFunc).run P b=.ok true b:=λd=>by simp[Op.equalIn,Xa c]
 exact this 9999
def za{t:TypeId}{g h:Array TypeId}{i:Bool}(e:P.underlying t=some (.func g h i))(f:Go.Fn)(a b:Array Value)(c:World):(Op.equal t (.func f a b) .nilFunc).run P c=.ok false c:=by
 have:∀d,(Op.equalIn (d+1) t (.func f a b) .nilFunc).run P c=.ok false c:=λd=>by simp[Op.equalIn,Xa e]
 exact this 9999
def X1x(b:BinOp)(t:TypeId)(x y:Operand)(v:Value)(c:World):(eqGuard b t x y .nilFunc v).run P c=.ok () c:=by
 cases b<;>simp[eqGuard]
def wx(b:BinOp)(t:TypeId)(x y:Operand)(f:Go.Fn)(c d:Array Value)(v:Value)(e:World):(eqGuard b t x y (.func f c d) v).run P e=.ok () e:=by
 cases b<;>simp[eqGuard]
def X2s(G:SM w ρ sl a){e:Bool}{x:A}{k:Op}(l:C.Ak P k (.EP e x)=true)(h:JH e K (x.ev sl)):Y0 P a w ρ k K:=by
 cases k<;>simp[C.Ak]at l;rename_i L t O J N;obtain⟨⟨⟨g,F⟩,y⟩,z⟩:=l;have b:=A.Az G y;obtain⟨m,n,p,j⟩:∃m n p,P.underlying t=some (.func m n p):=by revert F;split<;>simp_all
 have H:J=.const .nilFunc:=by revert z;split<;>simp_all
 subst H;have i:a.eval (.const .nilFunc)=.nilFunc:=rfl;unfold JH at h;split at h
 next c=>rw[c,Xz9]at b;refine⟨_,_,h,BR.2 rfl,λo d q _=>?_⟩;subst g;cases e<;>simp[execOp,d,b,i,X1x,binOp,Ygu j]
 next f s r c=>rw[c,Sn]at b;obtain⟨u,v,b,_⟩:=b;refine⟨_,_,h,BR.2 rfl,λo d q _=>?_⟩;subst g;cases e<;>simp[execOp,d,b,i,wx,binOp,za j]
 next f s r c=>rw[c,NJ]at b;obtain⟨u,v,b,_⟩:=b;refine⟨_,_,h,BR.2 rfl,λo d q _=>?_⟩;subst g;cases e<;>simp[execOp,d,b,i,wx,binOp,za j]
 ·cases h
def Ycx(p:SM w ρ sl a){k:IntKind}{x:A}{b:Op}(c:C.Ak P b (.IE k x)=true)(h:LQ k K (x.ev sl)):Y0 P a w ρ b K:=by
 cases b<;>simp[C.Ak]at c;rename_i s t v;obtain⟨⟨g,j⟩,i⟩:=c;have e:=A.Az p i;obtain⟨d,l⟩:=Kt.1 g;have q:P.underlying t=some (.int k):=by revert j;split<;>simp_all
 unfold LQ at h;split at h
 next r n f=>rw[f,Yf]at e;refine⟨_,_,h,Yf.2 rfl,λo m u _=>?_⟩;simp[execOp,m,e,convert,Xa q,Xa l,Conv.intToInt]
 ·cases h
def Yc1(f:SM w ρ sl a){x y:A}{d:Op}(e:C.Ak P d (.Gn x y)=true)(h:LV K (x.ev sl) (y.ev sl)):Y0 P a w ρ d K:=by
 cases d<;>simp[C.Ak]at e;rename_i t G H;obtain⟨⟨m,p⟩,q⟩:=e;have g:=A.Az f p;have i:=A.Az f q;have v:P.underlying t=some .string:=by revert m;split<;>simp_all
 unfold LV at h;split at h
 ·rename_i s k n j l;rw[j,CO]at g;rw[l,Yf]at i;obtain⟨⟨c,z⟩,h⟩:=h;refine⟨_,_,h,Yf.2 rfl,λo u F _=>?_⟩;have b:n.toNat<s.length:=by omega
  have r:(ByteArray.mk s.toArray)[n.toNat]? = some s[n.toNat]:=by
   rw[getElem?_pos _ _ (by simpa[ByteArray.size]using b)];simp[ByteArray.getElem_eq_getElem_data]
  simp[execOp,u,g,i,Instr.index,asIntOf,Xa v,c,r,b]
 ·cases h
def Yp5(u:OM w ρ objs){id n i:Nat}{v:V}(h:Uw n i (AB objs id)=some v):
 ∃b c E g k e f,ρ.m id=some (.BG b n c)/\w.heap[b]? = some (.cells (List.toArray (e++f)) E (0,0))/\Bz w ρ k e/\(∀x∈k,x.size=g)/\(e++f).length=c*g/\n=k.length/\k[i]? = some v:=by
 unfold Uw at h;split at h
 ·rename_i E g t s;split at h
  ·rename_i j;rcases u.BW id _ s with⟨_,rfl⟩|⟨b,c,e,f,l,o,p,q,r⟩
   ·simp at h
   ·exact⟨b,c,E,g,t,e,f,by rw[j];exact l,o,p,q,r,j,h⟩
  ·cases h
 ·rename_i E g t s;split at h
  ·rename_i j;rcases u.BW id _ s with⟨_,rfl⟩|⟨b,c,e,f,l,o,p,q,r⟩
   ·simp at h
   ·refine⟨b,c,E,g,t.map .d,e,f,by rw[j];exact l,o,(JU _ _).2 p,?_,r,by simpa using j,h⟩;intro x z;obtain⟨y,F,rfl⟩:=DY.1 z;simp[V.size,V.shape,Cb,q y F]
  ·cases h
 ·cases h
def Yg{z:Nat}:∀(b:List V),(∀k∈b,k.size=z)->Sh.BX (b.map V.shape)=b.length*z
|[],_=>by simp[Sh.BX]
|x::r,h=>by
 have c:=h x (by simp);have d:=Yg r (λy e=>h y (by simp[e]));unfold V.size at c;simp[Sh.BX,c,d,Hs];omega
def wZ(t:OM w ρ objs){id n i:Nat}{v:V}(h:Uw n i (AB objs id)=some v):
 ∃b c E d e f,ρ.m id=some (.BG b n c)/\w.heap[b]? = some (.cells (List.toArray (d++(e++f))) E (0,0))/\d.length=i*v.size/\v.Al w ρ e:=by
 obtain⟨b,c,E,k,H,J,G,q,r,s,j,L,N,g⟩:=Yp5 t h;obtain⟨d,e,f,l,o,_,p,_⟩:=N8 s g;have y:v.size=k:=j v (List.mem_of_getElem? g);have u:i<H.length:=(Ek.1 g).1;refine⟨b,c,E,d,e,f++G,q,by rw[r,l];simp,?_,p⟩;rw[o,<-Kv,Yg (z:=k) _ (λx F=>j x (F1 F)),Fm,Gx (by omega),y]
def Mo(b:Sh):b.off []=0:=by cases b<;>simp[Sh.off]
def wV{id n z i f:Nat}{p:List Nat}{u:Value}(h:(V.ep id n z i f p).Ax w ρ u):∃a,u=.pointer (some a):=by
 rw[S3]at h;obtain⟨o,_,h⟩:=h;cases o with
 |BG b l c=>exact h.2.1
 |An=>exact h
 |box b s=>cases h
 |map b=>cases h
 |CG=>cases h
def Ygs{id n z i g e:Nat}{p q:List Nat}{d:Addr}(h:(V.ep id n z i g p).Ax w ρ (.pointer (some d))):
 (V.ep id n z i (g+e) q).Ax w ρ (.pointer (some (d.add e))):=by
 rw[S3]at h⊢;obtain⟨o,f,h⟩:=h;refine⟨o,f,?_⟩;cases o with
 |BG k l c=>
  simp only[RO.elem]at h⊢;refine⟨h.1,⟨_,rfl⟩,λj=>?_⟩;have:=h.2.2 j;simp only[Value.pointer.injEq,CJ]at this⊢;subst this;rw[Addr.By rfl];simp only[Addr.mk.injEq,Gg,true_and];omega
 |An=>exact⟨_,rfl⟩
 |box b s=>cases h
 |map b=>cases h
 |CG=>cases h
def M9(i:OM w ρ objs){id:Nat}{p:List Nat}{v:V}(h:DL objs id p=some v):
 ∃t b c E,AB objs id=some (.box E t)/\t.at p=some v/\ρ.m id=some (.box b t.shape)/\w.heap[b]? = some (.cells (List.toArray c) E (0,0))/\t.Al w ρ c:=by
 unfold DL at h;split at h
 next E t d=>obtain⟨b,c,e,f,g⟩:=i.BW id _ d;exact⟨t,b,c,E,d,h,e,f,g⟩
 ·simp at h
def PU(s:Sh):∀(p:List Nat)(t:V)(v:V)(i:Nat),t.shape=s->t.at p=some v->s.off (p++[i])=s.off p+v.shape.off [i]
|[],t,v,i,e,h=>by
 simp only[V.at,CJ]at h;subst h;subst e;have:t.shape.off []=0:=by cases t.shape<;>simp[Sh.off]
 simp[this]
|j::p,t,v,i,e,h=>by
 simp only[V.at]at h;split at h
 ·rename_i f d;split at h
  ·rename_i k c;subst e;rw[PM d];have b:(List.map V.shape f).getD j .AR=k.shape:=by simp[c]
   simp only[List.cons_append,Sh.off,b];rw[PU _ p k v i rfl h];omega
  ·simp at h
 ·simp at h
def Sm{v:V}{b:List V}(c:v.Bc=some b)(i:Nat):v.shape.off [i]=Sh.BX ((b.take i).map V.shape):=by
 rw[PM c];simp only[Sh.off,Kv];cases (List.map V.shape b).getD i .AR<;>simp[Sh.off]
def X2t(hs:SM w ρ sl a)(hO:OM w ρ objs){z:Nat}{x y:A}{op:Op}(hc:C.Ak P op (.Cs z x y)=true)(h:HQ objs z K (x.ev sl) (y.ev sl)):Y0 P a w ρ op K:=by
 cases op<;>simp[C.Ak]at hc;rename_i t x1 y1;obtain⟨⟨h0,h1⟩,h2⟩:=hc;have c:=A.Az hs h1;have r:=A.Az hs h2;obtain⟨e,ht,Y,ab⟩:∃e,P.underlying t=some (.slice e)/\Yl P e=some z/\z≠0:=by
  revert h0;split<;>simp_all
 unfold HQ at h;split at h
 ·rename_i sz xs k n u F;rw[u,Za]at c;rw[F,Yf]at r;obtain⟨rfl,⟨d,L⟩,h⟩:=h;have g:n.toNat<xs.length:=by omega
  rcases c with⟨Q,_⟩|⟨U,s,vs,c,_,J,O,hu⟩
  ·subst Q;simp at g
  ·have aa:U.spot=none:=by
    refine(J.1 λhv=>?_).1;have:=Gv _ _ O;rw[hv,Er _ hu]at this;simp only[List.length_nil]at this;have h5:0<xs.length*z:=Nat.mul_pos (by omega) (OC ab);omega
   refine⟨_,_,h,L3.2 ⟨⟨U.block,U.off+n.toNat*z,none⟩,_,rfl,rfl,J.sub (n.toNat*z) z,?_⟩,λo N w' _=>?_⟩
   ·have H:=T2 O g;have X:C8 (xs.take n.toNat)=n.toNat*z:=by
     rw[Er (sz:=z) _ (λx Q=>hu x (F1 Q))];rw[Fm,Gx (by omega)]
    rw[X,hu _ (Ci g)]at H;simpa[g]using H
   ·simp[execOp,N,c,r,Instr.indexAt,asIntOf,Xa ht,d,L,X2 Y,Addr.By aa]
 ·rename_i id n k m u F;rw[u,Y3]at c;rw[F,Yf]at r;obtain⟨⟨d,L⟩,h⟩:=h;cases l:Uw n m.toNat (AB objs id) with
  |none=>simp only[l,OW,false_and]at h
  |some v=>
   simp only[l,OW]at h;obtain⟨hz,h⟩:=h;obtain⟨b,s,E,c1,c2,c3,W,g2,G,g4⟩:=wZ hO l;obtain⟨o,q1,q2⟩:=c;rw[W]at q1;simp only[CJ]at q1;subst q1;have c:=q2.2.2 rfl;refine⟨.pointer (some ⟨b,m.toNat*z,none⟩),_,h,S3.2 ⟨_,W,?_⟩,λo N w' _=>?_⟩
   ·refine⟨Bg _,⟨_,rfl⟩,λ_=>?_⟩;rfl
   ·simp[execOp,N,c,r,Instr.indexAt,asIntOf,Xa ht,d,L,X2 Y,Addr.By]
 ·rename_i id p lo n k m u F;rw[u,S1]at c;rw[F,Yf]at r;obtain⟨⟨d,L⟩,⟨ks,Z,hl,hz⟩,h⟩:=h;cases j:DL objs id p with
  |none=>simp[j,Vf]at Z
  |some v=>
   simp only[j,Vf]at Z;obtain⟨t0,b',cs,E,W,g2,G,g4,g5⟩:=M9 hO j;rcases c with⟨b,sh,s,f,T,⟨ac,q⟩,c⟩|⟨hg,_⟩
   ·have q:=q (by omega);subst q;rw[T]at G;simp only[CJ,RO.box.injEq]at G;obtain⟨rfl,rfl⟩:=G;refine⟨_,_,h,UQ T,λo N w' _=>?_⟩;have H:∀i,i<=ks.length->t0.shape.off (p++[i])=t0.shape.off p+i*z:=λi hi=>by
     rw[PU _ p t0 v i rfl g2,Sm Z,Yg (z:=z) _ (λx Q=>hz x (F1 Q)),Fm,Gx hi]
    have X:=H lo (by omega);have h5:=H (lo+m.toNat) (by omega);simp[execOp,N,c,r,Instr.indexAt,asIntOf,Xa ht,d,L,X2 Y,Addr.By,X,h5,Hs,Ku]
   ·rw[G]at hg;cases hg
 ·cases h
def xF(X:SM w ρ sl a)(i:OM w ρ objs){n z:Nat}{x y:A}{op:Op}(U:C.Ak P op (.CZ n z x y)=true)(h:JI objs n z K (x.ev sl) (y.ev sl)):Y0 P a w ρ op K:=by
 cases op<;>simp[C.Ak]at U;rename_i t x1 y1;obtain⟨⟨h0,h1⟩,h2⟩:=U;have c:=A.Az X h1;have s:=A.Az X h2;obtain⟨e,Y,W⟩:∃e,P.underlying t=some (.array n e)/\Yl P e=some z:=by
  revert h0;split<;>simp_all
 unfold JI at h;split at h
 ·rename_i id p k m u F;rw[u]at c;rw[F,Yf]at s;obtain⟨⟨g,N⟩,⟨ks,J,hl,r⟩,h⟩:=h;cases d:DL objs id p with
  |none=>simp[d,Vf]at J
  |some v=>
   simp only[d,Vf]at J;obtain⟨Q,b',cs,E,g1,g2,G,g4,g5⟩:=M9 i d;obtain⟨b,sh,l,c⟩:=Bp i g1 c;rw[l]at G;simp only[CJ,RO.box.injEq]at G;obtain⟨rfl,rfl⟩:=G;refine⟨_,_,h,UQ l,λo i w' _=>?_⟩;have q:Q.shape.off (p++[m.toNat])=Q.shape.off p+m.toNat*z:=by
    rw[PU _ p Q v m.toNat rfl g2,Sm J,Yg (z:=z) _ (λk L=>r k (F1 L)),Fm,Gx (by omega)]
   simp[execOp,i,c,s,Instr.indexAt,asIntOf,Xa Y,g,N,X2 W,Instr.sureAddr,Addr.By,q]
 ·rename_i Z k m u F;rw[u,L3]at c;rw[F,Yf]at s;obtain⟨⟨g,N⟩,hl,r,h⟩:=h;obtain⟨T,vs,c,O,H,j⟩:=c;simp only[D.Ax]at j;have f:m.toNat<Z.length:=by omega
  refine⟨_,_,h,L3.2 ⟨⟨T.block,T.off+m.toNat*z,none⟩,_,rfl,rfl,H.sub (m.toNat*z) z,?_⟩,λo i w' _=>?_⟩
  ·have q:=T2 j f;have h4:C8 (Z.take m.toNat)=m.toNat*z:=by
    rw[Er (sz:=z) _ (λx hx=>r x (F1 hx)),Fm,Gx (by omega)]
   rw[h4,r _ (Ci f)]at q;simpa[f]using q
  ·simp[execOp,i,c,s,Instr.indexAt,asIntOf,Xa Y,g,N,X2 W,Instr.sureAddr,Addr.By O]
 ·cases h
def xE(hs:SM w ρ sl a)(k:OM w ρ objs){f fo:Nat}{x:A}{op:Op}(Z:C.Ak P op (.Bf f fo x)=true)(h:Ux objs f fo K (x.ev sl)):Y0 P a w ρ op K:=by
 cases op<;>simp[C.Ak]at Z;rename_i t x1 g;obtain⟨⟨rfl,F⟩,h1⟩:=Z;have c:=A.Az hs h1;obtain⟨d,n,hf,r,W,q⟩:∃d n,K0 P t f=some d/\d.offset=fo/\Yl P d.type=some n/\n≠0:=by
  cases O:K0 P t f with
  |none=>simp[O]at F
  |some d=>
   cases j:Yl P d.type with
   |none=>simp[O,j]at F
   |some n=>simp[O,j]at F;exact⟨d,n,rfl,F.1,j,F.2⟩
 obtain⟨L,s,l⟩:∃L,P.underlying t=some (.struct L)/\L[f]? = some d:=by
  unfold K0 at hf;revert hf;split<;>simp_all
 unfold Ux at h;split at h
 ·rename_i id p y;rw[y]at c;cases e:DL objs id p with
  |none=>simp[e,Vf,Jo]at h
  |some v=>
   cases T:v.Bc with
   |none=>simp[e,Vf,Jo,T]at h
   |some ks=>
    simp only[e,Vf,Jo,T]at h;obtain⟨U,u,h⟩:=h;obtain⟨Y,b',cs,E,g1,g2,N,g4,g5⟩:=M9 k e;obtain⟨b,sh,H,c⟩:=Bp k g1 c;rw[H]at N;simp only[CJ,RO.box.injEq]at N;obtain⟨rfl,rfl⟩:=N;refine⟨_,_,h,UQ H,λo k w' _=>?_⟩;have j:Y.shape.off (p++[f])=Y.shape.off p+d.offset:=by
     rw[PU _ p Y v f rfl g2,Sm T,u,r]
    simp[execOp,k,c,Instr.fieldAt,Xa s,l,Instr.sureAddr,fieldPlace,X2 W,q,Addr.By,j]
 ·rename_i xs y;rw[y,L3]at c;obtain⟨J,vs,c,X,Q,G⟩:=c;obtain⟨U,u,h⟩:=h;simp only[D.Ax]at G;refine⟨_,_,h,L3.2 ⟨⟨J.block,J.off+fo,none⟩,_,rfl,rfl,Q.sub fo xs[f].sz,?_⟩,λo k w' _=>?_⟩
  ·have j:=T2 G U;rw[u]at j;simpa[U]using j
  ·simp[execOp,k,c,Instr.fieldAt,Xa s,l,Instr.sureAddr,fieldPlace,X2 W,q,Addr.By X,r]
 next id m z i g p y=>rw[y]at c;obtain⟨J,r2⟩:=wV c;rw[r2]at c;refine⟨_,_,h,Ygs c,λo k w' _=>?_⟩;simp[execOp,k,r2,Instr.fieldAt,Xa s,l,Instr.sureAddr,fieldPlace,X2 W,q,r]
 ·cases h
def X2x(t:SM w ρ sl a){x:A}{l:Op}(m:C.Ak P l (.DA x)=true)(h:H5 K (x.ev sl)):Y0 P a w ρ l K:=by
 cases l<;>simp[C.Ak]at m;have d:=A.Az t m;unfold H5 at h;split at h
 next id p e=>rw[e]at d;obtain⟨_,c⟩:=wF d;exact⟨_,_,h,d,λo j k _=>by simp[execOp,j,c]⟩
 next id n z i g p e=>rw[e]at d;obtain⟨_,c⟩:=wV d;exact⟨_,_,h,d,λo j k _=>by simp[execOp,j,c]⟩
 next y e=>rw[e]at d;have c:=d;rw[L3]at c;obtain⟨b,q,c,_⟩:=c;exact⟨_,_,h,d,λo j k _=>by simp[execOp,j,c]⟩
 next f s r e=>rw[e]at d;have c:=d;rw[NJ]at c;obtain⟨b,q,c,_⟩:=c;exact⟨_,_,h,d,λo j k _=>by simp[execOp,j,c]⟩
 next f s r e=>rw[e]at d;have c:=d;rw[Sn]at c;obtain⟨b,q,c,_⟩:=c;exact⟨_,_,h,d,λo j k _=>by simp[execOp,j,c]⟩
 ·cases h
def X2w(u:SM w ρ sl a){x:A}{f:Op}(d:C.Ak P f (.DI x)=true)(h:LF K (x.ev sl)):Y0 P a w ρ f K:=by
 cases f<;>simp only[C.Ak,BO]at d;rename_i c;obtain⟨i,e,z⟩:=c;cases i<;>(try simp only[BO]at d);rename_i b;cases b<;>(try simp only[BO]at d);split at d
 ·rename_i y t j k;simp only[BB]at d;obtain⟨p,q⟩:=d;have v:P.underlying t=some .string:=by revert p;split<;>simp_all
  have g:=A.Az u q;have m:e=#[y]:=by simpa using Cc List.toArray j
  have n:z=#[t]:=by simpa using Cc List.toArray k
  subst m n;unfold LF at h;split at h
  next s l=>rw[l,CO]at g;refine⟨_,_,h,Yf.2 rfl,λo r F _=>?_⟩;simp[execOp,r,resolve,invoke,builtin,Builtin.len_,g,Xa v,goInt,VM]
  ·cases h
 ·simp at d
def X2v(hs:SM w ρ sl a)(v:OM w ρ objs){x:A}{G:Op}(q:C.Ak P G (.CK x)=true)(h:Hw objs K (x.ev sl)):Y0 P a w ρ G K:=by
 cases G<;>simp only[C.Ak,BO]at q;rename_i c;obtain⟨L,args,ts⟩:=c;cases L<;>(try simp only[BO]at q);rename_i b;cases b<;>(try simp only[BO]at q);split at q
 ·rename_i y t N O;simp only[BB]at q;obtain⟨W,X⟩:=q;obtain⟨e,ht⟩:∃e,P.underlying t=some (.slice e):=by revert W;split<;>simp_all
  have g:=A.Az hs X;have T:args=#[y]:=by simpa using Cc List.toArray N
  have U:ts=#[t]:=by simpa using Cc List.toArray O
  subst T U;have k:∀(u:Option Addr)(n c:Nat),a.eval y=.slice u n c->K (.d (.int .i64 n))->Y0 P a w ρ (.call {callee:=.builtin .len,args:=#[y],argTypes:=#[t] }) K:=by
   intro u n c Q Y;refine⟨_,_,Y,Yf.2 rfl,λo ho w' _=>?_⟩;simp[execOp,ho,resolve,invoke,builtin,Builtin.len_,Q,Xa ht,goInt]
  unfold Hw at h;split at h
  ·rename_i sz J l;rw[l,Za]at g;rcases g with⟨rfl,g⟩|⟨u,j,vs,g,_⟩
   ·exact k _ _ _ g h
   ·exact k _ _ _ g h
  next l=>rw[l,Vv]at g;exact k _ _ _ g h
  ·rename_i id p lo n l;rw[l,S1]at g;obtain⟨⟨E,t0,r⟩,h⟩:=h;rcases g with⟨b,sh,j,f,_,_,g⟩|⟨hg,_⟩
   ·exact k _ _ _ g h
   ·obtain⟨b,H,i,_⟩:=v.BW id _ r;rw[hg]at i;cases i
  ·rename_i id n l;rw[l,Y3]at g;obtain⟨Z,h⟩:=h;obtain⟨o,s,g⟩:=g;have i:ρ.m id=some .CG\/∃b j,ρ.m id=some (.BG b n j):=by
    rcases Z with⟨E,z,J,r,F⟩|⟨E,z,J,r,F⟩
    ·rcases v.BW id _ r with⟨i,_⟩|⟨b,j,H,sp,i,_⟩
     ·exact .inl i
     ·exact .inr ⟨b,j,by rw[F];exact i⟩
    ·rcases v.BW id _ r with⟨i,_⟩|⟨b,j,H,sp,i,_⟩
     ·exact .inl i
     ·exact .inr ⟨b,j,by rw[F];exact i⟩
   rcases i with i|⟨b,j,i⟩
   ·rw[s]at i;simp only[CJ]at i;subst i;simp only[RO.slice]at g;obtain⟨rfl,g⟩:=g;exact k _ _ _ g h
   ·rw[s]at i;simp only[CJ]at i;subst i;simp only[RO.slice]at g;exact k _ _ _ (g.2.2 trivial) h
  ·cases h
 ·simp at q
def Ycz(t:SM w ρ sl a){x:A}{i:Nat}{j:Op}(k:C.Ak P j (.ext x i)=true)(h:LS i K (x.ev sl)):Y0 P a w ρ j K:=by
 cases j<;>simp[C.Ak]at k;obtain⟨rfl,m⟩:=k;have d:=A.Az t m;unfold LS at h;split at h
 ·rename_i b l;rw[l,CP]at d;obtain⟨c,d,n⟩:=d;obtain⟨q,h⟩:=h;have g:∀(b:List V)(c:List Value)(i:Nat),V.A8 w ρ b c->i<b.length->∃u,c[i]? = some u/\(b.getD i .any).Ax w ρ u:=by
   intro b;induction b with
   |nil=>intro c i _ h;simp at h
   |cons x r v=>
    intro c i h p;simp only[V.A8]at h;obtain⟨u,y,rfl,e,f⟩:=h;cases i with
    |zero=>exact⟨u,rfl,e⟩
    |succ i=>simpa using v y i f (by simpa using p)
  obtain⟨u,e,f⟩:=g b c i n q;refine⟨u,_,h,f,λo s z _=>?_⟩;simp[execOp,s,d,Instr.extract,e]
 ·cases h
def Z1(b:SM w ρ sl a):∀{c:List Operand}{d:List A},JG c d=true->V.A8 w ρ (d.map (A.ev sl)) (c.map a.eval)
|[],[],_=>by simp[V.A8]
|x::r,y::s,h=>by
 simp only[JG,BB]at h;simp only[Cw,V.A8];exact⟨_,_,rfl,A.Az b h.1,Z1 b h.2⟩
|[],_::_,h=>by simp[JG]at h
|_::_,[],h=>by simp[JG]at h
def Yc3(m:SM w ρ sl a){t:Nat}{x:A}{b:Op}(e:C.Ak P b (.IH t x)=true)(h:K (LY t (x.ev sl))):Y0 P a w ρ b K:=by
 cases b<;>simp[C.Ak]at e;rename_i q p;obtain⟨⟨rfl,g⟩,i⟩:=e;obtain⟨d,j,k⟩:∃d,P.underlying t=some d/\∀n,d≠.interface n:=by
  revert g;split<;>simp_all
 have c:=A.Az m i;refine⟨.iface t (a.eval p),_,h,?_,λo l r _=>?_⟩
 ·unfold LY;split
  next y f=>rw[f]at c;exact SV.2 ⟨_,rfl,c⟩
  ·rw[W6 (by simp[V.isAgg]) (by simp)];simp only[V.Al];exact⟨_,rfl,c⟩
 ·simp only[execOp,l,Instr.makeInterface,Sem.run_bind,Xa j,Result.andThen_ok];cases d<;>simp_all
def Zz{c d:Type}(f:c->d)(b:Array c):b.map f=(b.toList.map f).toArray:=by apply Array.ext';simp
def Yc2(n:SM w ρ sl a){f:Nat}{first b:List A}{i:Op}(e:C.Ak P i (.ES f first b)=true)(h:K (Oq f (first.map (A.ev sl)) (b.map (A.ev sl)))):Y0 P a w ρ i K:=by
 cases i<;>simp only[C.Ak,BO]at e;rename_i g d c;cases g<;>simp at e;obtain⟨⟨rfl,r⟩,s⟩:=e;refine⟨.func (.func f) (d.map a.eval) (c.map a.eval),_,h,?_,λo t u _=>?_⟩
 ·have j:=Z1 n r;have k:=Z1 n s;unfold Oq MW;split
  next l m p q=>rw[V.CI p]at j;rw[V.CI q]at k;rw[Sn];exact⟨d.toList.map a.eval,c.toList.map a.eval,by rw[Zz,Zz],j,k⟩
  ·rw[NJ];exact⟨d.toList.map a.eval,c.toList.map a.eval,by rw[Zz,Zz],j,k⟩
 ·simp[execOp,t,Instr.makeFunc]
def Xzl{t:TypeId}{n:Nat}(o:Yl P t=some n)(p:(P.underlying t).isSome=true){b off:Nat}{cs:List Value}(d:cs.length=n)
 {w':World} (g:∀i (h:i<cs.length),w'.cell? ⟨b,off+i,none⟩=some cs[i]) (k:GV P t=false->n=1):
 (Instr.loadAt t (.pointer (some ⟨b,off,none⟩))).run P w'=.ok (if GV P t then .agg cs.toArray else cs.headD undef) w':=by
 simp only[Instr.loadAt,Instr.sureAddr,loadVar,Sem.run_bind,Sem.run_pure,Result.andThen_ok,UU p];cases e:GV P t with
 |true=>
  have:=run_loadCells_list (P:=P) (w:=w') ⟨b,off,none⟩ cs (λj v m=>by
   obtain⟨d,q⟩:=Ek.1 m;rw[Addr.By rfl,<-q];exact g j d)
  simp only[Sem.run_bind,X2 o,Result.andThen_ok,<-d,this,Bu,Sem.run_pure]
 |false=>
  have l:=k e;rw[l]at d;obtain⟨c,rfl⟩:=Lt.1 d;have f:=g 0 (by simp);simp only[Nat.add_zero,List.getElem_cons_zero]at f;simp[f]
def Uv{v:V}(h:v.isAgg=false):v.size=1:=by
 cases v with
 |d x=>cases x<;>simp_all[V.isAgg,V.size,V.shape,D.shape,Sh.size]
 |agg b=>simp[V.isAgg]at h
 |_=>simp[V.size,V.shape,Sh.size]
def Yc0(hs:SM w ρ sl a){f l n:Nat}{i:Bool}{x:A}{G:Op}(T:C.Ak P G (.IF f l n i x)=true)(h:LU f l n i K (x.ev sl).Bc):Y0 P a w ρ G K:=by
 cases G<;>simp[C.Ak]at T;rename_i t x1 g;obtain⟨⟨rfl,e⟩,Z⟩:=T;have k:=A.Az hs Z;obtain⟨b,U,s,hn,hu,p⟩:∃b,K0 P t f=some b/\b.offset=l/\Yl P b.type=some n/\(P.underlying b.type).isSome=true/\GV P b.type=i:=by
  cases j:K0 P t f with
  |none=>simp[j]at e
  |some b=>simp[j]at e;exact⟨b,rfl,e.1.1.1,e.1.1.2,e.1.2,e.2⟩
 obtain⟨m,y,q⟩:∃m,P.underlying t=some (.struct m)/\m[f]? = some b:=by
  unfold K0 at U;revert U;split<;>simp_all
 cases r:(x.ev sl).Bc with
 |none=>simp[r,LU]at h
 |some F=>
  simp only[r,LU]at h;obtain⟨hl,z,j,N,h⟩:=h;rw[Xz8 r]at k;obtain⟨H,k,u⟩:=k;have hi:F[f]? = some (F.getD f .any):=by simp[hl]
  obtain⟨W,X,c3,J,Y,_,O,_⟩:=N8 u hi;generalize F.getD f .any=v at *;have d:=FQ _ _ O;refine⟨_,v,h,J1 O,λo ho w' _=>?_⟩;have L:W.length=b.offset:=by rw[Y,s,<-z,Kv]
  have hx:H.toArray.extract b.offset (b.offset+n)=X.toArray:=by
   rw[J,<-L,<-j];unfold V.size;rw[<-d];simp
  simp only[execOp,ho,Instr.field,Xa y,q,part,asAgg,k,Sem.run_bind,Sem.run_pure,Result.andThen_ok,UU hu,p,N];cases i with
  |true=>simp only[Bu,Sem.run_bind,X2 hn,Result.andThen_ok,Sem.run_pure,hx]
  |false=>
   have Q:=Uv N;unfold V.size at Q;rw[Q]at d;obtain⟨c,rfl⟩:=Lt.1 d;have:H.toArray[b.offset]? = some c:=by rw[J,<-L];simp
   simp[this]
def SZ(hs:SM w ρ sl a)(hO:OM w ρ objs){n:Nat}{ag:Bool}{x:A}{op:Op}(hc:C.Ak P op (.ld n ag x)=true)(h:En objs n ag K (x.ev sl)):VE true P a w ρ op K:=by
 cases op<;>simp[C.Ak]at hc;rename_i t x1;obtain⟨⟨⟨hn,hu⟩,N⟩,h1⟩:=hc;have g:=A.Az hs h1;have G:∀(b off:Nat)(cs:List Value)(v:V),a.eval x1=.pointer (some ⟨b,off,none⟩)->(cs≠[]->b<w.heap.size)->(∀i (h:i<cs.length),w.cell? ⟨b,off+i,none⟩=some cs[i])->
  v.Al w ρ cs->v.size=n->v.isAgg=ag->K v->VE true P a w ρ (.load t x1) K:=by
  intro b off cs v r hb s l q j hK;have hl:=FQ _ _ l;refine⟨_,v,hK,J1 l,λo ho w' he=>?_⟩;have:=Xzl (P:=P) (t:=t) (n:=n) hn hu (b:=b) (off:=off) (cs:=cs) (by rw[hl,<-q];rfl) (w':=w') (λi F=>by
   rw[cell?_congr ((he rfl).keep b (hb (by intro e;subst e;simp at F)))];exact s i F) (λH=>by rw[N]at H;rw[H]at j;rw[<-q];exact Uv j)
  simp only[execOp,ho,r,Sem.run_bind,this,Result.andThen_ok,Sem.run_pure,N,j]
 unfold En at h;split at h
 ·rename_i id p r;rw[r]at g;cases c:DL objs id p with
  |none=>simp[c,GU]at h
  |some v=>
   simp only[c,GU]at h;obtain⟨q,j,h⟩:=h;obtain⟨t0,b',cs,E,g1,U,L,W,g5⟩:=M9 hO c;obtain⟨b,sh,ab,g⟩:=Bp hO g1 g;rw[ab]at L;simp only[CJ,RO.box.injEq]at L;obtain⟨rfl,rfl⟩:=L;obtain⟨T,X,c3,Y,Z,H⟩:=JV p t0 v cs g5 U;refine G b _ X v g (λ_=>Xl W) (λi F=>?_) H q j h;rw[<-Z];simp[World.cell?,W,Y,JY,F]
 next y r=>rw[r,L3]at g;obtain⟨ad,vs,g,Q,s,l⟩:=g;obtain⟨q,j,h⟩:=h;obtain⟨b,off,sp⟩:=ad;obtain⟨hb,u⟩:=s;simp only at Q;subst Q;exact G b off vs (.d y) g (λaa=>(hb aa).2.2) u (by simpa[V.Al]using l) (by simp[V.size,V.shape,Cb,q]) j h
 ·rename_i id m z i_ f p r;rw[r]at g;cases k:Uw m i_ (AB objs id) with
  |none=>simp[F6,k,Gh,GU]at h
  |some v0=>
   cases c:Gh z f p (some v0) with
   |none=>simp[F6,k,c,GU]at h
   |some v=>
    simp only[F6,k,c,GU]at h;obtain⟨q,j,h⟩:=h;simp only[Gh]at c;split at c
    ·rename_i O;obtain⟨b,ac,E,T,X,c3,g1,U,L,W⟩:=wZ hO k;obtain⟨J,d2,d3,Y,Z,H⟩:=JV p v0 v X W c;rw[S3]at g;obtain⟨o,q1,q2⟩:=g;rw[g1]at q1;simp only[CJ]at q1;subst q1;have g:=q2.2.2 rfl;refine G b _ d2 v g (λ_=>Xl U) (λi F=>?_) H q j h;have e5:i_*z+f+i=T.length+(J.length+i):=by rw[O.1,O.2,L,Z];omega
     subst Y;rw[e5];simp[World.cell?,U];rw[Rw (by omega),show T.length+(J.length+i)-T.length=J.length+i by omega,Rw (by omega),show J.length+i-J.length=i by omega,Rx F,DN F]
    ·cases c
 ·cases h
def UJ(J:SM w ρ sl a){c cap:Nat}{isS:Bool}{u r:Option Operand}{g b:Option A}{K:Nat->Nat->Prop}(v:c<=cap)
 (q:Fq u g=true) (i:Fq r b=true) (h:EL c K (g.map (A.ev sl)) (b.map (A.ev sl))):
 ∃l h,K l h/\l<=h/\h<=c/\∀o,(Instr.sliceBounds isS c cap (u.map a.eval) (r.map a.eval) none).run P o=.ok (l,h,cap) o:=by
 have f:∀{x:Operand}{y:A},A.Ak x y=true->∀{k n},y.ev sl=.d (.int k n)->a.eval x=.int k n:=λ{x y} H {k n} e=>by
  have:=A.Az J H;rw[e,Yf]at this;exact this
 cases u with
 |none=>
  cases g with
  |some _=>simp[Fq]at q
  |none=>
   cases r with
   |none=>
    cases b with
    |some _=>simp[Fq]at i
    |none=>
     simp only[Option.map_none,EL]at h;exact⟨0,c,h,E2 _,Bg _,λo=>by simp[Instr.sliceBounds]⟩
   |some L=>
    cases b with
    |none=>simp[Fq]at i
    |some s=>
     simp only[Fq]at i;simp only[Option.map_none,Option.map_some]at h;cases e:s.ev sl with
     |d x=>
      cases x with
      |int k n=>
       simp only[e,EL]at h;obtain⟨⟨p,t⟩,h⟩:=h;refine⟨0,n.toNat,h,E2 _,by omega,λo=>?_⟩;have:n<=(cap:Int):=by omega
       simp[Instr.sliceBounds,Instr.sliceBound,f i e,asIntOf,p,this]
      |_=>simp[e,EL]at h
     |_=>simp[e,EL]at h
 |some T=>
  cases g with
  |none=>simp[Fq]at q
  |some z=>
   simp only[Fq]at q;simp only[Option.map_some]at h;cases j:z.ev sl with
   |d x=>
    cases x with
    |int k n=>
     cases r with
     |none=>
      cases b with
      |some _=>simp[Fq]at i
      |none=>
       simp only[Option.map_none,j,EL]at h;obtain⟨⟨p,t⟩,h⟩:=h;refine⟨n.toNat,c,h,by omega,Bg _,λo=>?_⟩;simp[Instr.sliceBounds,Instr.sliceBound,f q j,asIntOf,p,t]
     |some L=>
      cases b with
      |none=>simp[Fq]at i
      |some s=>
       simp only[Fq]at i;simp only[Option.map_some,j]at h;cases e:s.ev sl with
       |d x=>
        cases x with
        |int Q m=>
         simp only[e,EL]at h;obtain⟨⟨p,t⟩,⟨F,G⟩,h⟩:=h;refine⟨n.toNat,m.toNat,h,by omega,by omega,λo=>?_⟩;have N:m<=(cap:Int):=by omega
         have U:n<=((m.toNat:Nat):Int):=by omega
         have O:(max m 0:Int)=m:=by omega
         simp[Instr.sliceBounds,Instr.sliceBound,f q j,f i e,asIntOf,p,F,N,O,G]
        |_=>simp[e,EL]at h
       |_=>simp[e,EL]at h
    |_=>simp[j,EL]at h
   |_=>simp[j,EL]at h
def X20(g:SM w ρ sl a){x:A}{i f:Option A}{e:Op}(b:C.Ak P e (.Cu x i f)=true)(h:LK (i.map (A.ev sl)) (f.map (A.ev sl)) K (x.ev sl)):Y0 P a w ρ e K:=by
 cases e<;>simp only[C.Ak,BO]at b;rename_i t L H G v;cases v<;>simp only[BO]at b;simp only[BB]at b;obtain⟨⟨⟨m,u⟩,d⟩,c⟩:=b;have j:=A.Az g u;have r:P.underlying t=some .string:=by revert m;split<;>simp_all
 unfold LK at h;split at h
 next s k=>rw[k,CO]at j;obtain⟨l,F,n,y,z,q⟩:=UJ (P:=P) (cap:=s.length) (isS:=false) g (Bg _) d c h;refine⟨_,_,n,CO.2 rfl,λo p J _=>?_⟩;simp only[execOp,p,Instr.sliceAt,Instr.slice,j,Sem.run_bind,Xa r,Result.andThen_ok,Option.map_none,Option.isSome_none,BO,Bs,VM,q,Sem.run_pure];congr 3;apply ByteArray.ext;simp[ByteArray.data_extract,List.extract_eq_take_drop,Ry]
 ·cases h
def X2z(J:SM w ρ sl a){z:Nat}{x:A}{T O:Option A}{N:Op}(q:C.Ak P N (.C6 z x T O)=true)(h:LJ z (T.map (A.ev sl)) (O.map (A.ev sl)) K (x.ev sl)):Y0 P a w ρ N K:=by
 cases N<;>simp only[C.Ak,BO]at q;rename_i t x1 l1 h1 m1;cases m1<;>simp only[BO]at q;simp only[BB]at q;obtain⟨⟨⟨Z,hx⟩,k⟩,j⟩:=q;have f:=A.Az J hx;obtain⟨e,L,G⟩:∃e,P.underlying t=some (.slice e)/\Yl P e=some z:=by
  revert Z;split<;>simp_all
 unfold LJ at h;split at h
 ·rename_i W g Y;rw[Y,Za]at f;obtain⟨rfl,h⟩:=h;rcases f with⟨rfl,f⟩|⟨n,cap,vs,f,i,F,H,s⟩
  ·obtain⟨l,b,p,u,v,r⟩:=UJ (P:=P) (cap:=0) (isS:=true) J (Bg _) k j h;simp at v;subst v;simp at u;subst u;refine⟨.slice none 0 0,_,p,Za.2 (.inl ⟨by simp,rfl⟩),λo m X _=>?_⟩;simp[execOp,m,Instr.sliceAt,Instr.slice,f,Xa L,r,X2 G]
  ·obtain⟨l,b,p,u,v,r⟩:=UJ (P:=P) (cap:=cap) (isS:=true) J i k j h;have c:((g.take b).drop l).length=b-l:=by simp;omega
   by_cases Q:cap=l
   ·subst Q;refine⟨.slice (some n) (b-cap) (cap-cap),_,p,Za.2 (.inr ⟨n,cap-cap,[],by rw[c],by omega,Co.nil n,?_,?_⟩),λo m X _=>?_⟩
    ·have:(g.take b).drop cap=[]:=UD (by omega);rw[this];simp[Bq]
    ·intro y d;exact s y (F1 (List.mem_of_mem_drop d))
    ·simp[execOp,m,Instr.sliceAt,Instr.slice,f,Xa L,r,X2 G]
   ·refine⟨.slice (some (n.add (l*z))) (b-l) (cap-l),_,p,Za.2 (.inr ⟨_,cap-l,_,by rw[c],by omega,F.PE (l*z) ((b-l)*z),?_,?_⟩),λo m X _=>?_⟩
    ·have U:=(Mx g l vs H).2;have t1:C8 (g.take l)=l*z:=by
      rw[Er (sz:=z) _ (λy d=>s y (F1 d)),Fm,Gx (by omega)]
     rw[t1]at U;have s2:=(Mx (g.drop l) (b-l) _ U).1;have t2:C8 ((g.drop l).take (b-l))=(b-l)*z:=by
      rw[Er (sz:=z) _ (λy d=>s y (List.mem_of_mem_drop (F1 d))),Fm,List.length_drop,Gx (by omega)]
     rw[t2]at s2
     rwa [Ry]
    ·intro y d;exact s y (F1 (List.mem_of_mem_drop d))
    ·simp[execOp,m,Instr.sliceAt,Instr.slice,f,Xa L,r,X2 G,Q]
 ·cases h
def vz:∀(f:List Value)(c:List Value)(b k:Nat),b+k+f.length<=c.length->
 (f.zipIdx k).foldl (λ(i:Array Value) (x:Value×Nat)=>i.setIfInBounds (b+x.2) x.1) c.toArray=(c.take (b+k)++(f++c.drop (b+k+f.length))).toArray
|[],c,b,k,_=>by simp
|d::r,c,b,k,h=>by
 simp only[List.zipIdx_cons,List.foldl_cons];simp only[List.length_cons]at h;have e:c.toArray.setIfInBounds (b+k) d=(c.set (b+k) d).toArray:=by simp
 rw[e,vz r (c.set (b+k) d) b (k+1) (by simp;omega)];congr 1;have g:b+k<c.length:=by omega
 have j:(c.set (b+k) d).take (b+(k+1))=c.take (b+k)++[d]:=by
  rw[<-Ku,D2 (by simpa using g)];simp[List.take_set_of_le]
 have l:(c.set (b+k) d).drop (b+(k+1)+r.length)=c.drop (b+k+(d::r).length):=by
  rw[List.drop_set_of_lt (by omega)];congr 1;simp;omega
 rw[j,l];simp
def T5:∀(c:List D)(b:List Value),HK c b=true->Bq w (CH ρ) c b:=by
 have g:∀n,(∀(x:D)(b:List Value),SizeOf.sizeOf x<n->ET x b=true->x.Ax w (CH ρ) b)/\(∀(c:List D)(b:List Value),SizeOf.sizeOf c<n->HK c b=true->Bq w (CH ρ) c b):=by
  intro n;induction n with
  |zero=>exact⟨λ_ _ h=>by omega,λ_ _ h=>by omega⟩
  |succ n e=>
   constructor
   ·intro x b d h;cases x with
    |agg c=>
     simp only[ET]at h;simp only[D.Ax];refine e.2 c b ?_ h;simp at d;omega
    |AH l m=>unfold ET at h;split at h<;>simp_all[D.Ax]
    |Bv y=>simp[ET]at h
    |iface t y=>simp[ET]at h
    |fn f j i=>simp[ET]at h
    |AU s=>
     unfold ET at h;split at h<;>simp_all[D.Ax];rename_i t k;subst h;cases t;simp
    |_=>
     unfold ET at h;split at h<;>simp_all[D.Ax]
   ·intro c b d h;cases c with
    |nil=>cases b<;>simp_all[HK,Bq]
    |cons x r=>
     simp only[HK,BB]at h;simp only[Bq];simp at d;exact⟨b.take x.sz,b.drop x.sz,by simp,e.1 x _ (by omega) h.1,e.2 r _ (by omega) h.2⟩
 intro c b h;exact(g (SizeOf.sizeOf c+1)).2 c b (by omega) h
def Mz(x:D)(b:List Value)(h:ET x b=true):x.Ax w (CH ρ) b:=by
 have:=T5 (w:=w) (ρ:=ρ) [x] b;cases d:HK [x] b with
 |true=>
  have:=this d;simp only[Bq]at this;obtain⟨k,l,e,g,i⟩:=this;subst i;simpa[e]using g
 |false=>
  exfalso;have c:b.take x.sz=b/\b.drop x.sz=[]:=by
   have:b.length<=x.sz:=by
    cases x with
    |agg j=>
     simp only[ET]at h;have:=Gv _ _ (T5 (w:=w) (ρ:=ρ) j b h);simp[D.sz,this]
    |AH o p=>unfold ET at h;split at h<;>simp_all[D.sz]
    |Bv y=>simp[ET]at h
    |iface t y=>simp[ET]at h
    |fn f n m=>simp[ET]at h
    |_=>
     unfold ET at h;split at h<;>simp_all[D.sz]
   exact⟨M6 this,HO this⟩
  simp[HK,c.1,c.2,h]at d
def dn(Y:SM w ρ sl a)(e:Nat->Option (Nat×Nat))(b:List Sh)(X:∀i,i<b.length->e i=some (Sh.BX (b.take i),(b.getD i .AR).size)):
 ∀(Xs:List (Nat×Operand)) (ys:List (Nat×A)) (g:List V) (f:List Value) (K:List V->Prop),Vs Xs ys=true->Bz w ρ g f->g.map V.shape=b->
  EU g (ys.map λ(i,x)=>(i,x.ev sl)) K->∃l k,K l/\Bz w ρ l k/\Instr.fill e f.toArray (Xs.map λ(i,x)=>(i,a.eval x))=some k.toArray
|[],[],g,f,K,_,N,_,p=>by
 simp only[Ht,EU]at p;exact⟨g,f,p,N,by simp[Instr.fill]⟩
|(i,x)::r,(j,y)::s,g,f,K,G,N,H,p=>by
 simp only[Vs,BB,C9]at G;obtain⟨⟨rfl,G⟩,h5⟩:=G;simp only[Cw,EU]at p;obtain⟨t,q,Q,p⟩:=p;have r1:=A.Az Y G;have Z:=Um Q r1;have n:=FQ _ _ Z;have hk:g[i]? = some (g.getD i .any):=by simp[t]
 obtain⟨J,c2,L,U,e2,g1,g2,g3⟩:=N8 N hk;have u:=FQ _ _ g2;have O:i<b.length:=by rw[<-H];simpa using t
 have F:(b.getD i .AR).size=(g.getD i .any).shape.size:=by rw[<-H];simp[t]
 have z:(g.set i (y.ev sl)).map V.shape=b:=by
  rw[<-H,GG,q];apply Rv;intro j;by_cases W:i=j
  ·subst W;rw[Kw];simp[t]
  ·rw[Kw];simp[W]
 have v:Bz w ρ (g.set i (y.ev sl)) (J++((a.eval x).cells.toList++L)):=by
  rw[show g.set i (y.ev sl)=g.take i++(y.ev sl::g.drop (i+1)) from UC.trans (by simp[t])];refine PN g1 ?_;simp only[Bz];exact⟨_,L,rfl,Z,g3⟩
 obtain⟨l,k,hK,hR,hF⟩:=dn Y e b X r s _ _ K h5 v z p;refine⟨l,k,hK,hR,?_⟩;have d:(a.eval x).cells.size=(b.getD i .AR).size:=by
  have:(a.eval x).cells.toList.length=(a.eval x).cells.size:=by simp
  rw[<-this,n,q,F]
 have o:J.length=Sh.BX (b.take i):=by rw[e2,<-H]
 have m:¬(Sh.BX (b.take i)+(a.eval x).cells.size > f.toArray.size):=by
  rw[d,F,<-u,<-o,U];simp
 have T:(a.eval x).cells.zipIdx.foldl (λ(f:Array Value) (x:Value×Nat)=>f.setIfInBounds (Sh.BX (b.take i)+x.2) x.1) f.toArray=(J++((a.eval x).cells.toList++L)).toArray:=by
  rw[<-Array.foldl_toList,Array.toList_zipIdx];rw[vz _ f _ 0 (by simp only[Nat.add_zero];have:=m;simp at this⊢;omega)];congr 1;have e3:(a.eval x).cells.toList.length=c2.length:=by rw[n,q,u]
  rw[e3,<-o,U];simp
 simp only[Cw,Instr.fill,X i O];rw[Aq (by simp only[d];simpa[d]using m)];rw[show(λ(f:Array Value) (x:Value×Nat)=>match x with|(c,j)=>f.setIfInBounds (Sh.BX (b.take i)+j) c)=(λ(f:Array Value) (x:Value×Nat)=>f.setIfInBounds (Sh.BX (b.take i)+x.2) x.1) from rfl,T];exact hF
|[],_::_,_,_,_,h,_,_,_=>by simp[Vs]at h
|_::_,[],_,_,_,h,_,_,_=>by simp[Vs]at h
end
section
variable {P:Program} {w:World} {ow:Nat->Prop}
def FM(x:D)(a:List Value):Value:=if x.isAgg then .agg a.toArray else a.headD undef
def Rbm{a:KT}{t:TypeId}{x:D}(b:a.Ak P t=true)(c:a.Bm x=true):(P.underlying t).isSome=true/\GV P t=x.isAgg:=by
 cases a<;>cases x<;>simp only[KT.Bm,BO]at c<;>simp only[KT.Ak]at b<;>unfold GV<;>(cases e:P.underlying t with
 |none=>simp[e]at b
 |some d=>cases d<;>simp_all[D.isAgg])
mutual
def M0:∀(a:KT)(x:D),a.Bm x=true->x.sz=a.cells
|.int k,x,h=>by cases x<;>simp[KT.Bm]at h;simp[D.sz,KT.cells]
|.bool,x,h=>by cases x<;>simp[KT.Bm]at h;simp[D.sz,KT.cells]
|.AU,x,h=>by cases x<;>simp[KT.Bm]at h;simp[D.sz,KT.cells]
|.st b,x,h=>by
 cases x<;>simp only[KT.Bm,BO]at h;simp only[D.sz,KT.cells];exact rm b _ h
|.ar n e,x,h=>by
 cases x<;>simp only[KT.Bm,BO,BB,DK]at h;simp only[D.sz,KT.cells];rw[rq e _ h.2,h.1]
def rm:∀(b:List KT)(a:List D),FJ b a=true->C8 a=Ro b
|[],a,h=>by cases a<;>simp[FJ]at h;simp[C8,Ro]
|t::r,a,h=>by
 cases a<;>simp only[FJ,BO,BB]at h;simp only[C8,Ro,M0 t _ h.1,rm r _ h.2]
def rq:∀(t:KT)(a:List D),KT.Df t a=true->C8 a=a.length*t.cells
|t,[],_=>by simp[C8]
|t,x::s,h=>by
 simp only[KT.Df,BB]at h;simp only[C8,List.length_cons,M0 t x h.1,rq t s h.2,Hs];omega
end
def SU{b:KT}{t:TypeId}{x:D}{c1 d c3:List Value}(k:b.Ak P t=true)(l:Yl P t=some b.cells)(i:b.Bm x=true)(g:x.Ax w ow d)(j:World):
 (part t (c1++(d++c3)).toArray c1.length).run P j=.ok (FM x d) j:=by
 obtain⟨m,e⟩:=Rbm k i;have f:=HI _ _ g;rw[M0 b x i]at f;simp only[part,Sem.run_bind,UU m,e,Result.andThen_ok,FM];cases n:x.isAgg with
 |true=>
  simp only[Bu,Sem.run_bind,X2 l,Result.andThen_ok,Sem.run_pure];congr 2;rw[<-f];simp
 |false=>
  have h:x.sz=1:=by cases x<;>simp_all[D.isAgg,D.sz]
  rw[HI _ _ g,h]at f;have a:=HI _ _ g;rw[h]at a;obtain⟨c,rfl⟩:=Lt.1 a;simp
mutual
def KT.equal:∀(z:KT)(t:TypeId)(x y:D)(l o:List Value)(d:Nat),z.Ak P t=true->z.Bm x=true->z.Bm y=true->x.Ax w ow l->y.Ax w ow o->z.depth<=d->∀g,(Op.equalIn d t (FM x l) (FM y o)).run P g=.ok (Cy x y) g
|.int k,t,x,y,l,o,d,a,h,j,c,f,p,g=>by
 cases x<;>simp[KT.Bm]at h;cases y<;>simp[KT.Bm]at j;subst h;subst j;simp only[D.Ax]at c f;subst c;subst f;simp only[KT.Ak]at a;obtain⟨d,rfl⟩:∃e,d=e+1:=⟨d-1,by simp only[KT.depth]at p;omega⟩
 cases b:P.underlying t with
 |none=>simp[b]at a
 |some r=>
  cases r<;>simp[b]at a;simp[FM,D.isAgg,Cy,run_equalIn_int g d t _ _ _ _ b];rfl
|.bool,t,x,y,l,o,d,a,h,j,c,f,p,g=>by
 cases x<;>simp[KT.Bm]at h;cases y<;>simp[KT.Bm]at j;simp only[D.Ax]at c f;subst c;subst f;simp only[KT.Ak]at a;obtain⟨d,rfl⟩:∃e,d=e+1:=⟨d-1,by simp only[KT.depth]at p;omega⟩
 cases b:P.underlying t with
 |none=>simp[b]at a
 |some r=>
  cases r<;>simp[b]at a;simp[FM,D.isAgg,Cy,run_equalIn_bool g d t _ _ b]
|.AU,t,x,y,l,o,d,a,h,j,c,f,p,g=>by
 cases x<;>simp[KT.Bm]at h;cases y<;>simp[KT.Bm]at j;simp only[D.Ax]at c f;subst c;subst f;simp only[KT.Ak]at a;obtain⟨d,rfl⟩:∃e,d=e+1:=⟨d-1,by simp only[KT.depth]at p;omega⟩
 cases b:P.underlying t with
 |none=>simp[b]at a
 |some r=>
  cases r<;>simp[b]at a;simp[FM,D.isAgg,Cy,run_equalIn_string g d t _ _ b]
|.st K,t,x,y,l,o,d,a,h,j,c,f,p,g=>by
 cases x<;>simp only[KT.Bm,BO]at h;cases y<;>simp only[KT.Bm,BO]at j;simp only[D.Ax]at c f;simp only[KT.Ak]at a;simp only[KT.depth]at p;obtain⟨d,rfl⟩:∃e,d=e+1:=⟨d-1,by omega⟩
 cases b:P.underlying t with
 |none=>simp[b]at a
 |some r=>
  cases r<;>simp only[b,BO,BB,GK]at a;rename_i s;have v:P.fieldsOf t=s:=by simp[Program.fieldsOf,b]
  simp only[FM,D.isAgg,Bu,Cy];rw[run_equalIn_struct g d t _ _ (by rw[v];exact b) a.1,v];exact ru K s.toList 0 _ _ [] l [] o d a.2 h j c f (by omega) rfl rfl g
|.ar n e,t,x,y,l,o,d,a,h,j,c,f,p,g=>by
 cases x<;>simp only[KT.Bm,BO,BB,DK]at h;cases y<;>simp only[KT.Bm,BO,BB,DK]at j;simp only[D.Ax]at c f;simp only[KT.Ak]at a;simp only[KT.depth]at p;obtain⟨d,rfl⟩:∃e,d=e+1:=⟨d-1,by omega⟩
 cases b:P.underlying t with
 |none=>simp[b]at a
 |some r=>
  cases r<;>simp only[b,BO,BB,C9]at a;rename_i m u;obtain⟨⟨rfl,q⟩,F⟩:=a;obtain⟨i,J,H⟩:∃i,P.info? u=some i/\i.size=e.cells:=by
   unfold Yl at q;rw[HP]at q;exact q
  have G:P.cellsOf u=e.cells:=by simp[Program.cellsOf,J,H]
  simp only[FM,D.isAgg,Bu,Cy];rw[run_equalIn_array g d _ _ b J,G];rename_i L N;have:=r0 e u 0 L N [] l [] o d F q h.2 j.2 (by omega) c f (by omega) (by simp) (by simp) g;rw[h.1,<-List.range_eq_range']at this;simpa using this
def ru:∀(v:List KT)(a:List Field)(o:Nat)(b c:List D)(i p j s:List Value)(d:Nat),KT.Dr P v a o=true->FJ v b=true->FJ v c=true->Bq w ow b p->Bq w ow c s->N9 v<=d->i.length=o->j.length=o->∀n,(Op.eqFields d (i++p).toArray (j++s).toArray a).run P n=.ok (E1 b c) n
|[],a,o,b,c,i,p,j,s,d,u,g,h,l,m,N,lx,ly,n=>by
 cases a<;>simp[KT.Dr]at u;cases b<;>simp[FJ]at g;cases c<;>simp[FJ]at h;simp[Op.eqFields,E1]
|t::r,a,o,b,c,i,p,j,s,d,u,g,h,l,m,N,lx,ly,n=>by
 cases a<;>simp only[KT.Dr,BO,BB,bne_iff_ne,ne_eq,C9]at u;rename_i f X;cases b<;>simp only[FJ,BO,BB]at g;cases c<;>simp only[FJ,BO,BB]at h;rename_i x b y c;simp only[Bq]at l m;obtain⟨H,J,rfl,F,l⟩:=l;obtain⟨K,L,rfl,rb,m⟩:=m;obtain⟨⟨⟨⟨Y,ho⟩,k⟩,e⟩,z⟩:=u;simp only[N9]at N;have U:f.offset=i.length:=by omega
 have W:f.offset=j.length:=by omega
 have Q:=λG=>SU (c1:=i) (c3:=J) e k g.1 F G;have T:=λG=>SU (c1:=j) (c3:=L) e k h.1 rb G;rw[<-U]at Q;rw[<-W]at T;have q:=KT.equal t f.type x y H K d e g.1 h.1 F rb (by omega);simp only[Op.eqFields,Y,ne_eq,not_false_eq_true,Bu,Sem.run_bind,Q,T,q,Result.andThen_ok,E1];have Z:=HI _ _ F;have lb:=HI _ _ rb;rw[M0 t x g.1]at Z;rw[M0 t y h.1]at lb;have O:=ru r X (o+t.cells) b c (i++H) J (j++K) L d z g.2 h.2 l m (by omega) (by simp;omega) (by simp;omega) n;simp only[JX]at O;cases hq:Cy x y with
 |true=>simpa using O
 |false=>simp
def r0:∀(e:KT)(u:TypeId)(i:Nat)(b a:List D)(g n h o:List Value)(d:Nat),e.Ak P u=true->Yl P u=some e.cells->KT.Df e b=true->KT.Df e a=true->b.length=a.length->Bq w ow b n->Bq w ow a o->e.depth<=d->g.length=i*e.cells->h.length=i*e.cells->∀m,
 (Op.eqItems d u e.cells (g++n).toArray (h++o).toArray (List.range' i b.length)).run P m=.ok (E1 b a) m
|e,u,i,[],a,g,n,h,o,d,j,r,c,f,p,k,l,s,K,L,m=>by
 cases a<;>simp at p;simp[Op.eqItems,E1]
|e,u,i,x::b,a,g,n,h,o,d,j,r,c,f,p,k,l,s,K,L,m=>by
 cases a<;>simp at p;rename_i y a;simp only[KT.Df,BB]at c f;simp only[Bq]at k l;obtain⟨z,F,rfl,t,k⟩:=k;obtain⟨G,H,rfl,rb,l⟩:=l;have N:=λv=>SU (c1:=g) (c3:=F) j r c.1 t v;have O:=λv=>SU (c1:=h) (c3:=H) j r f.1 rb v;rw[K]at N;rw[L]at O;have q:=KT.equal e u x y z G d j c.1 f.1 t rb s;simp only[List.length_cons,Rz,Op.eqItems,Sem.run_bind,N,O,q,Result.andThen_ok,E1];have Q:=HI _ _ t;have T:=HI _ _ rb;rw[M0 e x c.1]at Q;rw[M0 e y f.1]at T;have J:=r0 e u (i+1) b a (g++z) F (h++G) H d j r c.2 f.2 p k l s (by simp[Hs];omega) (by simp[Hs];omega) m;simp only[JX]at J;cases U:Cy x y with
 |true=>simpa using J
 |false=>simp
end
end
section
variable {P:Program} {a:Act} {w:World} {ρ:A9} {sl:Xe} {objs:AF} {K:V->Prop}
def Qz{t:TypeId}{e:List Value}(h:U3 P t=some e):∃v,v.cells.toList=e/\(P.info? t).bind (·.zero)=some v/\∀d,(zeroValue t).run P d=.ok v d:=by
 unfold U3 at h;cases b:P.info? t with
 |none=>simp[b]at h
 |some i=>
  cases c:i.zero with
  |none=>simp[b,c]at h
  |some v=>
   simp[b,c]at h;exact⟨v,h,by simp[c],λd=>by simp[zeroValue,typeInfo,b,c]⟩
def Xv5(d:List Field)(b:d.all (λc=>(Yl P c.type).isSome)=true)(g:World):
 (d.mapM (λf=>(do pure (f.offset,<-sizeOf f.type):Sem (Nat×Nat)))).run P g=.ok (d.map λc=>(c.offset,(Yl P c.type).getD 0)) g:=by
 induction d with
 |nil=>simp
 |cons x r h=>
  simp only[List.all_cons,BB]at b;obtain⟨n,e⟩:=Kt.1 b.1;simp only[List.mapM_cons,Sem.run_bind,X2 e,Result.andThen_ok,Sem.run_pure,h b.2,Cw,e,Option.getD_some]
def sG(z:List D)(i:Nat):C8 (z.take i)=Sh.BX (((z.map V.d).map V.shape).take i):=by
 rw[<-Kv,<-Kv,<-T4,D.Bj];simp[V.shape,Function.comp_def]
def Ycv(hs:SM w ρ sl a){z:List D}{Xs:List (Nat×A)}{op:Op}(U:C.Ak P op (.Fa z Xs)=true)
 (h:EU (z.map .d) (Xs.map λ(i,x)=>(i,x.ev sl)) λks=>K (V.mk ks)):Y0 P a w ρ op K:=by
 cases op<;>simp only[C.Ak,BO]at U;rename_i t s;simp only[BB]at U;obtain⟨⟨hp,hz⟩,k⟩:=U;cases p:U3 P t with
 |none=>simp[p]at hz
 |some r=>
  simp only[p]at hz;obtain⟨zv,e1,e2,L⟩:=Qz p;have H:Bz w ρ (z.map .d) r:=(JU z r).2 (T5 z r hz);have v:zv.cells=r.toArray:=by rw[<-e1]
  have N:∀c:Nat->Option (Nat×Nat),(∀i,i<z.length->c i=some (C8 (z.take i),(z.getD i default).sz))->
   (∀(o:Oper),o.op=.build t s->∀j b,Instr.fill c r.toArray (s.toList.map λ(i,x)=>(i,a.eval x))=some b->(execOp a.eval o).run P j=.ok (.value (.agg b)) j)->
   Y0 P a w ρ (.build t s) K:=by
   intro c Z J;obtain⟨O,u,hK,hR,F⟩:=dn (sl:=sl) hs c ((z.map V.d).map V.shape) (λi l=>by
    rw[Z i (by simpa using l),sG];have X:i<z.length:=by simpa using l
    congr 2;simp[X,V.shape,Cb]) s.toList Xs (z.map .d) r _ hp H rfl h
   exact⟨.agg u.toArray,V.mk O,hK,(Xz8 (YS O)).2 ⟨u,rfl,hR⟩,λo G j _=>J o G j _ F⟩
  have g:∀q:Operand->Value,(s.map λ(i,x)=>(i,q x)).toList=s.toList.map λ(i,x)=>(i,q x):=λq=>by simp
  split at k
  ·rename_i Q m;simp only[BB,C9]at k;obtain⟨h1,h2⟩:=k;refine N (λi=>((Q.toList.map λy=>(y.offset,(Yl P y.type).getD 0)).toArray)[i]?) (λi l=>?_) (λo G j b F=>?_)
   ·rw[h2];simp[l]
   ·have hm:=Xv5 (P:=P) Q.toList h1 j;have Y:(Q.mapM (λf=>(do pure (f.offset,<-sizeOf f.type):Sem (Nat×Nat)))).run P j=.ok ((Q.toList.map λy=>(y.offset,(Yl P y.type).getD 0)).toArray) j:=by
     rw[Array.mapM_eq_mapM_toList];simp only[Sem.run_map,hm,Result.andThen_ok]
    simp only[execOp,G,Instr.build,Sem.run_bind,L,Result.andThen_ok,Xa m,Y,g,v,F,Sem.run_pure]
  ·rename_i n e m;cases W:Yl P e with
   |none=>simp[W]at k
   |some T=>
    simp only[W,Es,C9]at k;refine N (λi=>some (i*T,T)) (λi l=>?_) (λo G j b F=>?_)
    ·rw[Er (sz:=T) _ (λx hx=>k x (F1 hx)),Fm,Gx (by omega)];simp[l,k _ (Ci l)]
    ·simp only[execOp,G,Instr.build,Sem.run_bind,L,Result.andThen_ok,Xa m,X2 W,g,v,F,Sem.run_pure]
  ·simp at k
def Yc6(Y:SM w ρ sl a){t:Nat}{z:D}{x:A}{H:Op}(q:C.Ak P H (.IL t z x)=true)(h:MZ t z K (x.ev sl)):Y0 P a w ρ H K:=by
 cases H<;>simp only[C.Ak,BO]at q;rename_i x1 xt u O;cases O<;>simp only[BO]at q;simp only[BB,C9]at q;obtain⟨⟨⟨rfl,U⟩,F⟩,W⟩:=q;obtain⟨d,n,X⟩:∃d,P.underlying t=some d/\∀ms,d≠.interface ms:=by
  revert U;split<;>simp_all
 have i:=A.Az Y W;cases l:U3 P t with
 |none=>simp[l]at F
 |some s=>
  simp only[l,BB,C9]at F;obtain⟨G,g⟩:=F;obtain⟨N,p,T,aa⟩:=Qz l;have f:(V.d z).Ax w ρ N:=by
   have y:(V.d z).Al w ρ s:=by simp only[V.Al];exact Mz z s G
   rw[T]at g;simp only[Option.map_some,CJ]at g;cases N with
   |agg Q=>
    simp only at g;refine .inr (.inl ⟨g.symm,s,?_,y⟩);simp only[Value.cells]at p;rw[<-p]
   |_=>
    simp only at g;refine .inr (.inr ⟨g.symm,?_⟩);simp only[Value.cells]at p;rw[<-p]at y;simpa using y
  have j:∀{v:V}{u:Value}(b:Bool),v.Ax w ρ u->(V.BT [v,.d (.bool b)]).Ax w ρ (.tuple #[u,.bool b]):=λb Z=>by
   rw[CP];refine⟨[_,.bool b],rfl,?_⟩;simp only[V.A8];exact⟨_,_,rfl,Z,_,_,rfl,BR.2 rfl,rfl⟩
  unfold MZ at h;split at h
  ·rename_i L v m;rw[m,W6 (by simp[V.isAgg]) (by simp)]at i;simp only[V.Al,HN,Gg]at i;obtain⟨c,i,J⟩:=i;by_cases e:L=t
   ·refine⟨_,_,h.1 e,j true J,λo k r _=>?_⟩;subst e;simp only[execOp,k,Instr.typeAssert,Sem.run_bind,Xa n,Result.andThen_ok,i];cases d<;>simp_all
   ·refine⟨_,_,h.2 e,j false f,λo k r _=>?_⟩;simp only[execOp,k,Instr.typeAssert,Sem.run_bind,Xa n,Result.andThen_ok,i];cases d<;>simp_all
  ·rename_i L v m;rw[m,SV]at i;obtain⟨c,i,J⟩:=i;by_cases e:L=t
   ·refine⟨_,_,h.1 e,j true J,λo k r _=>?_⟩;subst e;simp only[execOp,k,Instr.typeAssert,Sem.run_bind,Xa n,Result.andThen_ok,i];cases d<;>simp_all
   ·refine⟨_,_,h.2 e,j false f,λo k r _=>?_⟩;simp only[execOp,k,Instr.typeAssert,Sem.run_bind,Xa n,Result.andThen_ok,i];cases d<;>simp_all
  next m=>rw[m,VH]at i;refine⟨_,_,h,j false f,λo k r _=>?_⟩;simp only[execOp,k,Instr.typeAssert,Sem.run_bind,Xa n,Result.andThen_ok,i];cases d<;>simp_all
  ·cases h
def Yc7(Z:SM w ρ sl a)(W:OM w ρ objs){y:Op}{x:A}(i:C.Ak P y (.IM x)=true)(h:I8 objs K (x.ev sl)):Y0 P a w ρ y K:=by
 cases y<;>simp only[C.Ak,BO]at i;rename_i c;obtain⟨J,args,H⟩:=c;cases J<;>(try simp only[BO]at i);rename_i b;cases b<;>(try simp only[BO]at i);split at i
 ·rename_i u N;have O:args=#[u]:=by simpa using Cc List.toArray N
  subst O;have r:=A.Az Z i;have f:∀(g:Value)(o:Oper)(d:World),o.op=.call {callee:=.builtin .unsafeSliceData,args:=#[u],argTypes:=H}->(Builtin.unsafeSliceData_ H o.type #[a.eval u]).run P d=.ok g d->(execOp a.eval o).run P d=.ok (.value g) d:=by
   intro g o d m Y;simp only[execOp,m,resolve,invoke,builtin,Sem.run_bind,Sem.run_pure,Result.andThen_ok,List.map_toArray,Cw,Ht,Y]
  unfold I8 at h;split at h
  ·rename_i id n t;obtain⟨⟨E,G,z,X,v,rfl,l⟩,U⟩:=h;rw[t,Y3]at r;obtain⟨o,p,hv⟩:=r;rcases W.BW id _ X with⟨q,rfl⟩|⟨b,s,L,sp,q,h2,Q,T,F⟩
   ·exact absurd rfl l
   ·rw[p]at q;simp at q;subst q;have hu:=hv.2.2 rfl;have j:s≠0:=by
     intro e;subst e;have k:L.length=z.length*G:=by rw[Gv _ _ Q,Er _ T]
     have hx:z.length≠0:=by simpa using l
     have:0<z.length*G:=Nat.mul_pos (OC hx) (OC v);simp at F;rw[F.1]at k;simp at k;omega
    refine⟨_,_,U,Yl6.2 ⟨_,p,Bg _,⟨_,rfl⟩,λ_ _=>rfl⟩,λo m d _=>f _ o d m (by rw[hu];exact Lib.run_unsafeSliceData_row _ _ _ _ _ _ j)⟩
  next t=>rw[t,Vv]at r;exact⟨_,_,h,gH.2 rfl,λo m d _=>f _ o d m (by rw[r];exact Lib.run_unsafeSliceData_nil _ _ _ _ _)⟩
  ·cases h
 ·simp at i
def gM{x:D}{u:Value}(h:(V.d x).Ax w ρ u):∃e,u=FM x e/\x.Ax w (CH ρ) e:=by
 rw[Ii]at h;rcases h with⟨b,f,c,g⟩|⟨b,c⟩
 ·exact⟨f,by simp[FM,b,c],g⟩
 ·exact⟨[u],by simp[FM,b],c⟩
def Ycy(J:SM w ρ sl a){k:KT}{e:Bool}{x y:A}{r:Op}(m:C.Ak P r (.Fc k e x y)=true)(h:TV k e K (x.ev sl) (y.ev sl)):Y0 P a w ρ r K:=by
 cases r<;>simp only[C.Ak,BO]at m;rename_i o t T U t2;simp only[BB,DK,GK]at m;obtain⟨⟨⟨⟨⟨⟨j,p⟩,b⟩,l⟩,n⟩,Z⟩,hy⟩:=m;have L:=A.Az J Z;have N:=A.Az J hy;unfold TV at h;split at h
 ·rename_i g i W X;rw[W]at L;rw[X]at N;obtain⟨F,G,Y⟩:=h;have z:g.isAgg=true/\i.isAgg=true:=by
   cases k<;>simp only[BO]at l<;>cases g<;>simp only[KT.Bm,BO]at F<;>cases i<;>simp only[KT.Bm,BO]at G<;>exact⟨rfl,rfl⟩
  obtain⟨d,s,rx⟩:=gM L;obtain⟨f,u,ry⟩:=gM N;have q:=KT.equal k t g i d f 10000 p F G rx ry b;have O:FM g d=.agg d.toArray:=by simp[FM,z.1]
  have Q:FM i f=.agg f.toArray:=by simp[FM,z.2]
  rw[O,Q]at q;rw[O]at s;rw[Q]at u;refine⟨_,_,Y,BR.2 rfl,λaa c v _=>?_⟩;have H:(eqGuard o t T U (.agg d.toArray) (.agg f.toArray)).run P v=.ok () v:=run_eqGuard_agg v o t T U _ _ n;cases e with
  |true=>
   simp only[Bu]at j;subst j;simp only[execOp,c,s,u,Sem.run_bind,H,Result.andThen_ok,run_eql_struct,q];simp
  |false=>
   simp only[BO,Bs]at j;subst j;simp only[execOp,c,s,u,Sem.run_bind,H,Result.andThen_ok,run_neq_struct,q];simp
 ·cases h
def X2u(W:SM w ρ sl a){n z:Nat}{r:Bool}{x y:A}{Q:Op}(H:C.Ak P Q (.HY n z r x y)=true)(h:Oa n z r K (x.ev sl) (y.ev sl)):Y0 P a w ρ Q K:=by
 cases Q<;>simp only[C.Ak,BO]at H;rename_i t x1 y1;simp only[BB]at H;obtain⟨⟨v,p⟩,h2⟩:=H;have X:=A.Az W p;have Y:=A.Az W h2;obtain⟨e,ht,U,hu,G⟩:∃e,P.underlying t=some (.array n e)/\Yl P e=some z/\(P.underlying e).isSome=true/\GV P e=r:=by
  revert v;split
  next m e h=>intro v;simp only[BB,C9]at v;obtain⟨⟨⟨rfl,j⟩,h4⟩,h5⟩:=v;exact⟨e,h,j,h4,h5⟩
  ·intro h;cases h
 unfold Oa at h;split at h
 ·rename_i d k i e1 e2;rw[e1]at X;rw[e2,Yf]at Y;obtain⟨⟨J,hi⟩,hl,g,T⟩:=h;obtain⟨u,u1,Z⟩:=gM X;simp only[D.Ax]at Z;simp only[FM,D.isAgg,Bu]at u1;have l:i.toNat<d.length:=by omega
  have j:=T2 Z l;have L:C8 (d.take i.toNat)=i.toNat*z:=by
   rw[Er (sz:=z) _ (λx N=>(g x (F1 N)).1),Fm,Gx (by omega)]
  have q:=g _ (Ci l);rw[L,q.1]at j;have b:=HI _ _ j;have hg:d.getD i.toNat default=d[i.toNat]:=by simp[l]
  rw[hg]at T;have s:∀F,(part e u.toArray (i.toNat*z)).run P F=.ok (FM d[i.toNat] ((u.drop (i.toNat*z)).take z)) F:=by
   intro F;simp only[part,Sem.run_bind,UU hu,G,Result.andThen_ok,FM,q.2];cases r with
   |true=>
    simp only[Bu,Sem.run_bind,X2 U,Result.andThen_ok,Sem.run_pure];congr 2;apply Array.ext';simp[List.take_drop]
   |false=>
    have p:d[i.toNat].sz=1:=by
     have:=q.2;cases N:d[i.toNat]<;>simp_all[D.isAgg,D.sz]
    have O:z=1:=by rw[<-q.1,p]
    subst O;rw[p]at b;obtain⟨c,f⟩:=Lt.1 b;have:u[i.toNat*1]? = some c:=by
     have:=Cc (·[0]?) f;simpa[List.getElem?_take,List.getElem?_drop]using this
    simp only[BO,Bs,f,List.headD_cons];simp at this;simp[this]
  refine⟨FM d[i.toNat] ((u.drop (i.toNat*z)).take z),_,T,?_,λo ho F _=>?_⟩
  ·rw[Ii];simp only[FM,q.2];cases r with
   |true=>exact .inl ⟨rfl,_,rfl,j⟩
   |false=>
    refine .inr ⟨rfl,?_⟩;have p:d[i.toNat].sz=1:=by
     have:=q.2;cases N:d[i.toNat]<;>simp_all[D.isAgg,D.sz]
    rw[p]at b;obtain⟨c,f⟩:=Lt.1 b;rw[f]at j⊢;simpa using j
  ·simp[execOp,ho,Instr.index,u1,Y,asIntOf,Xa ht,J,hi,X2 U,s]
 ·cases h
def C.Ew:C->Bool
|.ld _ _ _=>true
|_=>false
def C.Ds:C->Bool
|_=>false
def C.Az(d:SM w ρ sl a)(e:OM w ρ objs){f:Op}:∀{c:C},c.Ak P f=true->c.wp sl objs K->VE c.Ew P a w ρ f K
|.mv _,b,h=>Yh7 d b h
|.pick _ _ _,b,h=>X2y d b h
|.not _,b,h=>Yc5 d b h
|.neg _,b,h=>Yc4 d b h
|.HF _,b,h=>Ycw d b h
|.CR _ _ _,b,h=>Ycu d b h
|.DG _ _,b,h=>Xxf d b h
|.EP _ _,b,h=>X2s d b h
|.IM _,b,h=>Yc7 d e b h
|.IE _ _,b,h=>Ycx d b h
|.Gn _ _,b,h=>Yc1 d b h
|.Cs _ _ _,b,h=>X2t d e b h
|.CZ _ _ _ _,b,h=>xF d e b h
|.Bf _ _ _,b,h=>xE d e b h
|.IF _ _ _ _ _,b,h=>Yc0 d b h
|.ld _ _ _,b,h=>SZ d e b h
|.DA _,b,h=>X2x d b h
|.DI _,b,h=>X2w d b h
|.CK _,b,h=>X2v d e b h
|.Cu _ _ _,b,h=>X20 d b h
|.C6 _ _ _ _,b,h=>X2z d b h
|.ext _ _,b,h=>Ycz d b h
|.Fa _ _,b,h=>Ycv d b h
|.ES _ _ _,b,h=>Yc2 d b h
|.IH _ _,b,h=>Yc3 d b h
|.IL _ _ _,b,h=>Yc6 d b h
|.Fc _ _ _ _,b,h=>Ycy d b h
|.HY _ _ _ _ _,b,h=>X2u d b h
end
section
variable {P:Program} {w:World} {ρ:A9} {ob:AF}
def A9.Be(ρ:A9)(id:Nat)(o:RO):A9:=⟨λj=>if j=id then some o else ρ.m j,ρ.xo,ρ.gl⟩
def OM.free(h:OM w ρ ob){id:Nat}(b:AB ob id=none):ρ.m id=none:=by
 cases c:ρ.m id with
 |none=>rfl
 |some o=>obtain⟨x,a⟩:=h.EY id o c;rw[b]at a;cases a
def Ee(w:World)(o:Obj):World:={w with heap:=w.heap.push o}
def Wi(w:World)(o:Obj):(Ee w o).heap[w.heap.size]? = some o:=by
 show(w.heap.push o)[w.heap.size]? = some o;simp
def tu(w:World)(o:Obj){b:Nat}(h:b<w.heap.size):(Ee w o).heap[b]? = w.heap[b]?:=by
 show(w.heap.push o)[b]? = w.heap[b]?;simp[Array.getElem?_push,Nat.ne_of_lt h]
def Wa(w:World)(o:Obj):B5 w (Ee w o):=⟨by show w.heap.size<=(w.heap.push o).size;simp,λ_ h=>tu w o h,rfl,rfl,rfl,Bg _⟩
def Qa(h:OM w ρ ob){id:Nat}{o:RO}{b:Nat}(e:ρ.m id=some o)(c:o.blk? = some b):b<w.heap.size:=by
 obtain⟨x,q⟩:=h.EY id o e;have f:=h.BW id x q;cases x with
 |box E t=>
  obtain⟨g,k,a,d,_⟩:=f;rw[e]at a;simp at a;subst a;simp[RO.blk?]at c;subst c;exact Xl d
 |BG E s v=>
  rcases f with⟨a,_⟩|⟨g,i,k,r,a,d,_⟩
  ·rw[e]at a;simp at a;subst a;simp[RO.blk?]at c
  ·rw[e]at a;simp at a;subst a;simp[RO.blk?]at c;subst c;exact Xl d
 |Ay E s v=>
  rcases f with⟨a,_⟩|⟨g,i,k,r,a,d,_⟩
  ·rw[e]at a;simp at a;subst a;simp[RO.blk?]at c
  ·rw[e]at a;simp at a;subst a;simp[RO.blk?]at c;subst c;exact Xl d
 |map G=>
  obtain⟨g,l,p,a,d,_⟩:=f;rw[e]at a;simp at a;subst a;simp[RO.blk?]at c;subst c;exact Xl d
 |lp u N L=>
  obtain⟨g,H,O,F,K,y,z,a,d,_⟩:=f;rw[e]at a;simp at a;subst a;simp[RO.blk?]at c;subst c;exact Xl d
 |it m n seen=>
  cases m with
  |none=>
   obtain⟨g,a,d⟩:=f;rw[e]at a;simp at a;subst a;simp[RO.blk?]at c;subst c;exact Xl d
  |some j=>
   obtain⟨g,J,a,_,d⟩:=f;rw[e]at a;simp at a;subst a;simp[RO.blk?]at c;subst c;exact Xl d
 |An=>
  have a:ρ.m id=some .An:=f;rw[e]at a;simp at a;subst a;simp[RO.blk?]at c
def Uo(g:World)(a:B5 w g){id:Nat}{o:RO}(k:ρ.m id=none)(i:∀b,o.blk? = some b->w.heap.size<=b):Tr w ρ g (ρ.Be id o):=by
 refine⟨a.size,λb _ h=>a.keep b h,λb h=>?_,rfl,rfl,λj x d=>⟨x,?_,.refl x⟩,a.tape,a.os,a.Ck,a.drawn⟩
 ·obtain⟨j,x,c,f⟩:=h;simp only[A9.Be]at c;split at c
  ·simp at c;subst c;exact .inr (i b f)
  ·exact .inl ⟨j,x,c,f⟩
 ·simp only[A9.Be];split
  next e=>subst e;rw[k]at d;cases d
  ·exact d
def Je.tr{z:World}{r:A9}(t:Tr w ρ z r){id:Nat}{x:Ob}(h:Je w ρ id x)(g:r.m id=ρ.m id)(q:∀b o,ρ.m id=some o->o.blk? = some b->z.heap[b]? = w.heap[b]?):Je z r id x:=by
 cases x with
 |box E y=>
  obtain⟨b,s,a,c,e⟩:=h;exact⟨b,s,g.trans a,(q b _ a rfl).trans c,IN t _ _ e⟩
 |BG E Q W=>
  rcases h with⟨a,c⟩|⟨b,i,s,v,a,c,e,f,d⟩
  ·exact .inl ⟨g.trans a,c⟩
  ·exact .inr ⟨b,i,s,v,g.trans a,(q b _ a rfl).trans c,GF t.mono _ _ e,f,d⟩
 |Ay E Q W=>
  rcases h with⟨a,c⟩|⟨b,i,s,v,a,c,e,f,d⟩
  ·exact .inl ⟨g.trans a,c⟩
  ·exact .inr ⟨b,i,s,v,g.trans a,(q b _ a rfl).trans c,HJ t _ _ e,f,d⟩
 |map X=>
  obtain⟨b,l,u,a,c,e,f⟩:=h;exact⟨b,l,u,g.trans a,(q b _ a rfl).trans c,Yj.tr t _ _ e,f⟩
 |lp T Z Y=>
  obtain⟨b,J,U,H,O,F,G,a,c,e,f⟩:=h;exact⟨b,J,U,H,O,F,G,g.trans a,(q b _ a rfl).trans c,by rw[t.gl];exact e,λp K=>Gw t (f p K)⟩
 |it m n seen=>
  cases m with
  |none=>obtain⟨b,a,c⟩:=h;exact⟨b,g.trans a,(q b _ a rfl).trans c⟩
  |some j=>
   obtain⟨b,L,a,e,c⟩:=h;refine⟨b,L,g.trans a,?_,(q b _ a rfl).trans c⟩;rcases e with e|e
   ·obtain⟨N,f,d⟩:=t.same j _ e;cases d with
    |refl=>exact .inl f
    |An=>exact .inr f
    |grow k d=>rcases d with⟨d,_⟩|⟨_,_,d⟩<;>cases d
   ·obtain⟨N,f,d⟩:=t.same j _ e;cases d with
    |refl=>exact .inr f
    |An=>exact .inr f
    |grow k d=>rcases d with⟨d,_⟩|⟨_,_,d⟩<;>cases d
 |An=>exact g.trans h
def OM.Be{l:World}(h:OM w ρ ob)(m:B5 w l){id:Nat}{o:RO}{x:Ob}(n:AB ob id=none)(k:∀b,o.blk? = some b->w.heap.size<=b)
 (v:Je l (ρ.Be id o) id x):OM l (ρ.Be id o) ((id,x)::ob):=by
 have u:=h.free n;have t:=Uo l m (o:=o) u k;refine⟨λj y f=>?_,λj y f=>?_,λi j p q b c a d g=>?_,λb k=>OD (h.E9 b k) m.size,Ly t h.EF,λb c a=>?_,⟨n,h.Cn⟩⟩
 ·simp only[AB]at f;split at f
  next e=>subst e;simp at f;subst f;exact v
  next e=>refine Je.tr t (h.BW j y f) (by simp[A9.Be,Ne.symm e]) (λb z c a=>m.keep b (Qa h c a))
 ·simp only[AB];split
  ·exact⟨x,rfl⟩
  next e=>exact h.EY j y (by simpa[A9.Be,Ne.symm e]using f)
 ·simp only[A9.Be]at c a;split at c
  ·rename_i r;split at a
   next s=>exact r.trans s.symm
   ·simp at c;subst c;have:=Qa h a g;have:=k b d;omega
  ·split at a
   ·simp at a;subst a;have:=Qa h c d;have:=k b g;omega
   ·exact h.inj i j p q b c a d g
 ·obtain⟨i,p,d,g⟩:=c;simp only[A9.Be]at d;split at d
  ·simp at d;subst d;have:=k b g;have:=h.E9 b a;omega
  ·exact h.Dm b ⟨i,p,d,g⟩ a
def uq(h:OM w ρ ob){id:Nat}(g:AB ob id=none){t:V}{a:List Value}(d:t.Al w ρ a)(E:TypeId):
 Tr w ρ (Ee w (.cells a.toArray E)) (ρ.Be id (.box w.heap.size t.shape))/\OM (Ee w (.cells a.toArray E)) (ρ.Be id (.box w.heap.size t.shape)) ((id,.box E t)::ob)/\
  (V.ptr id []).Ax (Ee w (.cells a.toArray E)) (ρ.Be id (.box w.heap.size t.shape)) (.pointer (some ⟨w.heap.size,0,none⟩)):=by
 have f:=Wa w (.cells a.toArray E);have i:=Uo _ f (o:=.box w.heap.size t.shape) (h.free g) (λb c=>by simp[RO.blk?]at c;omega);refine⟨i,h.Be f g (λb c=>by simp[RO.blk?]at c;omega) ?_,?_⟩
 ·exact⟨w.heap.size,a,by simp[A9.Be],Wi _ _,IN i _ _ d⟩
 ·have:t.shape.off []=0:=by cases t.shape<;>simp[Sh.off]
  have e:=UQ (w:=Ee w (.cells a.toArray E)) (ρ:=ρ.Be id (.box w.heap.size t.shape)) (id:=id) (p:=[]) (b:=w.heap.size) (sh:=t.shape) (by simp[A9.Be]);rw[this]at e;exact e
mutual
def V.Gs:V->Bool
|.agg a=>Hp a
|.BT _|.undef|.any=>false
|_=>true
def Hp:List V->Bool
|[]=>true
|x::r=>x.Gs&&Hp r
end
mutual
def D.BW{j:Nat->Prop}:∀(d:D)(b:List Value),d.Ax w j b->∀c∈b,c.oneCell'=true
|.int _ _,b,h|.bool _,b,h|.AU _,b,h|.Ad,b,h|.B6,b,h|.CL,b,h|.Br,b,h|.CV,b,h=>by simp[D.Ax]at h;simp[h,Value.oneCell']
|.AH sz g,b,h=>by
 simp only[D.Ax]at h;rcases h with⟨_,h⟩|⟨a,i,k,h,_⟩<;>simp[h,Value.oneCell']
|.Bv x,b,h=>by simp only[D.Ax]at h;obtain⟨a,k,e,_⟩:=h;simp[e,Value.oneCell']
|.iface t x,b,h=>by simp only[D.Ax]at h;obtain⟨u,e,_⟩:=h;simp[e,Value.oneCell']
|.fn f m l,b,h=>by simp only[D.Ax]at h;obtain⟨n,o,e,_⟩:=h;simp[e,Value.oneCell']
|.agg g,b,h=>by simp only[D.Ax]at h;exact T6 g b h
def T6{i:Nat->Prop}:∀(j:List D)(b:List Value),Bq w i j b->∀c∈b,c.oneCell'=true
|[],b,h=>by simp[Bq]at h;simp[h]
|x::r,b,h=>by
 simp only[Bq]at h;obtain⟨d,e,rfl,f,g⟩:=h;intro c a;rcases DT.1 a with a|a
 ·exact D.BW x d f c a
 ·exact T6 r e g c a
end
mutual
def V.BW:∀(v:V)(j:List Value),v.Gs=true->v.Al w ρ j->∀c∈j,c.oneCell'=true
|.d x,j,_,h=>by simp only[V.Al]at h;exact D.BW x j h
|.ptr id p,j,_,h=>by simp only[V.Al]at h;rcases h with⟨b,J,_,e⟩|⟨_,a,e⟩<;>simp[e,Value.oneCell']
|.sl id n,j,_,h=>by
 simp only[V.Al]at h;obtain⟨o,u,_,e,g⟩:=h;cases o with
 |box b s=>simp[RO.slice]at g
 |map b=>simp[RO.slice]at g
 |BG b l c=>simp only[RO.slice]at g;obtain⟨_,⟨x,y,z,rfl⟩,_⟩:=g;simp[e,Value.oneCell']
 |CG=>simp only[RO.slice]at g;obtain⟨_,rfl⟩:=g;simp[e,Value.oneCell']
 |An=>simp only[RO.slice]at g;obtain⟨x,y,z,rfl⟩:=g;simp[e,Value.oneCell']
|.sd id n,j,_,h=>by
 simp only[V.Al]at h;obtain⟨o,u,_,e,g⟩:=h;cases o with
 |box b s=>simp[RO.EA]at g
 |map b=>simp[RO.EA]at g
 |BG b l c=>simp only[RO.EA]at g;obtain⟨_,⟨x,rfl⟩,_⟩:=g;simp[e,Value.oneCell']
 |CG=>simp only[RO.EA]at g;obtain⟨_,_,rfl⟩:=g;simp[e,Value.oneCell']
 |An=>simp only[RO.EA]at g;obtain⟨_,rfl⟩:=g;simp[e,Value.oneCell']
|.mp id,j,_,h=>by simp only[V.Al]at h;rcases h with⟨_,_,e⟩|⟨_,_,e⟩<;>simp[e,Value.oneCell']
|.hd y id,j,_,h=>by simp only[V.Al]at h;rcases h with⟨_,_,e⟩|⟨_,_,e⟩<;>cases y<;>simp[e,Ke,Value.oneCell']
|.bs id p H n,j,_,h=>by simp only[V.Al]at h;rcases h with⟨_,_,_,_,_,_,e⟩|⟨_,_,_,_,e⟩<;>simp[e,Value.oneCell']
|.ep id n z i f p,j,_,h=>by
 simp only[V.Al]at h;obtain⟨o,u,_,e,g⟩:=h;cases o with
 |box b s=>simp[RO.elem]at g
 |map b=>simp[RO.elem]at g
 |BG b l c=>simp only[RO.elem]at g;obtain⟨_,⟨x,rfl⟩,_⟩:=g;simp[e,Value.oneCell']
 |CG=>simp[RO.elem]at g
 |An=>simp only[RO.elem]at g;obtain⟨_,rfl⟩:=g;simp[e,Value.oneCell']
|.fn f r q,j,_,h=>by simp only[V.Al]at h;obtain⟨F,G,e,_⟩:=h;simp[e,Value.oneCell']
|.agg m,j,k,h=>by simp only[V.Al]at h;simp only[V.Gs]at k;exact YT m j k h
|.iface t x,j,_,h=>by simp only[V.Al]at h;obtain⟨u,e,_⟩:=h;simp[e,Value.oneCell']
|.BT m,j,k,h|.undef,j,k,h|.any,j,k,h=>by simp[V.Gs]at k
def YT:∀(e:List V)(b:List Value),Hp e=true->Bz w ρ e b->∀c∈b,c.oneCell'=true
|[],b,_,h=>by simp[Bz]at h;simp[h]
|x::r,b,d,h=>by
 simp only[Bz]at h;simp only[Hp,BB]at d;obtain⟨f,g,rfl,i,j⟩:=h;intro c a;rcases DT.1 a with a|a
 ·exact V.BW x f d.1 i c a
 ·exact YT r g d.2 j c a
end
def YU{v:V}(h:v.Gs=true):v≠.any:=by intro e;subst e;simp[V.Gs]at h
def Xb{x:Ob}:∀(ob:AF)(id j:Nat),(∃y,AB ob id=some y)->AB (AG ob id x) j=if j=id then some x else AB ob j
|[],id,j,h=>by simp[AB]at h
|(k,y)::r,id,j,h=>by
 simp only[AG];split
 ·rename_i e;subst e;simp only[AB];by_cases a:k=j
  ·simp[a]
  ·simp[a,Ne.symm a]
 ·rename_i e;simp only[AB]at h⊢;rw[Aq e]at h;rw[Xb r id j h];by_cases a:k=j
  ·subst a;simp[e]
  ·simp[a]
def VQ(h:OM w ρ ob){id:Nat}{w2:World}(F:∃y,AB ob id=some y)(u:w2.heap.size=w.heap.size)(z:∀j,(∀o,ρ.m id=some o->o.blk?≠some j)->w2.heap[j]? = w.heap[j]?)
 (v:w2.tape=w.tape) (t:w2.os=w.os) (k:w2.output=w.output) (n:w.drawn<=w2.drawn):Tr w ρ w2 (ρ.Be id .An)/\OM w2 (ρ.Be id .An) (AG ob id .An)/\∀b o,ρ.m id=some o->o.blk? = some b->¬CH (ρ.Be id .An) b:=by
 have x:Tr w ρ w2 (ρ.Be id .An):=by
  refine⟨by omega,λb g _=>z b (λo a c=>g ⟨id,o,a,c⟩),λb g=>.inl ?_,rfl,rfl,λj o r=>?_,v,t,k,n⟩
  ·obtain⟨j,o,a,c⟩:=g;simp only[A9.Be]at a;split at a
   ·simp at a;subst a;simp[RO.blk?]at c
   ·exact⟨j,o,a,c⟩
  ·by_cases e:j=id
   ·exact⟨.An,by simp[A9.Be,e],.An o⟩
   ·exact⟨o,by simp[A9.Be,e,r],.refl o⟩
 have s:∀b o,ρ.m id=some o->o.blk? = some b->¬CH (ρ.Be id .An) b:=by
  rintro b o a c (⟨j,p,d,f⟩|d)
  ·simp only[A9.Be]at d;split at d
   ·simp at d;subst d;simp[RO.blk?]at f
   next e=>exact e (h.inj j id p o b d a f c)
  ·exact h.Dm b ⟨id,o,a,c⟩ d
 refine⟨x,⟨λj y l=>?_,λj o r=>?_,λi j p q b a c d f=>?_,λb g=>by rw[u];exact h.E9 b g,Ly x h.EF,λb g=>?_,h.Cn.set⟩,s⟩
 ·rw[Xb ob id j F]at l;split at l
  next e=>subst e;simp at l;subst l;simp[Je,A9.Be]
  next e=>exact Je.tr x (h.BW j y l) (by simp[A9.Be,e]) (λb p a c=>z b (λo d f=>e (h.inj j id p o b a d c f)))
 ·rw[Xb ob id j F];split
  ·exact⟨_,rfl⟩
  next e=>exact h.EY j o (by simpa[A9.Be,e]using r)
 ·simp only[A9.Be]at a c;split at a
  ·simp at a;subst a;simp[RO.blk?]at d
  ·split at c
   ·simp at c;subst c;simp[RO.blk?]at f
   ·exact h.inj i j p q b a c d f
 ·obtain⟨j,o,a,c⟩:=g;simp only[A9.Be]at a;split at a
  ·simp at a;subst a;simp[RO.blk?]at c
  ·exact h.Dm b ⟨j,o,a,c⟩
def Sj(h:OM w ρ ob){id:Nat}(a:∃y,AB ob id=some y):Tr w ρ w (ρ.Be id .An)/\OM w (ρ.Be id .An) (AG ob id .An)/\∀b o,ρ.m id=some o->o.blk? = some b->¬CH (ρ.Be id .An) b:=
 VQ h a rfl (λ_ _=>rfl) rfl rfl rfl (Bg _)
def SN(h:OM w ρ ob){id E e:Nat}{j:List D}(s:AB ob id=some (.BG E e j))(m:e≠0){u:Value}(g:(V.sl id j.length).Ax w ρ u):
 (V.d (.AH e j)).Ax w (ρ.Be id .An) u:=by
 obtain⟨y,_,l⟩:=Sj h ⟨_,s⟩;rw[Y3]at g;obtain⟨o,c,g⟩:=g;rw[Za];rcases h.BW id _ s with⟨a,rfl⟩|⟨b,f,n,z,a,p,q,r,t⟩
 ·rw[c]at a;simp at a;subst a;exact .inl ⟨rfl,g.2⟩
 ·rw[c]at a;simp at a;subst a;have x:=g.2.2 rfl;refine .inr ⟨_,f,n,x,?_,⟨λ_=>⟨rfl,l b _ c rfl,Xl p⟩,λi v=>?_⟩,GF y.mono _ _ q,r⟩
  ·have k:n.length=j.length*e:=by rw[Gv _ _ q,Er _ r]
   have:j.length*e<=f*e:=by rw[<-t,<-k];simp
   exact R1 this (OC m)
  ·simp[World.cell?,p,JY,v]
def Dy(h:OM w ρ ob){id:Nat}{t t':V}{b:Nat}{p a:List Value}{E:TypeId}(n:AB ob id=some (.box E t))(k:ρ.m id=some (.box b t.shape))
 (u:w.heap[b]? = some (.cells (List.toArray p) E (0,0))) (v:t'.shape=t.shape) (l:t'.Al w ρ a):
 Tr w ρ (w.setRow b a.toArray) ρ/\OM (w.setRow b a.toArray) ρ (AG ob id (.box E t')):=by
 have d:Tr w ρ (w.setRow b a.toArray) ρ:=by
  refine⟨by simp,λj i _=>setRow_other w b j _ (λe=>i ?_),λ_ h=>.inl h,rfl,rfl,λ_ o h=>⟨o,h,.refl o⟩,rfl,rfl,rfl,Bg _⟩;subst e;exact⟨id,_,k,rfl⟩
 refine⟨d,λj y c=>?_,λj o i=>?_,h.inj,λf g=>by simpa using h.E9 f g,Ly d h.EF,h.Dm,h.Cn.set⟩
 ·rw[Xb ob id j ⟨_,n⟩]at c;split at c
  next e=>subst e;simp at c;subst c;exact⟨b,a,by rw[v];exact k,setRow_heap w b _ _ E _ u,IN d _ _ l⟩
  next e=>refine Je.tr d (h.BW j y c) rfl (λf o r s=>setRow_other w b f _ (λq=>e ?_));subst q;exact h.inj j id _ _ _ r k s rfl
 ·rw[Xb ob id j ⟨_,n⟩];split
  ·exact⟨_,rfl⟩
  ·exact h.EY j o i
def Yh{x y:Ob}{id:Nat}:∀(ob:AF),AG (AG ob id x) id y=AG ob id y
|[]=>rfl
|(k,z)::r=>by
 simp only[AG];split
 next e=>simp[AG,e]
 next e=>simp[AG,e,Yh r]
def OM.swap(h:OM w ρ ob){id:Nat}{x x':Ob}(b:AB ob id=some x)(d:Je w ρ id x'):OM w ρ (AG ob id x'):=by
 refine⟨λj y a=>?_,λj o c=>?_,h.inj,h.E9,h.EF,h.Dm,h.Cn.set⟩
 ·rw[Xb ob id j ⟨_,b⟩]at a;split at a
  next e=>subst e;simp at a;subst a;exact d
  ·exact h.BW j y a
 ·rw[Xb ob id j ⟨_,b⟩];split
  ·exact⟨_,rfl⟩
  ·exact h.EY j o c
def KM:Ob->Nat->V->Ob
|.Ay E a b,i,t=>.Ay E a (b.set i t)
|.BG E a b,i,.d x=>.BG E a (b.set i x)
|.BG E a b,i,t=>.Ay E a ((b.map .d).set i t)
|o,_,_=>o
def X27(h:OM w ρ ob){id n i:Nat}{o:Ob}{v:V}(hl:AB ob id=some o)(s:Uw n i (some o)=some v):
 ∃b a E l G r,ρ.m id=some (.BG b n a)/\w.heap[b]? = some (.cells (List.toArray (l++(G++r))) E (0,0))/\l.length=i*v.size/\v.Al w ρ G/\
  ∀(f:V)(c:List Value),f.shape=v.shape->f.Al w ρ c->Tr w ρ (w.setRow b (l++(c++r)).toArray) ρ/\OM (w.setRow b (l++(c++r)).toArray) ρ (AG ob id (KM o i f)):=by
 have Y:∀(E q:Nat)(F:List V)(b a:Nat)(H k:List Value),ρ.m id=some (.BG b n a)->w.heap[b]? = some (.cells (List.toArray (H++k)) E (0,0))->Bz w ρ F H->(∀x∈F,x.size=q)->
  (H++k).length=a*q->n=F.length->F[i]? = some v->(∀O f g,O.heap[b]? = some (.cells (List.toArray (g++k)) E (0,0))->Bz O ρ (F.set i f) g->f.size=q->(g++k).length=a*q->Je O ρ id (KM o i f))->
  ∃b a E l G r,ρ.m id=some (.BG b n a)/\w.heap[b]? = some (.cells (List.toArray (l++(G++r))) E (0,0))/\l.length=i*v.size/\v.Al w ρ G/\
  ∀(f:V)(c:List Value),f.shape=v.shape->f.Al w ρ c->Tr w ρ (w.setRow b (l++(c++r)).toArray) ρ/\OM (w.setRow b (l++(c++r)).toArray) ρ (AG ob id (KM o i f)):=by
  intro E q F b a H k u L Q J U h6 h7 p;obtain⟨l,G,r,e1,e2,g1,g2,g3⟩:=N8 Q h7;have hv:v.size=q:=J v (List.mem_of_getElem? h7);have ac:i<F.length:=(Ek.1 h7).1;refine⟨b,a,E,l,G,r++k,u,by rw[L,e1];simp,?_,g2,λf c hs hr=>?_⟩
  ·rw[e2,<-Kv,Yg (z:=q) _ (λx p=>J x (F1 p)),Fm,Gx (by omega),hv]
  have W:c.length=G.length:=by rw[FQ _ _ hr,FQ _ _ g2,hs]
  have t1:Tr w ρ (w.setRow b (l++(c++(r++k))).toArray) ρ:=by
   refine⟨by simp,λj hj _=>setRow_other w b j _ (λe=>hj ?_),λ_ h=>.inl h,rfl,rfl,λ_ o h=>⟨o,h,.refl o⟩,rfl,rfl,rfl,Bg _⟩;subst e;exact⟨id,_,u,rfl⟩
  refine⟨t1,λj y t=>?_,λj o hj=>?_,h.inj,λb' ab=>by simpa using h.E9 b' ab,Ly t1 h.EF,h.Dm,h.Cn.set⟩
  ·rw[Xb ob id j ⟨_,hl⟩]at t;split at t
   ·rename_i e;subst e;simp at t;subst t;refine p _ f (l++(c++r)) (by rw[setRow_heap w b _ _ E _ L];simp) ?_ (by unfold V.size;rw[hs];exact hv) ?_
    ·refine HJ t1 _ _ ?_;have e8:F.set i f=F.take i++(f::F.drop (i+1)):=UC.trans (by simp[ac]);rw[e8];refine PN g1 ?_;simp only[Bz];exact⟨_,r,rfl,hr,g3⟩
    ·rw[<-U,e1];simp[W]
   next e=>refine Je.tr t1 (h.BW j y t) rfl (λb' o' N K=>setRow_other w b b' _ (λe2=>e ?_));subst e2;exact h.inj j id _ _ _ N u K rfl
  ·rw[Xb ob id j ⟨_,hl⟩];split
   ·exact⟨_,rfl⟩
   ·exact h.EY j o hj
 cases o with
 |Ay E q Z=>
  simp only[Uw]at s;split at s
  ·rename_i X;rcases h.BW id _ hl with⟨_,rfl⟩|⟨b,a,H,k,u,L,Q,J,U⟩
   ·simp at s
   ·refine Y E q Z b a H k (by rw[X];exact u) L Q J U X s (λO f g N K q3 q4=>.inr ⟨b,a,g,k,by simpa[KM]using u,N,K,λx p=>?_,q4⟩);rcases R3 p with p|rfl
    ·exact J x p
    ·exact q3
  ·cases s
 |BG E q Z=>
  simp only[Uw]at s;split at s
  ·rename_i X;rcases h.BW id _ hl with⟨_,rfl⟩|⟨b,a,H,k,u,L,Q,J,U⟩
   ·simp at s
   ·have T:∀x∈Z.map V.d,x.size=q:=λx p=>by
     obtain⟨y,t,rfl⟩:=DY.1 p;simp[V.size,V.shape,Cb,J y t]
    refine Y E q (Z.map .d) b a H k (by rw[X];exact u) L ((JU _ _).2 Q) T U (by simpa using X) s (λO f g N K q3 q4=>?_);have aa:Je O ρ id (.Ay E q ((Z.map .d).set i f)):=.inr ⟨b,a,g,k,by simpa using u,N,K,λx p=>by
     rcases R3 p with p|rfl
     ·exact T x p
     ·exact q3,q4⟩
    cases f with
    |d x=>
     refine .inr ⟨b,a,g,k,by simpa[KM]using u,N,?_,λy t=>?_,q4⟩
     ·rw[<-GG,JU]at K;exact K
     ·rcases R3 t with t|rfl
      ·exact J y t
      ·simpa[V.size,V.shape,Cb]using q3
    |_=>exact aa
  ·cases s
 |_=>simp[Uw]at s
def Yq3(h:OM w ρ ob){id:Nat}(d:AB ob id=none):
 Tr w ρ (Ee w (.map #[] 0)) (ρ.Be id (.map w.heap.size))/\OM (Ee w (.map #[] 0)) (ρ.Be id (.map w.heap.size)) ((id,.map [])::ob)/\
  (V.mp id).Ax (Ee w (.map #[] 0)) (ρ.Be id (.map w.heap.size)) (.map (some w.heap.size)):=by
 have c:=Wa w (.map #[] 0);have e:=Uo _ c (o:=.map w.heap.size) (h.free d) (λb a=>by simp[RO.blk?]at a;omega);refine⟨e,h.Be c d (λb a=>by simp[RO.blk?]at a;omega) ?_,?_⟩
 ·exact⟨w.heap.size,[],0,by simp[A9.Be],Wi _ _,rfl,rfl,trivial⟩
 ·exact QX.2 (.inl ⟨w.heap.size,by simp[A9.Be],rfl⟩)
def EV(w:World)(b:Nat)(o:Obj):World:={w with heap:=w.heap.setIfInBounds b o}
def VA(w:World){b:Nat}(o:Obj)(h:b<w.heap.size):(EV w b o).heap[b]? = some o:=by
 show(w.heap.setIfInBounds b o)[b]? = some o;simp[h]
def Wf(w:World){b j:Nat}(o:Obj)(h:b≠j):(EV w b o).heap[j]? = w.heap[j]?:=by
 show(w.heap.setIfInBounds b o)[j]? = w.heap[j]?;simp[UE,h]
def Ud(w:World)(b:Nat)(o:Obj):(EV w b o).heap.size=w.heap.size:=by
 show(w.heap.setIfInBounds b o).size=w.heap.size;simp
def yt(h:OM w ρ ob){id:Nat}{u c:List (D×V)}{b:Nat}{l a:List MapEntry}{g clk':Nat}(s:AB ob id=some (.map u))(p:ρ.m id=some (.map b))
 (z:w.heap[b]? = some (.map l.toArray g)) (q:Yj w ρ c a) (k:clk'=a.length/\FW 0 a):
 Tr w ρ (EV w b (.map a.toArray clk')) ρ/\OM (EV w b (.map a.toArray clk')) ρ (AG ob id (.map c)):=by
 have f:Tr w ρ (EV w b (.map a.toArray clk')) ρ:=by
  refine⟨by rw[Ud];exact Bg _,λj n _=>Wf w _ (λe=>n ?_),λ_ h=>.inl h,rfl,rfl,λ_ o h=>⟨o,h,.refl o⟩,rfl,rfl,rfl,Bg _⟩;subst e;exact⟨id,_,p,rfl⟩
 refine⟨f,λj y d=>?_,λj o n=>?_,h.inj,λr i=>by rw[Ud];exact h.E9 r i,Ly f h.EF,h.Dm,h.Cn.set⟩
 ·rw[Xb ob id j ⟨_,s⟩]at d;split at d
  next e=>subst e;simp at d;subst d;exact⟨b,a,clk',p,VA w _ (Xl z),Yj.tr f _ _ q,k⟩
  next e=>refine Je.tr f (h.BW j y d) rfl (λr o v x=>Wf w _ (λt=>e ?_));subst t;exact h.inj j id _ _ _ v p x rfl
 ·rw[Xb ob id j ⟨_,s⟩];split
  ·exact⟨_,rfl⟩
  ·exact h.EY j o n
end
def JC(P:Program)(o:Oper)(a:Act)(next:Act->World->Prop)(Q:Exit->Act->World->Prop):Result Next->Prop
|.ok (.value v) e=>next (a.put o.dst v) e
|.ok .skip e=>next (a.put o.dst undef) e
|.ok (.enter f g) e=>Calls P f g e λ
 |.returned v,c=>next (a.put o.dst v) c
 |.panicked b,c=>Q (.panic b) a c
 |.outgrown,_=>LetsOut Q
|.ok (.round l f i d h) e=>RoundIn Fence.wide 0 P l f i d h e λ
 |.returned v,c=>next (a.put o.dst v) c
 |.panicked b,c=>Q (.panic b) a c
 |.outgrown,_=>LetsOut Q
|.halt (.panic v) e=>Q (.panic [{v,recovered:=false}]) a e
|_=>False
def EH(P:Program)(o:Oper)(a:Act)(w:World)(next:Act->World->Prop)(Q:Exit->Act->World->Prop):Prop:=
 JC P o a next Q ((execOp a.eval o).run P w)
def GY:Option Nat->Fence
|none=>Fence.wide
|some l=>Fence.wide.inRound l
def WY(r:Option Nat)(f:Nat):(GY r).fn f:=by cases r<;>exact trivial
def xp(r:Option Nat):(GY r).depth=none:=by cases r<;>rfl
def xq(r:Option Nat):(GY r).round=r:=by cases r<;>rfl
def xn{r:Option Nat}{n:Nat}{P:Program}{f:Nat}{a:Array Value}{w:World}{R:Ending->World->Prop}(h:Calls P f a w R):CallsIn (GY r) n P f a w R:=by
 cases r with
 |none=>exact callsIn_wide.2 h
 |some l=>exact(callsIn_wide (n:=n).2 h).inRound l
def X13{r:Option Nat}{n:Nat}{P:Program}{l f:Nat}{d:Array Value}{a b:Code}{w:World}{R:Ending->World->Prop}(h:RoundIn Fence.wide 0 P l f d a b w R):RoundIn (GY r) n P l f d a b w R:=by
 have e:RoundIn Fence.wide n P l f d a b w R:=⟨h.1,λc g _=>h.2 c g (room_wide _)⟩
 cases r with
 |none=>exact e
 |some j=>exact e
section
variable {P:Program} {ops:Array Oper} {Q:Exit->Act->World->Prop} {md:Region.Mode} {S:World->Prop}
def Ymj{o:Oper}(d:∀c,o.op≠.defer c){a:Act}{w:World}{next:Act->World->Prop}{r:Option Nat}(h:EH P o a w next Q):o.wpIn (GY r) 0 P a w next Q:=by
 unfold Oper.wpIn;refine⟨λf _=>WY r f,?_⟩;have e:o.semAt (GY r).round a.eval=execOp a.eval o:=by
  rw[xq];cases r with
  |none=>exact Oper.semAt_none _ _
  |some l=>exact Oper.semAt_some l _ o d
 rw[e];unfold EH at h;generalize (execOp a.eval o).run P w=x at h⊢;have b:(GY r).depth.isSome=true->1<=0:=λh=>by rw[xp]at h;cases h
 cases x with
 |ok n g=>
  cases n<;>simp only[JC]at h<;>simp only[Oper.uponIn]
  case value=>exact h
  case skip=>exact h
  case enter=>exact⟨b,xn h⟩
  case round=>exact⟨b,X13 h⟩
 |halt x g=>
  cases x<;>simp only[JC]at h<;>simp only[Oper.uponIn];exact h
def sM{o:Oper}{a:Act}{w:World}{K f:Act->World->Prop}(h:∀a w,K a w->f a w)(b:EH P o a w K Q):EH P o a w f Q:=by
 unfold EH at *;generalize (execOp a.eval o).run P w=r at *;cases r with
 |ok n g=>
  cases n<;>simp only[JC]at b⊢
  case value=>exact h _ _ b
  case skip=>exact h _ _ b
  case enter=>exact Calls.mono b (λe d c=>by cases e<;>first|exact h _ _ c|exact c)
  case round=>exact RoundIn.mono b (λe d c=>by cases e<;>first|exact h _ _ c|exact c)
 |halt x g=>cases x<;>simp only[JC]at b⊢<;>exact b
def HU(P:Program)(ops:Array Oper)(Q:Exit->Act->World->Prop)(i:Nat)(K:Act->World->Prop)(a:Act)(w:World):Prop:=
 match ops[i]? with
 |none=>K a w
 |some o=>if Region.wanted o (yielded ops a.tmps) then EH P o a w K Q else K (a.put o.dst undef) w
def Qc{i:Nat}{a:Act}{w:World}{K d:Act->World->Prop}(h:∀a w,K a w->d a w)(b:HU P ops Q i K a w):HU P ops Q i d a w:=by
 unfold HU at *;split
 ·exact h _ _ (by simpa[*]using b)
 ·rename_i o e;simp only[e]at b;split
  next c=>simp only[c,Bu]at b;exact sM h b
  next c=>simp only[c]at b;exact h _ _ b
def ye{i:Nat}{o:Oper}{v:Value}{a:Act}(d:ops[i]? = some o)(f:YieldsIf P ops S o v a)
 {K:Act->World->Prop} {w:World} (c:S w) (h:K (a.put o.dst v) w):HU P ops Q i K a w:=by
 unfold HU;simp only[d];rcases f with⟨b,e⟩|⟨b,rfl⟩
 ·simp only[b,Bu,EH,e w c,JC];exact h
 ·simp only[b,BO,Bs];exact h
def Xxi{j:Nat}{g i:Oper}{v:Value}(N:ops[j]? = some i)(s:g.apart ops i=true)
 (t:∀p b,g.op≠.select p b) (y:∀p b,i.op≠.select p b)
 (q:∀c a w,Q (.panic c) (a.put g.dst v) w->Q (.panic c) a w) {K:Act->World->Prop} {a:Act} {w:World}
 (m:YieldsIf P ops S g v a) (h:HU P ops Q j K (a.put g.dst v) w):
 HU P ops Q j (λH F=>YieldsIf P ops S g v H/\K (H.put g.dst v) F) a w:=by
 obtain⟨J,o,L⟩:=Oper.apart_spec s;have d:∀(a:Act),YieldsIf P ops S g v a->∀u,YieldsIf P ops S g v (a.put i.dst u):=λa m u=>
  m.of_same (execOp_put g t a i.dst u L) (wanted_put g a i.dst u L)
 unfold HU at *;simp only[N]at *;rw[wanted_put i a g.dst v J]at h;split
 ·rename_i z;simp only[z,Bu]at h;unfold EH at *;rw[execOp_put i y a g.dst v J]at h;generalize (execOp a.eval i).run P w=r at *;cases r with
  |ok n F=>
   cases n<;>simp only[JC]at h⊢
   case value u=>exact⟨d a m u,by rw[<-Act.put_comm a v u o];exact h⟩
   case skip=>exact⟨d a m _,by rw[<-Act.put_comm a v undef o];exact h⟩
   case enter f args=>
    refine Calls.mono h λe G k=>?_;cases e with
    |returned u=>exact⟨d a m u,by rw[<-Act.put_comm a v u o];exact k⟩
    |panicked c=>exact q _ _ _ k
    |outgrown=>exact k
   case round l f tm as bd=>
    refine RoundIn.mono h λe G k=>?_;cases e with
    |returned u=>exact⟨d a m u,by rw[<-Act.put_comm a v u o];exact k⟩
    |panicked c=>exact q _ _ _ k
    |outgrown=>exact k
  |halt x F=>
   cases x<;>simp only[JC]at h⊢
   case panic u=>exact q _ _ _ h
 next z=>simp only[z]at h;exact⟨d a m _,by rw[<-Act.put_comm a v undef o];exact h⟩
def Qx(P:Program)(ops:Array Oper)(Q:Exit->Act->World->Prop):List Oper->Act->World->Prop
|[],a,w=>Q .normal a w
|o::b,a,w=>if Region.wanted o (yielded ops a.tmps) then EH P o a w (Qx P ops Q b) Q else Qx P ops Q b (a.put o.dst undef) w
def cQ{r:Option Nat}:∀(l:List Oper),(∀o∈l,∀c,o.op≠.defer c)->∀(a:Act)(w:World),Qx P ops Q l a w->wpListIn (GY r) 0 P ops Q l a w
|[],_,a,w,h=>h
|o::b,e,a,w,h=>by
 simp only[Qx]at h;simp only[wpListIn];split
 next g=>rw[BS g]at h;exact Ymj (e o (by simp)) (sM (λj k=>cQ b (λi d=>e i (by simp[d])) j k) h)
 next g=>rw[Aq g]at h;exact⟨λf _=>WY r f,cQ b (λi d=>e i (by simp[d])) _ _ h⟩
def S6(P:Program)(md:Region.Mode)(ops:Array Oper)(Q:Exit->Act->World->Prop):Nat->Array Bool->Act->World->Prop
|0,b,a,w=>Region.ready md ops b=[]/\Q .normal a w
|c+1,b,a,w=>
 (Region.ready md ops b=[]->Q .normal a w)/\
 ∀i∈Region.ready md ops b,HU P ops Q i (S6 P md ops Q c (b.setIfInBounds i true)) a w
def Yii{r:Option Nat}(e:∀o∈ops.toList,∀c,o.op≠.defer c){i:Nat}{K:Act->World->Prop}{a:Act}{w:World}(h:HU P ops Q i K a w):wpOpIn (GY r) 0 P ops Q i K a w:=by
 unfold HU at h;unfold wpOpIn;cases b:ops[i]? with
 |none=>simpa[b]using h
 |some o=>
  simp only[b]at h⊢;split
  next d=>rw[BS d]at h;exact Ymj (e o (by simpa using UF b)) h
  next d=>rw[Aq d]at h;exact⟨λf _=>WY r f,h⟩
def dj{r:Option Nat}(e:∀o∈ops.toList,∀c,o.op≠.defer c):∀(b:Nat)(d:Array Bool)(a:Act)(w:World),S6 P md ops Q b d a w->wpAnyIn (GY r) 0 P md ops Q b d a w
|0,_,_,_,h=>h
|b+1,_,_,_,h=>⟨h.1,λi j=>wpOpIn_mono (λf k g=>dj e b _ f k g) (Yii e (h.2 i j))⟩
end
end Go.Ab
